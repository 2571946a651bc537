/-
  Texts of one proof, one behind the other. Conditions: each text's own line says them.
-/
import Derived.Test.YtcdjdnbdblpofaaDoorPL25
import Derived.Test.YtcdjdnbdblpofaaDoorPL24
import Derived.Test.YtcdjdnbdblpofaaDoorPL31
import Derived.Test.YtcdjdnbdblpofaaDoorPL32

/- The calls that may change a state, each in one contract, for both sides. Conditions: the states are some. -/
namespace Go.Proofs.YtcdjdnbdblpofaaDoor
open Go.RowKit Go.Maps
set_option linter.unusedSimpArgs false
set_option linter.unusedVariables false

/-- What is known, in a world: the tables, the accounts, their list. -/
structure Bas (w : World) (L : List Kw) (lv : Value) : Prop where
  sz : 3 ≤ w.heap.size
  kt : KT w
  ok : ∀ K ∈ L, Kok w K
  kn : knL w lv L
theorem Bas.below {w w' : World} {L : List Kw} {lv : Value} (h : Bas w L lv) (hb : Below w.heap.size w w') : Bas w' L lv :=
  ⟨Nat.le_trans h.sz hb.size, h.kt.below hb h.sz, fun K hK => (h.ok K hK).below hb, h.kn.below hb⟩
theorem Bas.ba {w : World} {L : List Kw} {lv : Value} (h : Bas w L lv) : ∀ K ∈ L, K.ba < Q256 := fun K hK => (h.ok K hK).ba
theorem loaN_err (L : List Kw) (R : List Chg) (a : ByteArray) (k : Nat) : (loaN L R a k).2 = 0 ∨ (loaN L R a k).2 = 190 := by
  unfold loaN
  split
  · exact .inl rfl
  · exact oriN_err L a k

def mvOk (L : List Kw) (R : List Chg) (f t : ByteArray) (n : Nat) : Bool := (kfind L f).isSome && ((kfind L t).isSome && !(ltB (baF L R f) n))
def saR' (L : List Kw) (R : List Chg) (p : ByteArray × Nat) (v : Nat) : List Chg := if (loaN L R p.1 p.2).2 = 0 then .save p v :: R else R
def moR (L : List Kw) (R : List Chg) (f t : ByteArray) (n : Nat) : List Chg := if mvOk L R f t n = true then .move f t n :: R else R
def moE (L : List Kw) (R : List Chg) (f t : ByteArray) (n : Nat) : Int := if (kfind L f).isSome = true ∧ (kfind L t).isSome = true then (if ltB (baF L R f) n = false then 0 else 191) else 190
def waR (R : List Chg) (a : ByteArray) : List Chg := if wmF R a = true then R else .warm a :: R
def wcR (R : List Chg) (p : ByteArray × Nat) : List Chg := if ceF R p = true then R else .cell p :: R

section
variable {W : World} {F G : Nat → Prop} {b q N : Nat} {L : List Kw} {lv : Value} {R : List Chg}

theorem Save_U (h : SRep W F b N L R) (hB : Bas W L lv) {a : ByteArray} {k : Nat} (hp : okP (a, k)) (v : Nat) (hR : R.length ≤ 1000) (hN : N ≤ 900000) :
    Calls Tryd.prog 21 #[ptr (b + 6), .string a, W4 k, W4 v] W (muPost W F b (N + 2 * R.length + 2) L (saR' L R (a, k) v) (.int .i64 (loaN L R a k).2)) := by
  unfold saR'
  dsimp only
  rcases loaN_err L R a k with e | e
  · rw [if_pos e, e]
    exact (Save_ok h hB.sz hB.kt hB.ok hp v (by omega) (by omega) e).mono fun e w' hm => hm.monoN (by omega)
  · rw [if_neg (by omega), e]
    exact (Save_no h hB.sz hB.kt hB.ok hp v e).mono fun e w' hm => hm.monoN (by omega)
theorem Save_R (h : RRep W G q lv R) (hB : Bas W L lv) (hok : ∀ c ∈ R, c.ok) {a : ByteArray} {k : Nat} (hp : okP (a, k)) (v : Nat) (hR : R.length ≤ 1000) :
    Calls Tryd.prog 44 #[ptr q, .string a, W4 k, W4 v] W (mrPost W G q lv (saR' L R (a, k) v) (.int .i64 (loaN L R a k).2)) := by
  unfold saR'
  dsimp only
  rcases loaN_err L R a k with e | e
  · rw [if_pos e, e]
    exact Save_Rok h hB.kn hB.ok (by omega) hok a k v hp.2 e
  · rw [if_neg (by omega), e]
    exact Save_Rno h hB.kn hB.ok (by omega) hok a k v hp.2 e
theorem SaveBrief_U (h : SRep W F b N L R) {a : ByteArray} {k : Nat} (hp : okP (a, k)) (v : Nat) (hR : R.length ≤ 1000) (hN : N ≤ 900000) :
    Calls Tryd.prog 22 #[ptr (b + 6), .string a, W4 k, W4 v] W (muPost W F b (N + 2 * R.length + 2) L (.brief (a, k) v :: R) (.int .i64 0)) :=
  (SaveBrief_S h hp v (by omega) (by omega)).mono fun e w' hm => hm.monoN (by omega)
theorem Move_U (h : SRep W F b N L R) (hB : Bas W L lv) {f t : ByteArray} {n : Nat} (hf : okT f) (ht : okT t) (hn : n < Q256) (hR : R.length ≤ 1000) (hN : N ≤ 900000) :
    Calls Tryd.prog 32 #[ptr (b + 6), .string f, .string t, W4 n] W (muPost W F b (N + 2 * R.length + 2) L (moR L R f t n) (.int .i64 (moE L R f t n))) := by
  cases hf1 : kfind L f with
  | none =>
    rw [show moR L R f t n = R by simp [moR, mvOk, hf1], show moE L R f t n = 190 by simp [moE, hf1]]
    exact (Move_no h n hf ht (.inl hf1)).mono fun e w' hm => (h.keep hm).monoN (by omega)
  | some Kf =>
    cases ht1 : kfind L t with
    | none =>
      rw [show moR L R f t n = R by simp [moR, mvOk, ht1], show moE L R f t n = 190 by simp [moE, ht1]]
      exact (Move_no h n hf ht (.inr ht1)).mono fun e w' hm => (h.keep hm).monoN (by omega)
    | some Kt =>
      cases hl : ltB (baF L R f) n with
      | false =>
        rw [show moR L R f t n = .move f t n :: R by simp [moR, mvOk, hf1, ht1, hl], show moE L R f t n = 0 by simp [moE, hf1, ht1, hl]]
        exact (Move_ok h hB.ba hf ht hn hf1 ht1 hl (by omega) (by omega)).mono fun e w' hm => hm.monoN (by omega)
      | true =>
        rw [show moR L R f t n = R by simp [moR, mvOk, hl], show moE L R f t n = 191 by simp [moE, hf1, ht1, hl]]
        exact (Move_poor h hB.ba hf ht hn hf1 ht1 hl).mono fun e w' hm => (h.keep hm).monoN (by omega)
theorem Move_R (h : RRep W G q lv R) (hB : Bas W L lv) (hok : ∀ c ∈ R, c.ok) (f t : ByteArray) {n : Nat} (hn : n < Q256) (hR : R.length ≤ 1000) :
    Calls Tryd.prog 46 #[ptr q, .string f, .string t, W4 n] W (mrPost W G q lv (moR L R f t n) (.int .i64 (moE L R f t n))) := by
  cases hf1 : kfind L f with
  | none =>
    rw [show moR L R f t n = R by simp [moR, mvOk, hf1], show moE L R f t n = 190 by simp [moE, hf1]]
    exact Move_Rno h hB.kn (by omega) hok hB.ba f t n hn (.inl hf1)
  | some Kf =>
    cases ht1 : kfind L t with
    | none =>
      rw [show moR L R f t n = R by simp [moR, mvOk, ht1], show moE L R f t n = 190 by simp [moE, ht1]]
      exact Move_Rno h hB.kn (by omega) hok hB.ba f t n hn (.inr ht1)
    | some Kt =>
      cases hl : ltB (baF L R f) n with
      | false =>
        rw [show moR L R f t n = .move f t n :: R by simp [moR, mvOk, hf1, ht1, hl], show moE L R f t n = 0 by simp [moE, hf1, ht1, hl]]
        exact Move_Rok h hB.kn (by omega) hok hB.ba f t n hn hf1 ht1 hl
      | true =>
        rw [show moR L R f t n = R by simp [moR, mvOk, hl], show moE L R f t n = 191 by simp [moE, hf1, ht1, hl]]
        exact Move_Rpoor h hB.kn (by omega) hok hB.ba f t n hn hf1 ht1 hl
theorem Warm_U (h : SRep W F b N L R) {a : ByteArray} (ha : okT a) (hR : R.length ≤ 1000) (hN : N ≤ 900000) :
    Calls Tryd.prog 23 #[ptr (b + 6), .string a] W (muPost W F b (N + 2 * R.length + 2) L (waR R a) (.bool (wmF R a))) := by
  unfold waR
  cases hw : wmF R a with
  | true =>
    rw [if_pos rfl]
    exact (Warm_old h ha hw).mono fun e w' hm => hm.monoN (by omega)
  | false =>
    rw [if_neg (by simp)]
    exact (Warm_new h ha hw (by omega) (by omega)).mono fun e w' hm => hm.monoN (by omega)
theorem Warm_R (h : RRep W G q lv R) (hok : ∀ c ∈ R, c.ok) (a : ByteArray) (hR : R.length ≤ 1000) :
    Calls Tryd.prog 47 #[ptr q, .string a] W (mrPost W G q lv (waR R a) (.bool (wmF R a))) := by
  unfold waR
  cases hw : wmF R a with
  | true =>
    rw [if_pos rfl]
    exact Warm_Rold h (by omega) hok a hw
  | false =>
    rw [if_neg (by simp)]
    exact Warm_Rnew h (by omega) hok a hw
theorem WarmCell_U (h : SRep W F b N L R) {a : ByteArray} {k : Nat} (hp : okP (a, k)) (hR : R.length ≤ 1000) (hN : N ≤ 900000) :
    Calls Tryd.prog 24 #[ptr (b + 6), .string a, W4 k] W (muPost W F b (N + 2 * R.length + 2) L (wcR R (a, k)) (.bool (ceF R (a, k)))) := by
  unfold wcR
  cases hw : ceF R (a, k) with
  | true =>
    rw [if_pos rfl]
    exact (WarmCell_old h hp hw).mono fun e w' hm => hm.monoN (by omega)
  | false =>
    rw [if_neg (by simp)]
    exact (WarmCell_new h hp hw (by omega) (by omega)).mono fun e w' hm => hm.monoN (by omega)
theorem WarmCell_R (h : RRep W G q lv R) (hok : ∀ c ∈ R, c.ok) {a : ByteArray} {k : Nat} (hp : okP (a, k)) (hR : R.length ≤ 1000) :
    Calls Tryd.prog 48 #[ptr q, .string a, W4 k] W (mrPost W G q lv (wcR R (a, k)) (.bool (ceF R (a, k)))) := by
  unfold wcR
  cases hw : ceF R (a, k) with
  | true =>
    rw [if_pos rfl]
    exact WarmCell_Rold h (by omega) hok a k hp.2 hw
  | false =>
    rw [if_neg (by simp)]
    exact WarmCell_Rnew h (by omega) hok a k hp.2 hw
theorem Log_U (h : SRep W F b N L R) (l : Lg) (hR : R.length ≤ 1000) :
    Calls Tryd.prog 19 #[ptr (b + 6), l.v] W (muPost W F b (N + 2 * R.length + 2) L (.note l :: R) (.int .i64 0)) :=
  (Log_S h l (by omega)).mono fun e w' hm => hm.monoN (by omega)
theorem Back_U (h : SRep W F b N L R) (hB : Bas W L lv) (hok : Rok L R) (m : Int) (hm : -9223372036854775808 ≤ m ∧ m ≤ 9223372036854775807) (hR : R.length ≤ 1000) (hN : N ≤ 900000) :
    Calls Tryd.prog 31 #[ptr (b + 6), .int .i64 m] W (muPost W F b (N + 2 * R.length + 2) L (bkR R m) (.int .i64 (bkE R m))) :=
  (Back_S h (by omega) hok hB.ba m hm).mono fun e w' hm => hm.monoN (by omega)
theorem Back_RU (h : RRep W G q lv R) (m : Int) (hm : -9223372036854775808 ≤ m ∧ m ≤ 9223372036854775807) (hR : R.length ≤ 1000) :
    Calls Tryd.prog 50 #[ptr q, .int .i64 m] W (mrPost W G q lv (bkR R m) (.int .i64 (bkE R m))) := by
  unfold bkR bkE
  by_cases hm1 : 0 ≤ m ∧ m ≤ R.length
  · rw [if_pos hm1, if_pos hm1]
    obtain ⟨n, rfl⟩ : ∃ n : Nat, m = n := ⟨m.toNat, by omega⟩
    rw [Int.toNat_natCast]
    exact Back_R h (by omega) n (by omega)
  · rw [if_neg hm1, if_neg hm1]
    exact (Back_no h (by omega) m (by omega) hm).mono fun e w' hb => h.keep hb
end

/-- What a call leaves of the changes; k: its kind. -/
def stp (L : List Kw) (R : List Chg) (x : Opx) (k : Int) : List Chg :=
  if k = 5 then saR' L R (x.a, x.ke) x.va
  else if k = 7 then .brief (x.a, x.ke) x.va :: R
  else if k = 8 then moR L R x.a x.b x.va
  else if k = 9 then waR R x.a
  else if k = 10 then wcR R (x.a, x.ke)
  else if k = 11 then .note ⟨x.a, none, 0, 0, x.b, []⟩ :: R
  else if k = 12 then bkR R x.n
  else R
theorem stp_new (L : List Kw) (R : List Chg) (x : Opx) {k : Int} (hk : k ≠ 12) : stp L R x k = R ∨ ∃ c, stp L R x k = c :: R := by
  unfold stp saR' moR waR wcR
  repeat' split
  all_goals first | exact .inl rfl | exact .inr ⟨_, rfl⟩ | exact absurd ‹_› hk
theorem stp_ok {L : List Kw} {R : List Chg} {x : Opx} (hx : x.ok) (h : Rok L R) (k : Int) : Rok L (stp L R x k) := by
  unfold stp saR' moR waR wcR
  split
  · split
    · exact ⟨⟨⟨hx.a, hx.ke⟩, hx.va⟩, trivial, trivial, h⟩
    · exact h
  · split
    · exact ⟨⟨⟨hx.a, hx.ke⟩, hx.va⟩, trivial, trivial, h⟩
    · split
      · split
        · rename_i hm
          simp only [mvOk, Bool.and_eq_true] at hm
          exact ⟨⟨hx.a, hx.b, hx.va⟩, ⟨Option.isSome_iff_exists.1 hm.1, Option.isSome_iff_exists.1 hm.2.1⟩, trivial, h⟩
        · exact h
      · split
        · split
          · exact h
          · rename_i hw
            exact ⟨hx.a, trivial, by show wmF R x.a = false; simpa using hw, h⟩
        · split
          · split
            · exact h
            · rename_i hw
              exact ⟨⟨hx.a, hx.ke⟩, trivial, by show ceF R (x.a, x.ke) = false; simpa using hw, h⟩
          · split
            · exact ⟨trivial, trivial, trivial, h⟩
            · split
              · unfold bkR
                split
                · exact h.drop _
                · exact h
              · exact h
theorem stp_len (L : List Kw) (R : List Chg) (x : Opx) (k : Int) : (stp L R x k).length ≤ R.length + 1 := by
  by_cases hk : k = 12
  · subst hk
    show (bkR R x.n).length ≤ _
    unfold bkR
    split
    · rw [List.length_drop]; omega
    · omega
  · rcases stp_new L R x hk with e | ⟨c, e⟩
    · rw [e]; omega
    · rw [e]; simp

/-- The two states; nothing of them was there in the world W0, of which nothing has turned. -/
structure Two (W0 w : World) (F G : Nat → Prop) (b q N : Nat) (L : List Kw) (lv : Value) (R Q : List Chg) : Prop where
  s : SRep w F b N L R
  r : RRep w G q lv Q
  slow : ∀ k, F k → W0.heap.size ≤ k
  rlow : ∀ k, G k → W0.heap.size ≤ k
  dis : ∀ k, F k → ¬ G k
  bel : Below W0.heap.size W0 w
/-- What is of neither stays. -/
def Kp (w w' : World) (F G F' G' : Nat → Prop) : Prop := w.heap.size ≤ w'.heap.size ∧ ∀ k, k < w.heap.size → ¬ F k → ¬ G k → ¬ F' k ∧ ¬ G' k ∧ w'.heap[k]? = w.heap[k]?
theorem Kp.refl (w : World) (F G : Nat → Prop) : Kp w w F G F G := ⟨Nat.le_refl _, fun _ _ h1 h2 => ⟨h1, h2, rfl⟩⟩
theorem Kp.trans {w w' w'' : World} {F G F' G' F'' G'' : Nat → Prop} (h : Kp w w' F G F' G') (h2 : Kp w' w'' F' G' F'' G'') : Kp w w'' F G F'' G'' :=
  ⟨Nat.le_trans h.1 h2.1, fun k hk hF hG => by
    obtain ⟨a, b, c⟩ := h.2 k hk hF hG
    obtain ⟨a2, b2, c2⟩ := h2.2 k (Nat.lt_of_lt_of_le hk h.1) a b
    exact ⟨a2, b2, c2.trans c⟩⟩
theorem Kp.below {w w' w'' : World} {F G F' G' : Nat → Prop} (h : Kp w w' F G F' G') (hb : Below w'.heap.size w' w'') : Kp w w'' F G F' G' :=
  ⟨Nat.le_trans h.1 hb.size, fun k hk hF hG => by
    obtain ⟨a, b, c⟩ := h.2 k hk hF hG
    exact ⟨a, b, (hb.block k (Nat.lt_of_lt_of_le hk h.1)).trans c⟩⟩
theorem Kp.cell {w w' : World} {F G F' G' : Nat → Prop} (h : Kp w w' F G F' G') {k o : Nat} {v : Value} (hv : w.cell? ⟨k, o, none⟩ = some v) (hF : ¬ F k) (hG : ¬ G k) : w'.cell? ⟨k, o, none⟩ = some v :=
  (World.cell?_of_block (a := ⟨k, o, none⟩) (h.2 k (cell_lt hv) hF hG).2.2).trans hv
section
variable {W0 w w' : World} {F G : Nat → Prop} {b q N : Nat} {L : List Kw} {lv : Value} {R Q : List Chg}
theorem Two.below (h : Two W0 w F G b q N L lv R Q) (hb : Below w.heap.size w w') : Two W0 w' F G b q N L lv R Q :=
  ⟨h.s.below hb, h.r.below hb, h.slow, h.rlow, h.dis, h.bel.trans (hb.mono h.bel.size)⟩
theorem Two.stepS {N' : Nat} {R' : List Chg} {v : Value} {e : Ending} (h : Two W0 w F G b q N L lv R Q) (hm : muPost w F b N' L R' v e w') :
    e = .returned v ∧ ∃ F', Two W0 w' F' G b q N' L lv R' Q ∧ Kp w w' F G F' G := by
  obtain ⟨he, F', h1, h2, h3, h4⟩ := hm
  have hlow : ∀ k, F' k → W0.heap.size ≤ k := fun k hk => by
    rcases h4 k hk with hx | hx
    · exact h.slow k hx
    · exact Nat.le_trans h.bel.size hx
  have hdis : ∀ k, F' k → ¬ G k := fun k hk hg => by
    rcases h4 k hk with hx | hx
    · exact h.dis k hx hg
    · have := h.r.glt k hg
      omega
  exact ⟨he, F', ⟨h1, h.r.same h2.size fun k hk => h2.block k (h.r.glt k hk) fun hF => h.dis k hF hk, hlow, h.rlow, hdis, h.bel.trans (h2.toBelow h.bel.size h.slow)⟩, h2.size, fun k hk hF hG => ⟨fun hx => (h4 k hx).elim hF (fun e => by omega), hG, h2.block k hk hF⟩⟩
theorem Two.stepR {Q' : List Chg} {v : Value} {e : Ending} (h : Two W0 w F G b q N L lv R Q) (hm : mrPost w G q lv Q' v e w') :
    e = .returned v ∧ ∃ G', Two W0 w' F G' b q N L lv R Q' ∧ Kp w w' F G F G' := by
  obtain ⟨he, G', h1, h2, h3, h4⟩ := hm
  have hlow : ∀ k, G' k → W0.heap.size ≤ k := fun k hk => by
    rcases h4 k hk with hx | hx
    · exact h.rlow k hx
    · exact Nat.le_trans h.bel.size hx
  have hdis : ∀ k, F k → ¬ G' k := fun k hF hk => by
    rcases h4 k hk with hx | hx
    · exact h.dis k hF hx
    · have := h.s.flt k hF
      omega
  exact ⟨he, G', ⟨h.s.same h2.size fun k hk => h2.block k (h.s.flt k hk) (h.dis k hk), h1, h.slow, hlow, hdis, h.bel.trans (h2.toBelow h.bel.size h.rlow)⟩, h2.size, fun k hk hF hG => ⟨hF, fun hx => (h4 k hx).elim hG (fun e => by omega), h2.block k hk hG⟩⟩
end
end Go.Proofs.YtcdjdnbdblpofaaDoor

/- pick and asks: a call that only asks is answered alike by both. Conditions: the states are some. -/
namespace Go.Proofs.YtcdjdnbdblpofaaDoor
open Go.RowKit Go.Maps
attribute [local go_sem] leftBy leaves eqW guardW
set_option linter.unusedSimpArgs false
set_option linter.unusedVariables false

/-- Which of thirteen kinds a number speaks of. -/
def pkN (c : Int) : Int := if c < 0 then (-(c + 1)) % 13 else c % 13
theorem pkN_range (c : Int) : 0 ≤ pkN c ∧ pkN c < 13 := by
  unfold pkN
  split <;> omega

set_option maxRecDepth 100000 in
set_option maxHeartbeats 8000000 in
theorem pick_any (c : Int) (hc : -9223372036854775808 ≤ c ∧ c ≤ 9223372036854775807) (W : World) :
    Calls Tryd.prog 30 #[.int .i64 c, .int .i64 13] W fun e w' => e = .returned (.int .i64 (pkN c)) ∧ w' = W := by
  unfold pkN
  by_cases h0 : c < 0
  · rw [if_pos h0]
    go_enter Tryd.func30, Tryd.ntmps30
    go_wp2
    go_ret
    exact ⟨by show Ending.returned (Value.int .i64 (-((c + 1).tmod 13))) = _; rw [← Int.neg_tmod, Int.tmod_eq_emod_of_nonneg (by omega)], rfl⟩
  · rw [if_neg h0]
    go_enter Tryd.func30, Tryd.ntmps30
    go_wp2
    go_ret
    exact ⟨rfl, rfl⟩

theorem codV_form (L : List Kw) (a : ByteArray) : ∃ (c : ByteArray) (e : Int), codV L a = .tuple #[.string c, .int .i64 e] := by
  unfold codV
  split <;> exact ⟨_, _, rfl⟩
theorem digV_form (L : List Kw) (a : ByteArray) : ∃ (c : Nat) (e : Int), digV L a = .tuple #[W4 c, .int .i64 e] := by
  unfold digV
  split <;> exact ⟨_, _, rfl⟩

section
variable {W : World} {F G : Nat → Prop} {b q N : Nat} {L : List Kw} {lv : Value} {R : List Chg}

set_option maxRecDepth 100000 in
set_option maxHeartbeats 16000000 in
theorem asks_any (h : SRep W F b N L R) (r : RRep W G q lv R) (hB : Bas W L lv) (hok : Rok L R) (hR : R.length ≤ 1000) (x : Opx) (hx : x.ok) :
    Calls Tryd.prog 51 #[ptr (b + 6), ptr q, x.v] W fun e w' => e = .returned (.bool true) ∧ Below W.heap.size W w' := by
  have hc := hok.all
  obtain ⟨hki, hxa, hxb, hke, hva, hn⟩ := hx
  obtain ⟨k, a, b', ke, va, n⟩ := x
  dsimp only at *
  have bel : ∀ o, Below W.heap.size W (W.alloc o) := fun o => (Below.refl _ W).alloc (Nat.le_refl _) _
  by_cases hk0 : k = 0
  · subst hk0
    have c1 : ∀ w, Below W.heap.size W w → Calls Tryd.prog 11 #[ptr (b + 6), .string a] w fun e w' => e = .returned (.tuple #[W4 (balN L R a), .int .i64 (kerr L a)]) ∧ Below w.heap.size w w' := fun w hb => Balance_S (h.below hb) hxa
    have c2 : ∀ w, Below W.heap.size W w → Calls Tryd.prog 62 #[ptr q, .string a] w fun e w' => e = .returned (.tuple #[W4 (balN L R a), .int .i64 (kerr L a)]) ∧ Below w.heap.size w w' := fun w hb => Balance_R (r.below hb) (hB.below hb).kn (by omega) hc hB.ba a
    generalize balN L R a = v1 at *
    generalize kerr L a = v2 at *
    clear h r hB hok hc
    unfold ptr Opx.v at *
    dsimp only
    go_enter Tryd.func51, Tryd.ntmps51
    go_wp2_with (first | (go_at_call 11; with_reducible refine (c1 _ (bel _)).mono ?_; rintro e wa ⟨rfl, hb_wa⟩; have hc_wa := (bcell hb_wa).1; have hf_wa := (bcell hb_wa).2; have hz_wa : _ ≤ wa.heap.size := hb_wa.size; (try simp only [World.size_alloc, World.heap_drewN, World.size_setCell, heap_drew] at hc_wa hf_wa hz_wa); have hz_wa_W_0 : W.heap.size < wa.heap.size := (by omega); have ba := fun o => ((bel _).trans (hb_wa.mono (bel _).size)).alloc (Nat.le_of_lt hz_wa_W_0) o) | (go_at_call 62; with_reducible refine (c2 _ (ba _)).mono ?_; rintro e wb ⟨rfl, hb_wb⟩; have hc_wb := (bcell hb_wb).1; have hf_wb := (bcell hb_wb).2; have hz_wb : _ ≤ wb.heap.size := hb_wb.size; (try simp only [World.size_alloc, World.heap_drewN, World.size_setCell, heap_drew] at hc_wb hf_wb hz_wb); have hz_wb_W_0 : W.heap.size < wb.heap.size := (by omega); have hz_wb_wa_0 : wa.heap.size < wb.heap.size := (by omega); have bb := (ba _).trans (hb_wb.mono (ba _).size)))
    go_ret
    exact ⟨rfl, bb.alloc (Nat.le_of_lt hz_wb_W_0) _⟩
  by_cases hk1 : k = 1
  · subst hk1
    have c1 : ∀ w, Below W.heap.size W w → Calls Tryd.prog 12 #[ptr (b + 6), .string a] w fun e w' => e = .returned (codV L a) ∧ Below w.heap.size w w' := fun w hb => Code_S (h.below hb) (hB.below hb).sz (hB.below hb).kt hxa
    have c2 : ∀ w, Below W.heap.size W w → Calls Tryd.prog 65 #[ptr q, .string a] w fun e w' => e = .returned (codV L a) ∧ Below w.heap.size w w' := fun w hb => Code_R (r.below hb) (hB.below hb).kn a
    obtain ⟨v1, v2, hv⟩ := codV_form L a
    rw [hv] at c1 c2
    clear hv
    clear h r hB hok hc
    unfold ptr Opx.v at *
    dsimp only
    go_enter Tryd.func51, Tryd.ntmps51
    go_wp2_with (first | (go_at_call 12; with_reducible refine (c1 _ (bel _)).mono ?_; rintro e wa ⟨rfl, hb_wa⟩; have hc_wa := (bcell hb_wa).1; have hf_wa := (bcell hb_wa).2; have hz_wa : _ ≤ wa.heap.size := hb_wa.size; (try simp only [World.size_alloc, World.heap_drewN, World.size_setCell, heap_drew] at hc_wa hf_wa hz_wa); have hz_wa_W_0 : W.heap.size < wa.heap.size := (by omega); have ba := (bel _).trans (hb_wa.mono (bel _).size)) | (go_at_call 65; with_reducible refine (c2 _ ba).mono ?_; rintro e wb ⟨rfl, hb_wb⟩; have hc_wb := (bcell hb_wb).1; have hf_wb := (bcell hb_wb).2; have hz_wb : _ ≤ wb.heap.size := hb_wb.size; (try simp only [World.size_alloc, World.heap_drewN, World.size_setCell, heap_drew] at hc_wb hf_wb hz_wb); have hz_wb_W_0 : W.heap.size < wb.heap.size := (by omega); have bb := ba.trans (hb_wb.mono ba.size)))
    go_ret
    exact ⟨rfl, bb⟩
  by_cases hk2 : k = 2
  · subst hk2
    have c1 : ∀ w, Below W.heap.size W w → Calls Tryd.prog 13 #[ptr (b + 6), .string a] w fun e w' => e = .returned (digV L a) ∧ Below w.heap.size w w' := fun w hb => Digest_S (h.below hb) (fun K hK => (hB.ok K hK).sz) hxa
    have c2 : ∀ w, Below W.heap.size W w → Calls Tryd.prog 66 #[ptr q, .string a] w fun e w' => e = .returned (digV L a) ∧ Below w.heap.size w w' := fun w hb => Digest_R (r.below hb) (hB.below hb).kn (fun K hK => (hB.ok K hK).sz) a
    obtain ⟨v1, v2, hv⟩ := digV_form L a
    rw [hv] at c1 c2
    clear hv
    clear h r hB hok hc
    unfold ptr Opx.v at *
    dsimp only
    go_enter Tryd.func51, Tryd.ntmps51
    go_wp2_with (first | (go_at_call 13; with_reducible refine (c1 _ (bel _)).mono ?_; rintro e wa ⟨rfl, hb_wa⟩; have hc_wa := (bcell hb_wa).1; have hf_wa := (bcell hb_wa).2; have hz_wa : _ ≤ wa.heap.size := hb_wa.size; (try simp only [World.size_alloc, World.heap_drewN, World.size_setCell, heap_drew] at hc_wa hf_wa hz_wa); have hz_wa_W_0 : W.heap.size < wa.heap.size := (by omega); have ba := fun o => ((bel _).trans (hb_wa.mono (bel _).size)).alloc (Nat.le_of_lt hz_wa_W_0) o) | (go_at_call 66; with_reducible refine (c2 _ (ba _)).mono ?_; rintro e wb ⟨rfl, hb_wb⟩; have hc_wb := (bcell hb_wb).1; have hf_wb := (bcell hb_wb).2; have hz_wb : _ ≤ wb.heap.size := hb_wb.size; (try simp only [World.size_alloc, World.heap_drewN, World.size_setCell, heap_drew] at hc_wb hf_wb hz_wb); have hz_wb_W_0 : W.heap.size < wb.heap.size := (by omega); have hz_wb_wa_0 : wa.heap.size < wb.heap.size := (by omega); have bb := (ba _).trans (hb_wb.mono (ba _).size)))
    go_ret
    exact ⟨rfl, bb.alloc (Nat.le_of_lt hz_wb_W_0) _⟩
  by_cases hk3 : k = 3
  · subst hk3
    have c1 : ∀ w, Below W.heap.size W w → Calls Tryd.prog 14 #[ptr (b + 6), .string a, W4 ke] w fun e w' => e = .returned (.tuple #[W4 (loaN L R a ke).1, .int .i64 (loaN L R a ke).2]) ∧ Below w.heap.size w w' := fun w hb => Load_all (h.below hb) (hB.below hb).sz (hB.below hb).kt (hB.below hb).ok ⟨hxa, hke⟩
    have c2 : ∀ w, Below W.heap.size W w → Calls Tryd.prog 61 #[ptr q, .string a, W4 ke] w fun e w' => e = .returned (.tuple #[W4 (loaN L R a ke).1, .int .i64 (loaN L R a ke).2]) ∧ Below w.heap.size w w' := fun w hb => Load_R (r.below hb) (hB.below hb).kn (hB.below hb).ok (by omega) hc a ke hke
    generalize (loaN L R a ke).1 = v1 at *
    generalize (loaN L R a ke).2 = v2 at *
    clear h r hB hok hc
    unfold ptr Opx.v at *
    dsimp only
    go_enter Tryd.func51, Tryd.ntmps51
    go_wp2_with (first | (go_at_call 14; with_reducible refine (c1 _ (bel _)).mono ?_; rintro e wa ⟨rfl, hb_wa⟩; have hc_wa := (bcell hb_wa).1; have hf_wa := (bcell hb_wa).2; have hz_wa : _ ≤ wa.heap.size := hb_wa.size; (try simp only [World.size_alloc, World.heap_drewN, World.size_setCell, heap_drew] at hc_wa hf_wa hz_wa); have hz_wa_W_0 : W.heap.size < wa.heap.size := (by omega); have ba := fun o => ((bel _).trans (hb_wa.mono (bel _).size)).alloc (Nat.le_of_lt hz_wa_W_0) o) | (go_at_call 61; with_reducible refine (c2 _ (ba _)).mono ?_; rintro e wb ⟨rfl, hb_wb⟩; have hc_wb := (bcell hb_wb).1; have hf_wb := (bcell hb_wb).2; have hz_wb : _ ≤ wb.heap.size := hb_wb.size; (try simp only [World.size_alloc, World.heap_drewN, World.size_setCell, heap_drew] at hc_wb hf_wb hz_wb); have hz_wb_W_0 : W.heap.size < wb.heap.size := (by omega); have hz_wb_wa_0 : wa.heap.size < wb.heap.size := (by omega); have bb := (ba _).trans (hb_wb.mono (ba _).size)))
    go_ret
    exact ⟨rfl, bb.alloc (Nat.le_of_lt hz_wb_W_0) _⟩
  by_cases hk4 : k = 4
  · subst hk4
    have c1 : ∀ w, Below W.heap.size W w → Calls Tryd.prog 15 #[ptr (b + 6), .string a, W4 ke] w fun e w' => e = .returned (.tuple #[W4 (oriN L a ke).1, .int .i64 (oriN L a ke).2]) ∧ Below w.heap.size w w' := fun w hb => Origin_S (h.below hb) (hB.below hb).sz (hB.below hb).kt (hB.below hb).ok ⟨hxa, hke⟩
    have c2 : ∀ w, Below W.heap.size W w → Calls Tryd.prog 67 #[ptr q, .string a, W4 ke] w fun e w' => e = .returned (.tuple #[W4 (oriN L a ke).1, .int .i64 (oriN L a ke).2]) ∧ Below w.heap.size w w' := fun w hb => Origin_R (r.below hb) (hB.below hb).kn (hB.below hb).ok a ke hke
    generalize (oriN L a ke).1 = v1 at *
    generalize (oriN L a ke).2 = v2 at *
    clear h r hB hok hc
    unfold ptr Opx.v at *
    dsimp only
    go_enter Tryd.func51, Tryd.ntmps51
    go_wp2_with (first | (go_at_call 15; with_reducible refine (c1 _ (bel _)).mono ?_; rintro e wa ⟨rfl, hb_wa⟩; have hc_wa := (bcell hb_wa).1; have hf_wa := (bcell hb_wa).2; have hz_wa : _ ≤ wa.heap.size := hb_wa.size; (try simp only [World.size_alloc, World.heap_drewN, World.size_setCell, heap_drew] at hc_wa hf_wa hz_wa); have hz_wa_W_0 : W.heap.size < wa.heap.size := (by omega); have ba := fun o => ((bel _).trans (hb_wa.mono (bel _).size)).alloc (Nat.le_of_lt hz_wa_W_0) o) | (go_at_call 67; with_reducible refine (c2 _ (ba _)).mono ?_; rintro e wb ⟨rfl, hb_wb⟩; have hc_wb := (bcell hb_wb).1; have hf_wb := (bcell hb_wb).2; have hz_wb : _ ≤ wb.heap.size := hb_wb.size; (try simp only [World.size_alloc, World.heap_drewN, World.size_setCell, heap_drew] at hc_wb hf_wb hz_wb); have hz_wb_W_0 : W.heap.size < wb.heap.size := (by omega); have hz_wb_wa_0 : wa.heap.size < wb.heap.size := (by omega); have bb := (ba _).trans (hb_wb.mono (ba _).size)))
    go_ret
    exact ⟨rfl, bb.alloc (Nat.le_of_lt hz_wb_W_0) _⟩
  have n0 : (k == 0) = false := by simpa using hk0
  have n1 : (k == 1) = false := by simpa using hk1
  have n2 : (k == 2) = false := by simpa using hk2
  have n3 : (k == 3) = false := by simpa using hk3
  have n4 : (k == 4) = false := by simpa using hk4
  have c1 : ∀ w, Below W.heap.size W w → Calls Tryd.prog 16 #[ptr (b + 6), .string a, W4 ke] w fun e w' => e = .returned (W4 ((brF R (a, ke)).getD 0)) ∧ Below w.heap.size w w' := fun w hb => Brief_S (h.below hb) ⟨hxa, hke⟩
  have c2 : ∀ w, Below W.heap.size W w → Calls Tryd.prog 68 #[ptr q, .string a, W4 ke] w fun e w' => e = .returned (W4 ((brF R (a, ke)).getD 0)) ∧ Below w.heap.size w w' := fun w hb => Brief_R (r.below hb) (by omega) hc a ke hke
  generalize (brF R (a, ke)).getD 0 = v1 at *
  clear h r hB hok hc hk0 hk1 hk2 hk3 hk4
  unfold ptr Opx.v at *
  dsimp only
  go_enter Tryd.func51, Tryd.ntmps51
  go_wp2
  have kb : (W.alloc (.cells #[.int .i64 k, .string a, .string b', .int .u64 (lb ke 0 : Nat), .int .u64 (lb ke 1 : Nat), .int .u64 (lb ke 2 : Nat), .int .u64 (lb ke 3 : Nat), .int .u64 (lb va 0 : Nat), .int .u64 (lb va 1 : Nat), .int .u64 (lb va 2 : Nat), .int .u64 (lb va 3 : Nat), .int .i64 n] 55)).heap[W.heap.size]? = _ := heap_new rfl
  have b1 := bel (.cells #[.int .i64 k, .string a, .string b', .int .u64 (lb ke 0 : Nat), .int .u64 (lb ke 1 : Nat), .int .u64 (lb ke 2 : Nat), .int .u64 (lb ke 3 : Nat), .int .u64 (lb va 0 : Nat), .int .u64 (lb va 1 : Nat), .int .u64 (lb va 2 : Nat), .int .u64 (lb va 3 : Nat), .int .i64 n] 55)
  have z1 : W.heap.size < (W.alloc (.cells #[.int .i64 k, .string a, .string b', .int .u64 (lb ke 0 : Nat), .int .u64 (lb ke 1 : Nat), .int .u64 (lb ke 2 : Nat), .int .u64 (lb ke 3 : Nat), .int .u64 (lb va 0 : Nat), .int .u64 (lb va 1 : Nat), .int .u64 (lb va 2 : Nat), .int .u64 (lb va 3 : Nat), .int .i64 n] 55)).heap.size := by simp
  generalize W.alloc (.cells #[.int .i64 k, .string a, .string b', .int .u64 (lb ke 0 : Nat), .int .u64 (lb ke 1 : Nat), .int .u64 (lb ke 2 : Nat), .int .u64 (lb ke 3 : Nat), .int .u64 (lb va 0 : Nat), .int .u64 (lb va 1 : Nat), .int .u64 (lb va 2 : Nat), .int .u64 (lb va 3 : Nat), .int .i64 n] 55) = W1 at *
  obtain ⟨x0, x1, x2, x3, x4, x5, x6, x7, x8, x9, x10, x11⟩ := cells12 kb
  clear x0 x2 x7 x8 x9 x10 x11 kb bel
  refine wp_flow (fun k => ([1, 1, 1, 1, 1, 1, 1, 1, 1, 1, 1, 1, 1, 1] : List Nat).getD k 1) (Below (W1.heap.size)) _ (Below.drew (Below.refl _ _)) (by kernel_rfl) (by kernel_rfl) ?_
  iterate 5 ((refine flow_quiet rfl rfl (fun K hK => ?_); apply Exists.intro; apply And.intro; (focus (intro w' hw'; have hc := (bcell hw').1; go_simp; (try go_bits); all_goals (first | exact rfl | exact ⟨rfl, hw'⟩))); go_simp; (try go_bits); refine hK _ ?_; clear hK K))
  first | (refine flow_quiet rfl rfl (fun K hK => ?_); apply Exists.intro; apply And.intro; (focus (intro w' hw'; have hc := (bcell hw').1; go_simp; (try go_bits); all_goals (go_at_call 16; with_reducible refine (c1 _ (b1.trans (hw'.mono (by omega)))).mono ?_; rintro e w2 ⟨rfl, hb⟩; exact ⟨rfl, hw'.trans (hb.mono (below_le hw' (by simp)))⟩))); go_simp; (try go_bits); refine hK _ ?_; clear hK K) | (refine flow_quiet rfl rfl (fun K hK => ?_); apply Exists.intro; apply And.intro; (focus (intro w' hw'; have hc := (bcell hw').1; go_simp; (try go_bits); all_goals (go_at_call 16; refine (c1 _ (b1.trans (hw'.mono (by omega)))).mono ?_; rintro e w2 ⟨rfl, hb⟩; exact ⟨rfl, hw'.trans (hb.mono (below_le hw' (by simp)))⟩))); go_simp; (try go_bits); refine hK _ ?_; clear hK K)
  iterate 5 ((refine flow_quiet rfl rfl (fun K hK => ?_); apply Exists.intro; apply And.intro; (focus (intro w' hw'; have hc := (bcell hw').1; go_simp; (try go_bits); all_goals (first | exact rfl | exact ⟨rfl, hw'⟩))); go_simp; (try go_bits); refine hK _ ?_; clear hK K))
  first | (refine flow_quiet rfl rfl (fun K hK => ?_); apply Exists.intro; apply And.intro; (focus (intro w' hw'; have hc := (bcell hw').1; go_simp; (try go_bits); all_goals (go_at_call 68; with_reducible refine (c2 _ (b1.trans (hw'.mono (by omega)))).mono ?_; rintro e w2 ⟨rfl, hb⟩; exact ⟨rfl, hw'.trans (hb.mono (below_le hw' (by simp)))⟩))); go_simp; (try go_bits); refine hK _ ?_; clear hK K) | (refine flow_quiet rfl rfl (fun K hK => ?_); apply Exists.intro; apply And.intro; (focus (intro w' hw'; have hc := (bcell hw').1; go_simp; (try go_bits); all_goals (go_at_call 68; refine (c2 _ (b1.trans (hw'.mono (by omega)))).mono ?_; rintro e w2 ⟨rfl, hb⟩; exact ⟨rfl, hw'.trans (hb.mono (below_le hw' (by simp)))⟩))); go_simp; (try go_bits); refine hK _ ?_; clear hK K)
  iterate 2 ((refine flow_quiet rfl rfl (fun K hK => ?_); apply Exists.intro; apply And.intro; (focus (intro w' hw'; have hc := (bcell hw').1; go_simp; (try go_bits); all_goals (first | exact rfl | exact ⟨rfl, hw'⟩))); go_simp; (try go_bits); refine hK _ ?_; clear hK K))
  refine flow_nil ?_
  intro w' hw'
  have hbF := b1.trans (hw'.mono (by omega))
  go_wp2
  go_ret
  exact ⟨rfl, hbF⟩
end
end Go.Proofs.YtcdjdnbdblpofaaDoor

/- does: any call is answered alike by both, and leaves both alike. Conditions: the states are some. -/
namespace Go.Proofs.YtcdjdnbdblpofaaDoor
open Go.RowKit Go.Maps
attribute [local go_sem] leftBy leaves eqW guardW
set_option linter.unusedSimpArgs false
set_option linter.unusedVariables false

/-- Where does' last region stands: before both calls, behind the first, behind both. -/
def dsR (W0 W2 : World) (F G : Nat → Prop) (b q N N' : Nat) (L : List Kw) (lv : Value) (R R' : List Chg) (s : Nat) (w' : World) : Prop :=
  ∃ F' G', Two W0 w' F' G' b q (if s = 0 then N else N') L lv (if s = 0 then R else R') (if s ≤ 1 then R else R') ∧ Kp W2 w' F G F' G'
theorem Two.monoN {W0 w : World} {F G : Nat → Prop} {b q N N' : Nat} {L : List Kw} {lv : Value} {R Q : List Chg} (h : Two W0 w F G b q N L lv R Q) (hN : N ≤ N') : Two W0 w F G b q N' L lv R Q :=
  ⟨h.s.mono (fun _ h => h) hN h.s.flt, h.r, h.slow, h.rlow, h.dis, h.bel⟩


section
variable {W0 W : World} {F G : Nat → Prop} {b q N : Nat} {L : List Kw} {lv : Value} {R : List Chg}

set_option maxRecDepth 100000 in
set_option maxHeartbeats 32000000 in
theorem does_any (hB0 : Bas W0 L lv) (h : Two W0 W F G b q N L lv R R) (hok : Rok L R) (hR : R.length ≤ 1000) (hN : N ≤ 900000) (x : Opx) (hx : x.ok) :
    Calls Tryd.prog 27 #[ptr (b + 6), ptr q, x.v] W fun e w' => e = .returned (.bool true) ∧ ∃ F' G', Two W0 w' F' G' b q (N + 2 * R.length + 2) L lv (stp L R x (pkN x.ki)) (stp L R x (pkN x.ki)) ∧ Kp W w' F G F' G' := by
  have hc := hok.all
  obtain ⟨hki, hxa, hxb, hke, hva, hn⟩ := hx
  have cP := pick_any x.ki hki
  have hp := pkN_range x.ki
  have hs : ∀ k, Rok L (stp L R x k) := fun k => stp_ok ⟨hki, hxa, hxb, hke, hva, hn⟩ hok k
  generalize pkN x.ki = p at *
  obtain ⟨N', hN'⟩ : ∃ N', N' = N + 2 * R.length + 2 := ⟨_, rfl⟩
  rw [← hN']
  obtain ⟨k, a, b', ke, va, n⟩ := x
  dsimp only at *
  have bel : ∀ o1 o2, Below W.heap.size W ((W.alloc o1).alloc o2) := fun o1 o2 => ((Below.refl _ W).alloc (Nat.le_refl _) _).alloc (by simp) _
  have nF0 : ¬ F W.heap.size := fun hf => by have := h.s.flt _ hf; omega
  have nF1 : ¬ F (W.heap.size + 1) := fun hf => by have := h.s.flt _ hf; omega
  have nG0 : ¬ G W.heap.size := fun hf => by have := h.r.glt _ hf; omega
  have nG1 : ¬ G (W.heap.size + 1) := fun hf => by have := h.r.glt _ hf; omega
  by_cases hk5 : p = 5
  · subst hk5
    obtain ⟨R', hR'⟩ : ∃ R', R' = saR' L R (a, ke) va := ⟨_, rfl⟩
    obtain ⟨er, her⟩ : ∃ er : Int, er = (loaN L R a ke).2 := ⟨_, rfl⟩
    rw [show stp L R ⟨k, a, b', ke, va, n⟩ 5 = R' from hR'.symm]
    have cS : ∀ w F' G', Two W0 w F' G' b q N L lv R R → Calls Tryd.prog 21 #[ptr (b + 6), .string a, W4 ke, W4 va] w (muPost w F' b N' L R' (.int .i64 er)) := fun w F' G' hT => by rw [hN', hR', her]; exact Save_U hT.s (hB0.below hT.bel) ⟨hxa, hke⟩ va hR hN
    have cR : ∀ w F' G', Two W0 w F' G' b q N' L lv R' R → Calls Tryd.prog 44 #[ptr q, .string a, W4 ke, W4 va] w (mrPost w G' q lv R' (.int .i64 er)) := fun w F' G' hT => by rw [hR', her]; exact Save_R hT.r (hB0.below hT.bel) hc ⟨hxa, hke⟩ va hR
    have b2 := bel (.cells #[.int .i64 5, .string a, .string b', .int .u64 (lb ke 0 : Nat), .int .u64 (lb ke 1 : Nat), .int .u64 (lb ke 2 : Nat), .int .u64 (lb ke 3 : Nat), .int .u64 (lb va 0 : Nat), .int .u64 (lb va 1 : Nat), .int .u64 (lb va 2 : Nat), .int .u64 (lb va 3 : Nat), .int .i64 n] 55) (.cells #[.string a, .slice none 0 0, .string b'] 43)
    have xb : ((W.alloc (.cells #[.int .i64 5, .string a, .string b', .int .u64 (lb ke 0 : Nat), .int .u64 (lb ke 1 : Nat), .int .u64 (lb ke 2 : Nat), .int .u64 (lb ke 3 : Nat), .int .u64 (lb va 0 : Nat), .int .u64 (lb va 1 : Nat), .int .u64 (lb va 2 : Nat), .int .u64 (lb va 3 : Nat), .int .i64 n] 55)).alloc (.cells #[.string a, .slice none 0 0, .string b'] 43)).heap[W.heap.size]? = _ := (Below.heap_alloc _ _ _ (by simp)).trans (heap_new rfl)
    have xl : ((W.alloc (.cells #[.int .i64 5, .string a, .string b', .int .u64 (lb ke 0 : Nat), .int .u64 (lb ke 1 : Nat), .int .u64 (lb ke 2 : Nat), .int .u64 (lb ke 3 : Nat), .int .u64 (lb va 0 : Nat), .int .u64 (lb va 1 : Nat), .int .u64 (lb va 2 : Nat), .int .u64 (lb va 3 : Nat), .int .i64 n] 55)).alloc (.cells #[.string a, .slice none 0 0, .string b'] 43)).heap[W.heap.size + 1]? = _ := heap_new (by simp)
    have z2 : W.heap.size + 2 ≤ ((W.alloc (.cells #[.int .i64 5, .string a, .string b', .int .u64 (lb ke 0 : Nat), .int .u64 (lb ke 1 : Nat), .int .u64 (lb ke 2 : Nat), .int .u64 (lb ke 3 : Nat), .int .u64 (lb va 0 : Nat), .int .u64 (lb va 1 : Nat), .int .u64 (lb va 2 : Nat), .int .u64 (lb va 3 : Nat), .int .i64 n] 55)).alloc (.cells #[.string a, .slice none 0 0, .string b'] 43)).heap.size := by simp
    have hT2 := h.below b2
    clear hB0 hok hc hs h hR' her bel hN'
    unfold ptr Opx.v
    dsimp only
    go_enter Tryd.func27, Tryd.ntmps27
    go_wp2_with (go_at_call 30; refine (cP _).mono ?_; rintro e w' ⟨rfl, rfl⟩)
    generalize (W.alloc (.cells #[.int .i64 5, .string a, .string b', .int .u64 (lb ke 0 : Nat), .int .u64 (lb ke 1 : Nat), .int .u64 (lb ke 2 : Nat), .int .u64 (lb ke 3 : Nat), .int .u64 (lb va 0 : Nat), .int .u64 (lb va 1 : Nat), .int .u64 (lb va 2 : Nat), .int .u64 (lb va 3 : Nat), .int .i64 n] 55)).alloc (.cells #[.string a, .slice none 0 0, .string b'] 43) = W2 at *
    obtain ⟨x0, x1, x2, x3, x4, x5, x6, x7, x8, x9, x10, x11⟩ := cells12 xb
    have l0 : W2.cell? ⟨W.heap.size + 1, 0, none⟩ = some (.string a) := by simp [World.cell?, xl]
    have l1 : W2.cell? ⟨W.heap.size + 1, 1, none⟩ = some (.slice none 0 0) := by simp [World.cell?, xl]
    have l2 : W2.cell? ⟨W.heap.size + 1, 2, none⟩ = some (.string b') := by simp [World.cell?, xl]
    refine wp_flowU (fun k => ([1, 1, 1, 1, 1, 1, 1, 2, 0, 0, 0, 0, 0, 0, 0, 2, 1, 1] : List Nat).getD k 1) (dsR W0 W2 F G b q N N' L lv R R') (fun _ => True) (0) (⟨F, G, hT2.below (Below.drew (Below.refl _ _)), (Kp.refl _ _ _).below (Below.drew (Below.refl _ _))⟩) trivial (by kernel_rfl) (by kernel_rfl) ?_
    iterate 7 ((refine flowU_readE rfl rfl (fun K hK => ?_); apply Exists.intro; apply And.intro; (focus (intro w' hR; obtain ⟨F', G', hT', hK'⟩ := hR; have y1 := hK'.cell x1 nF0 nG0; have y3 := hK'.cell x3 nF0 nG0; have y4 := hK'.cell x4 nF0 nG0; have y5 := hK'.cell x5 nF0 nG0; have y6 := hK'.cell x6 nF0 nG0; have y7 := hK'.cell x7 nF0 nG0; have y8 := hK'.cell x8 nF0 nG0; have y9 := hK'.cell x9 nF0 nG0; have y10 := hK'.cell x10 nF0 nG0; clear hT' hK'; go_simp; (try go_bits); exact rfl)); go_simp; (try go_bits); refine hK _ ?_; clear hK K))
    refine flowU_step (fun v s => v = (.int .i64 er) ∧ s = 1) (by decide) rfl ⟨_, 1, rfl, rfl⟩ (fun w' hR => ?_) (fun _ _ _ _ _ => trivial) (fun K hK v s2 hs2 => ?_)
    focus
      obtain ⟨F', G', hT', hK'⟩ := hR
      have cM := cS w' F' G' hT'
      unfold ptr at cM
      go_simp
      refine cM.mono ?_
      intro e w3 hm
      obtain ⟨rfl, F2, hT2, hK2⟩ := Two.stepS (R := R) (N := N) hT' hm
      exact ⟨_, rfl, 1, ⟨rfl, rfl⟩, F2, G', hT2, hK'.trans hK2⟩
    obtain ⟨rfl, rfl⟩ := hs2
    (go_simp; refine hK _ _ ?_; clear hK K)
    iterate 7 ((refine flowU_lateE rfl rfl (fun K hK => ?_); apply Exists.intro; apply And.intro; (focus (intro s0 w' hC hR; obtain ⟨F', G', hT', hK'⟩ := hR; have y1 := hK'.cell x1 nF0 nG0; have y3 := hK'.cell x3 nF0 nG0; have y4 := hK'.cell x4 nF0 nG0; have y5 := hK'.cell x5 nF0 nG0; have y6 := hK'.cell x6 nF0 nG0; have y7 := hK'.cell x7 nF0 nG0; have y8 := hK'.cell x8 nF0 nG0; have y9 := hK'.cell x9 nF0 nG0; have y10 := hK'.cell x10 nF0 nG0; clear hT' hK'; go_simp; (try go_bits); exact rfl)); go_simp; (try go_bits); refine hK _ ?_; clear hK K))
    refine flowU_step (fun v s => v = (.int .i64 er) ∧ s = 2) (by decide) rfl ⟨_, 2, rfl, rfl⟩ (fun w' hR => ?_) (fun _ _ _ _ _ => trivial) (fun K hK v s2 hs2 => ?_)
    focus
      obtain ⟨F', G', hT', hK'⟩ := hR
      have cM := cR w' F' G' hT'
      unfold ptr at cM
      go_simp
      refine cM.mono ?_
      intro e w3 hm
      obtain ⟨rfl, G2, hT2, hK2⟩ := Two.stepR (R := R') (N := N') hT' hm
      exact ⟨_, rfl, 2, ⟨rfl, rfl⟩, F', G2, hT2, hK'.trans hK2⟩
    obtain ⟨rfl, rfl⟩ := hs2
    (go_simp; refine hK _ _ ?_; clear hK K)
    iterate 2 ((refine flowU_readE rfl rfl (fun K hK => ?_); apply Exists.intro; apply And.intro; (focus (intro w' hR; obtain ⟨F', G', hT', hK'⟩ := hR; have y1 := hK'.cell x1 nF0 nG0; have y3 := hK'.cell x3 nF0 nG0; have y4 := hK'.cell x4 nF0 nG0; have y5 := hK'.cell x5 nF0 nG0; have y6 := hK'.cell x6 nF0 nG0; have y7 := hK'.cell x7 nF0 nG0; have y8 := hK'.cell x8 nF0 nG0; have y9 := hK'.cell x9 nF0 nG0; have y10 := hK'.cell x10 nF0 nG0; clear hT' hK'; go_simp; (try go_bits); exact rfl)); go_simp; (try go_bits); refine hK _ ?_; clear hK K))
    refine flowU_nil ?_
    intro w3 hR3
    obtain ⟨F3, G3, hT3, hK3⟩ := hR3
    go_wp2
    go_ret
    exact ⟨rfl, F3, G3, hT3, ((Kp.refl W F G).below b2).trans hK3⟩
  by_cases hk7 : p = 7
  · subst hk7
    obtain ⟨R', hR'⟩ : ∃ R', R' = .brief (a, ke) va :: R := ⟨_, rfl⟩
    obtain ⟨er, her⟩ : ∃ er : Int, er = 0 := ⟨_, rfl⟩
    rw [show stp L R ⟨k, a, b', ke, va, n⟩ 7 = R' from hR'.symm]
    have cS : ∀ w F' G', Two W0 w F' G' b q N L lv R R → Calls Tryd.prog 22 #[ptr (b + 6), .string a, W4 ke, W4 va] w (muPost w F' b N' L R' (.int .i64 er)) := fun w F' G' hT => by rw [hN', hR', her]; exact SaveBrief_U hT.s ⟨hxa, hke⟩ va hR hN
    have cR : ∀ w F' G', Two W0 w F' G' b q N' L lv R' R → Calls Tryd.prog 45 #[ptr q, .string a, W4 ke, W4 va] w (mrPost w G' q lv R' (.int .i64 er)) := fun w F' G' hT => by rw [hR', her]; exact SaveBrief_R hT.r (by omega) a ke va
    have b2 := bel (.cells #[.int .i64 7, .string a, .string b', .int .u64 (lb ke 0 : Nat), .int .u64 (lb ke 1 : Nat), .int .u64 (lb ke 2 : Nat), .int .u64 (lb ke 3 : Nat), .int .u64 (lb va 0 : Nat), .int .u64 (lb va 1 : Nat), .int .u64 (lb va 2 : Nat), .int .u64 (lb va 3 : Nat), .int .i64 n] 55) (.cells #[.string a, .slice none 0 0, .string b'] 43)
    have xb : ((W.alloc (.cells #[.int .i64 7, .string a, .string b', .int .u64 (lb ke 0 : Nat), .int .u64 (lb ke 1 : Nat), .int .u64 (lb ke 2 : Nat), .int .u64 (lb ke 3 : Nat), .int .u64 (lb va 0 : Nat), .int .u64 (lb va 1 : Nat), .int .u64 (lb va 2 : Nat), .int .u64 (lb va 3 : Nat), .int .i64 n] 55)).alloc (.cells #[.string a, .slice none 0 0, .string b'] 43)).heap[W.heap.size]? = _ := (Below.heap_alloc _ _ _ (by simp)).trans (heap_new rfl)
    have xl : ((W.alloc (.cells #[.int .i64 7, .string a, .string b', .int .u64 (lb ke 0 : Nat), .int .u64 (lb ke 1 : Nat), .int .u64 (lb ke 2 : Nat), .int .u64 (lb ke 3 : Nat), .int .u64 (lb va 0 : Nat), .int .u64 (lb va 1 : Nat), .int .u64 (lb va 2 : Nat), .int .u64 (lb va 3 : Nat), .int .i64 n] 55)).alloc (.cells #[.string a, .slice none 0 0, .string b'] 43)).heap[W.heap.size + 1]? = _ := heap_new (by simp)
    have z2 : W.heap.size + 2 ≤ ((W.alloc (.cells #[.int .i64 7, .string a, .string b', .int .u64 (lb ke 0 : Nat), .int .u64 (lb ke 1 : Nat), .int .u64 (lb ke 2 : Nat), .int .u64 (lb ke 3 : Nat), .int .u64 (lb va 0 : Nat), .int .u64 (lb va 1 : Nat), .int .u64 (lb va 2 : Nat), .int .u64 (lb va 3 : Nat), .int .i64 n] 55)).alloc (.cells #[.string a, .slice none 0 0, .string b'] 43)).heap.size := by simp
    have hT2 := h.below b2
    clear hB0 hok hc hs h hR' her bel hN'
    unfold ptr Opx.v
    dsimp only
    go_enter Tryd.func27, Tryd.ntmps27
    go_wp2_with (go_at_call 30; refine (cP _).mono ?_; rintro e w' ⟨rfl, rfl⟩)
    generalize (W.alloc (.cells #[.int .i64 7, .string a, .string b', .int .u64 (lb ke 0 : Nat), .int .u64 (lb ke 1 : Nat), .int .u64 (lb ke 2 : Nat), .int .u64 (lb ke 3 : Nat), .int .u64 (lb va 0 : Nat), .int .u64 (lb va 1 : Nat), .int .u64 (lb va 2 : Nat), .int .u64 (lb va 3 : Nat), .int .i64 n] 55)).alloc (.cells #[.string a, .slice none 0 0, .string b'] 43) = W2 at *
    obtain ⟨x0, x1, x2, x3, x4, x5, x6, x7, x8, x9, x10, x11⟩ := cells12 xb
    have l0 : W2.cell? ⟨W.heap.size + 1, 0, none⟩ = some (.string a) := by simp [World.cell?, xl]
    have l1 : W2.cell? ⟨W.heap.size + 1, 1, none⟩ = some (.slice none 0 0) := by simp [World.cell?, xl]
    have l2 : W2.cell? ⟨W.heap.size + 1, 2, none⟩ = some (.string b') := by simp [World.cell?, xl]
    refine wp_flowU (fun k => ([1, 1, 1, 1, 1, 1, 1, 2, 0, 0, 0, 0, 0, 0, 0, 2, 1, 1] : List Nat).getD k 1) (dsR W0 W2 F G b q N N' L lv R R') (fun _ => True) (0) (⟨F, G, hT2.below (Below.drew (Below.refl _ _)), (Kp.refl _ _ _).below (Below.drew (Below.refl _ _))⟩) trivial (by kernel_rfl) (by kernel_rfl) ?_
    iterate 7 ((refine flowU_readE rfl rfl (fun K hK => ?_); apply Exists.intro; apply And.intro; (focus (intro w' hR; obtain ⟨F', G', hT', hK'⟩ := hR; have y1 := hK'.cell x1 nF0 nG0; have y3 := hK'.cell x3 nF0 nG0; have y4 := hK'.cell x4 nF0 nG0; have y5 := hK'.cell x5 nF0 nG0; have y6 := hK'.cell x6 nF0 nG0; have y7 := hK'.cell x7 nF0 nG0; have y8 := hK'.cell x8 nF0 nG0; have y9 := hK'.cell x9 nF0 nG0; have y10 := hK'.cell x10 nF0 nG0; clear hT' hK'; go_simp; (try go_bits); exact rfl)); go_simp; (try go_bits); refine hK _ ?_; clear hK K))
    refine flowU_step (fun v s => v = (.int .i64 er) ∧ s = 1) (by decide) rfl ⟨_, 1, rfl, rfl⟩ (fun w' hR => ?_) (fun _ _ _ _ _ => trivial) (fun K hK v s2 hs2 => ?_)
    focus
      obtain ⟨F', G', hT', hK'⟩ := hR
      have cM := cS w' F' G' hT'
      unfold ptr at cM
      go_simp
      refine cM.mono ?_
      intro e w3 hm
      obtain ⟨rfl, F2, hT2, hK2⟩ := Two.stepS (R := R) (N := N) hT' hm
      exact ⟨_, rfl, 1, ⟨rfl, rfl⟩, F2, G', hT2, hK'.trans hK2⟩
    obtain ⟨rfl, rfl⟩ := hs2
    (go_simp; refine hK _ _ ?_; clear hK K)
    iterate 7 ((refine flowU_lateE rfl rfl (fun K hK => ?_); apply Exists.intro; apply And.intro; (focus (intro s0 w' hC hR; obtain ⟨F', G', hT', hK'⟩ := hR; have y1 := hK'.cell x1 nF0 nG0; have y3 := hK'.cell x3 nF0 nG0; have y4 := hK'.cell x4 nF0 nG0; have y5 := hK'.cell x5 nF0 nG0; have y6 := hK'.cell x6 nF0 nG0; have y7 := hK'.cell x7 nF0 nG0; have y8 := hK'.cell x8 nF0 nG0; have y9 := hK'.cell x9 nF0 nG0; have y10 := hK'.cell x10 nF0 nG0; clear hT' hK'; go_simp; (try go_bits); exact rfl)); go_simp; (try go_bits); refine hK _ ?_; clear hK K))
    refine flowU_step (fun v s => v = (.int .i64 er) ∧ s = 2) (by decide) rfl ⟨_, 2, rfl, rfl⟩ (fun w' hR => ?_) (fun _ _ _ _ _ => trivial) (fun K hK v s2 hs2 => ?_)
    focus
      obtain ⟨F', G', hT', hK'⟩ := hR
      have cM := cR w' F' G' hT'
      unfold ptr at cM
      go_simp
      refine cM.mono ?_
      intro e w3 hm
      obtain ⟨rfl, G2, hT2, hK2⟩ := Two.stepR (R := R') (N := N') hT' hm
      exact ⟨_, rfl, 2, ⟨rfl, rfl⟩, F', G2, hT2, hK'.trans hK2⟩
    obtain ⟨rfl, rfl⟩ := hs2
    (go_simp; refine hK _ _ ?_; clear hK K)
    iterate 2 ((refine flowU_readE rfl rfl (fun K hK => ?_); apply Exists.intro; apply And.intro; (focus (intro w' hR; obtain ⟨F', G', hT', hK'⟩ := hR; have y1 := hK'.cell x1 nF0 nG0; have y3 := hK'.cell x3 nF0 nG0; have y4 := hK'.cell x4 nF0 nG0; have y5 := hK'.cell x5 nF0 nG0; have y6 := hK'.cell x6 nF0 nG0; have y7 := hK'.cell x7 nF0 nG0; have y8 := hK'.cell x8 nF0 nG0; have y9 := hK'.cell x9 nF0 nG0; have y10 := hK'.cell x10 nF0 nG0; clear hT' hK'; go_simp; (try go_bits); exact rfl)); go_simp; (try go_bits); refine hK _ ?_; clear hK K))
    refine flowU_nil ?_
    intro w3 hR3
    obtain ⟨F3, G3, hT3, hK3⟩ := hR3
    go_wp2
    go_ret
    exact ⟨rfl, F3, G3, hT3, ((Kp.refl W F G).below b2).trans hK3⟩
  by_cases hk8 : p = 8
  · subst hk8
    obtain ⟨R', hR'⟩ : ∃ R', R' = moR L R a b' va := ⟨_, rfl⟩
    obtain ⟨er, her⟩ : ∃ er : Int, er = moE L R a b' va := ⟨_, rfl⟩
    rw [show stp L R ⟨k, a, b', ke, va, n⟩ 8 = R' from hR'.symm]
    have cS : ∀ w F' G', Two W0 w F' G' b q N L lv R R → Calls Tryd.prog 32 #[ptr (b + 6), .string a, .string b', W4 va] w (muPost w F' b N' L R' (.int .i64 er)) := fun w F' G' hT => by rw [hN', hR', her]; exact Move_U hT.s (hB0.below hT.bel) hxa hxb hva hR hN
    have cR : ∀ w F' G', Two W0 w F' G' b q N' L lv R' R → Calls Tryd.prog 46 #[ptr q, .string a, .string b', W4 va] w (mrPost w G' q lv R' (.int .i64 er)) := fun w F' G' hT => by rw [hR', her]; exact Move_R hT.r (hB0.below hT.bel) hc a b' hva hR
    have b2 := bel (.cells #[.int .i64 8, .string a, .string b', .int .u64 (lb ke 0 : Nat), .int .u64 (lb ke 1 : Nat), .int .u64 (lb ke 2 : Nat), .int .u64 (lb ke 3 : Nat), .int .u64 (lb va 0 : Nat), .int .u64 (lb va 1 : Nat), .int .u64 (lb va 2 : Nat), .int .u64 (lb va 3 : Nat), .int .i64 n] 55) (.cells #[.string a, .slice none 0 0, .string b'] 43)
    have xb : ((W.alloc (.cells #[.int .i64 8, .string a, .string b', .int .u64 (lb ke 0 : Nat), .int .u64 (lb ke 1 : Nat), .int .u64 (lb ke 2 : Nat), .int .u64 (lb ke 3 : Nat), .int .u64 (lb va 0 : Nat), .int .u64 (lb va 1 : Nat), .int .u64 (lb va 2 : Nat), .int .u64 (lb va 3 : Nat), .int .i64 n] 55)).alloc (.cells #[.string a, .slice none 0 0, .string b'] 43)).heap[W.heap.size]? = _ := (Below.heap_alloc _ _ _ (by simp)).trans (heap_new rfl)
    have xl : ((W.alloc (.cells #[.int .i64 8, .string a, .string b', .int .u64 (lb ke 0 : Nat), .int .u64 (lb ke 1 : Nat), .int .u64 (lb ke 2 : Nat), .int .u64 (lb ke 3 : Nat), .int .u64 (lb va 0 : Nat), .int .u64 (lb va 1 : Nat), .int .u64 (lb va 2 : Nat), .int .u64 (lb va 3 : Nat), .int .i64 n] 55)).alloc (.cells #[.string a, .slice none 0 0, .string b'] 43)).heap[W.heap.size + 1]? = _ := heap_new (by simp)
    have z2 : W.heap.size + 2 ≤ ((W.alloc (.cells #[.int .i64 8, .string a, .string b', .int .u64 (lb ke 0 : Nat), .int .u64 (lb ke 1 : Nat), .int .u64 (lb ke 2 : Nat), .int .u64 (lb ke 3 : Nat), .int .u64 (lb va 0 : Nat), .int .u64 (lb va 1 : Nat), .int .u64 (lb va 2 : Nat), .int .u64 (lb va 3 : Nat), .int .i64 n] 55)).alloc (.cells #[.string a, .slice none 0 0, .string b'] 43)).heap.size := by simp
    have hT2 := h.below b2
    clear hB0 hok hc hs h hR' her bel hN'
    unfold ptr Opx.v
    dsimp only
    go_enter Tryd.func27, Tryd.ntmps27
    go_wp2_with (go_at_call 30; refine (cP _).mono ?_; rintro e w' ⟨rfl, rfl⟩)
    generalize (W.alloc (.cells #[.int .i64 8, .string a, .string b', .int .u64 (lb ke 0 : Nat), .int .u64 (lb ke 1 : Nat), .int .u64 (lb ke 2 : Nat), .int .u64 (lb ke 3 : Nat), .int .u64 (lb va 0 : Nat), .int .u64 (lb va 1 : Nat), .int .u64 (lb va 2 : Nat), .int .u64 (lb va 3 : Nat), .int .i64 n] 55)).alloc (.cells #[.string a, .slice none 0 0, .string b'] 43) = W2 at *
    obtain ⟨x0, x1, x2, x3, x4, x5, x6, x7, x8, x9, x10, x11⟩ := cells12 xb
    have l0 : W2.cell? ⟨W.heap.size + 1, 0, none⟩ = some (.string a) := by simp [World.cell?, xl]
    have l1 : W2.cell? ⟨W.heap.size + 1, 1, none⟩ = some (.slice none 0 0) := by simp [World.cell?, xl]
    have l2 : W2.cell? ⟨W.heap.size + 1, 2, none⟩ = some (.string b') := by simp [World.cell?, xl]
    refine wp_flowU (fun k => ([1, 1, 1, 1, 1, 1, 1, 2, 0, 0, 0, 0, 0, 0, 0, 2, 1, 1] : List Nat).getD k 1) (dsR W0 W2 F G b q N N' L lv R R') (fun _ => True) (0) (⟨F, G, hT2.below (Below.drew (Below.refl _ _)), (Kp.refl _ _ _).below (Below.drew (Below.refl _ _))⟩) trivial (by kernel_rfl) (by kernel_rfl) ?_
    iterate 7 ((refine flowU_readE rfl rfl (fun K hK => ?_); apply Exists.intro; apply And.intro; (focus (intro w' hR; obtain ⟨F', G', hT', hK'⟩ := hR; have y1 := hK'.cell x1 nF0 nG0; have y2 := hK'.cell x2 nF0 nG0; have y7 := hK'.cell x7 nF0 nG0; have y8 := hK'.cell x8 nF0 nG0; have y9 := hK'.cell x9 nF0 nG0; have y10 := hK'.cell x10 nF0 nG0; clear hT' hK'; go_simp; (try go_bits); exact rfl)); go_simp; (try go_bits); refine hK _ ?_; clear hK K))
    refine flowU_step (fun v s => v = (.int .i64 er) ∧ s = 1) (by decide) rfl ⟨_, 1, rfl, rfl⟩ (fun w' hR => ?_) (fun _ _ _ _ _ => trivial) (fun K hK v s2 hs2 => ?_)
    focus
      obtain ⟨F', G', hT', hK'⟩ := hR
      have cM := cS w' F' G' hT'
      unfold ptr at cM
      go_simp
      refine cM.mono ?_
      intro e w3 hm
      obtain ⟨rfl, F2, hT2, hK2⟩ := Two.stepS (R := R) (N := N) hT' hm
      exact ⟨_, rfl, 1, ⟨rfl, rfl⟩, F2, G', hT2, hK'.trans hK2⟩
    obtain ⟨rfl, rfl⟩ := hs2
    (go_simp; refine hK _ _ ?_; clear hK K)
    iterate 7 ((refine flowU_lateE rfl rfl (fun K hK => ?_); apply Exists.intro; apply And.intro; (focus (intro s0 w' hC hR; obtain ⟨F', G', hT', hK'⟩ := hR; have y1 := hK'.cell x1 nF0 nG0; have y2 := hK'.cell x2 nF0 nG0; have y7 := hK'.cell x7 nF0 nG0; have y8 := hK'.cell x8 nF0 nG0; have y9 := hK'.cell x9 nF0 nG0; have y10 := hK'.cell x10 nF0 nG0; clear hT' hK'; go_simp; (try go_bits); exact rfl)); go_simp; (try go_bits); refine hK _ ?_; clear hK K))
    refine flowU_step (fun v s => v = (.int .i64 er) ∧ s = 2) (by decide) rfl ⟨_, 2, rfl, rfl⟩ (fun w' hR => ?_) (fun _ _ _ _ _ => trivial) (fun K hK v s2 hs2 => ?_)
    focus
      obtain ⟨F', G', hT', hK'⟩ := hR
      have cM := cR w' F' G' hT'
      unfold ptr at cM
      go_simp
      refine cM.mono ?_
      intro e w3 hm
      obtain ⟨rfl, G2, hT2, hK2⟩ := Two.stepR (R := R') (N := N') hT' hm
      exact ⟨_, rfl, 2, ⟨rfl, rfl⟩, F', G2, hT2, hK'.trans hK2⟩
    obtain ⟨rfl, rfl⟩ := hs2
    (go_simp; refine hK _ _ ?_; clear hK K)
    iterate 2 ((refine flowU_readE rfl rfl (fun K hK => ?_); apply Exists.intro; apply And.intro; (focus (intro w' hR; obtain ⟨F', G', hT', hK'⟩ := hR; have y1 := hK'.cell x1 nF0 nG0; have y2 := hK'.cell x2 nF0 nG0; have y7 := hK'.cell x7 nF0 nG0; have y8 := hK'.cell x8 nF0 nG0; have y9 := hK'.cell x9 nF0 nG0; have y10 := hK'.cell x10 nF0 nG0; clear hT' hK'; go_simp; (try go_bits); exact rfl)); go_simp; (try go_bits); refine hK _ ?_; clear hK K))
    refine flowU_nil ?_
    intro w3 hR3
    obtain ⟨F3, G3, hT3, hK3⟩ := hR3
    go_wp2
    go_ret
    exact ⟨rfl, F3, G3, hT3, ((Kp.refl W F G).below b2).trans hK3⟩
  by_cases hk9 : p = 9
  · subst hk9
    obtain ⟨R', hR'⟩ : ∃ R', R' = waR R a := ⟨_, rfl⟩
    obtain ⟨er, her⟩ : ∃ er : Bool, er = wmF R a := ⟨_, rfl⟩
    rw [show stp L R ⟨k, a, b', ke, va, n⟩ 9 = R' from hR'.symm]
    have cS : ∀ w F' G', Two W0 w F' G' b q N L lv R R → Calls Tryd.prog 23 #[ptr (b + 6), .string a] w (muPost w F' b N' L R' (.bool er)) := fun w F' G' hT => by rw [hN', hR', her]; exact Warm_U hT.s hxa hR hN
    have cR : ∀ w F' G', Two W0 w F' G' b q N' L lv R' R → Calls Tryd.prog 47 #[ptr q, .string a] w (mrPost w G' q lv R' (.bool er)) := fun w F' G' hT => by rw [hR', her]; exact Warm_R hT.r hc a hR
    have b2 := bel (.cells #[.int .i64 9, .string a, .string b', .int .u64 (lb ke 0 : Nat), .int .u64 (lb ke 1 : Nat), .int .u64 (lb ke 2 : Nat), .int .u64 (lb ke 3 : Nat), .int .u64 (lb va 0 : Nat), .int .u64 (lb va 1 : Nat), .int .u64 (lb va 2 : Nat), .int .u64 (lb va 3 : Nat), .int .i64 n] 55) (.cells #[.string a, .slice none 0 0, .string b'] 43)
    have xb : ((W.alloc (.cells #[.int .i64 9, .string a, .string b', .int .u64 (lb ke 0 : Nat), .int .u64 (lb ke 1 : Nat), .int .u64 (lb ke 2 : Nat), .int .u64 (lb ke 3 : Nat), .int .u64 (lb va 0 : Nat), .int .u64 (lb va 1 : Nat), .int .u64 (lb va 2 : Nat), .int .u64 (lb va 3 : Nat), .int .i64 n] 55)).alloc (.cells #[.string a, .slice none 0 0, .string b'] 43)).heap[W.heap.size]? = _ := (Below.heap_alloc _ _ _ (by simp)).trans (heap_new rfl)
    have xl : ((W.alloc (.cells #[.int .i64 9, .string a, .string b', .int .u64 (lb ke 0 : Nat), .int .u64 (lb ke 1 : Nat), .int .u64 (lb ke 2 : Nat), .int .u64 (lb ke 3 : Nat), .int .u64 (lb va 0 : Nat), .int .u64 (lb va 1 : Nat), .int .u64 (lb va 2 : Nat), .int .u64 (lb va 3 : Nat), .int .i64 n] 55)).alloc (.cells #[.string a, .slice none 0 0, .string b'] 43)).heap[W.heap.size + 1]? = _ := heap_new (by simp)
    have z2 : W.heap.size + 2 ≤ ((W.alloc (.cells #[.int .i64 9, .string a, .string b', .int .u64 (lb ke 0 : Nat), .int .u64 (lb ke 1 : Nat), .int .u64 (lb ke 2 : Nat), .int .u64 (lb ke 3 : Nat), .int .u64 (lb va 0 : Nat), .int .u64 (lb va 1 : Nat), .int .u64 (lb va 2 : Nat), .int .u64 (lb va 3 : Nat), .int .i64 n] 55)).alloc (.cells #[.string a, .slice none 0 0, .string b'] 43)).heap.size := by simp
    have hT2 := h.below b2
    clear hB0 hok hc hs h hR' her bel hN'
    unfold ptr Opx.v
    dsimp only
    go_enter Tryd.func27, Tryd.ntmps27
    go_wp2_with (go_at_call 30; refine (cP _).mono ?_; rintro e w' ⟨rfl, rfl⟩)
    generalize (W.alloc (.cells #[.int .i64 9, .string a, .string b', .int .u64 (lb ke 0 : Nat), .int .u64 (lb ke 1 : Nat), .int .u64 (lb ke 2 : Nat), .int .u64 (lb ke 3 : Nat), .int .u64 (lb va 0 : Nat), .int .u64 (lb va 1 : Nat), .int .u64 (lb va 2 : Nat), .int .u64 (lb va 3 : Nat), .int .i64 n] 55)).alloc (.cells #[.string a, .slice none 0 0, .string b'] 43) = W2 at *
    obtain ⟨x0, x1, x2, x3, x4, x5, x6, x7, x8, x9, x10, x11⟩ := cells12 xb
    have l0 : W2.cell? ⟨W.heap.size + 1, 0, none⟩ = some (.string a) := by simp [World.cell?, xl]
    have l1 : W2.cell? ⟨W.heap.size + 1, 1, none⟩ = some (.slice none 0 0) := by simp [World.cell?, xl]
    have l2 : W2.cell? ⟨W.heap.size + 1, 2, none⟩ = some (.string b') := by simp [World.cell?, xl]
    refine wp_flowU (fun k => ([1, 1, 1, 2, 0, 0, 0, 2, 1, 1] : List Nat).getD k 1) (dsR W0 W2 F G b q N N' L lv R R') (fun _ => True) (0) (⟨F, G, hT2.below (Below.drew (Below.refl _ _)), (Kp.refl _ _ _).below (Below.drew (Below.refl _ _))⟩) trivial (by kernel_rfl) (by kernel_rfl) ?_
    iterate 3 ((refine flowU_readE rfl rfl (fun K hK => ?_); apply Exists.intro; apply And.intro; (focus (intro w' hR; obtain ⟨F', G', hT', hK'⟩ := hR; have y1 := hK'.cell x1 nF0 nG0; clear hT' hK'; go_simp; (try go_bits); exact rfl)); go_simp; (try go_bits); refine hK _ ?_; clear hK K))
    refine flowU_step (fun v s => v = (.bool er) ∧ s = 1) (by decide) rfl ⟨_, 1, rfl, rfl⟩ (fun w' hR => ?_) (fun _ _ _ _ _ => trivial) (fun K hK v s2 hs2 => ?_)
    focus
      obtain ⟨F', G', hT', hK'⟩ := hR
      have cM := cS w' F' G' hT'
      unfold ptr at cM
      go_simp
      refine cM.mono ?_
      intro e w3 hm
      obtain ⟨rfl, F2, hT2, hK2⟩ := Two.stepS (R := R) (N := N) hT' hm
      exact ⟨_, rfl, 1, ⟨rfl, rfl⟩, F2, G', hT2, hK'.trans hK2⟩
    obtain ⟨rfl, rfl⟩ := hs2
    (go_simp; refine hK _ _ ?_; clear hK K)
    iterate 3 ((refine flowU_lateE rfl rfl (fun K hK => ?_); apply Exists.intro; apply And.intro; (focus (intro s0 w' hC hR; obtain ⟨F', G', hT', hK'⟩ := hR; have y1 := hK'.cell x1 nF0 nG0; clear hT' hK'; go_simp; (try go_bits); exact rfl)); go_simp; (try go_bits); refine hK _ ?_; clear hK K))
    refine flowU_step (fun v s => v = (.bool er) ∧ s = 2) (by decide) rfl ⟨_, 2, rfl, rfl⟩ (fun w' hR => ?_) (fun _ _ _ _ _ => trivial) (fun K hK v s2 hs2 => ?_)
    focus
      obtain ⟨F', G', hT', hK'⟩ := hR
      have cM := cR w' F' G' hT'
      unfold ptr at cM
      go_simp
      refine cM.mono ?_
      intro e w3 hm
      obtain ⟨rfl, G2, hT2, hK2⟩ := Two.stepR (R := R') (N := N') hT' hm
      exact ⟨_, rfl, 2, ⟨rfl, rfl⟩, F', G2, hT2, hK'.trans hK2⟩
    obtain ⟨rfl, rfl⟩ := hs2
    (go_simp; refine hK _ _ ?_; clear hK K)
    iterate 2 ((refine flowU_readE rfl rfl (fun K hK => ?_); apply Exists.intro; apply And.intro; (focus (intro w' hR; obtain ⟨F', G', hT', hK'⟩ := hR; have y1 := hK'.cell x1 nF0 nG0; clear hT' hK'; go_simp; (try go_bits); exact rfl)); go_simp; (try go_bits); refine hK _ ?_; clear hK K))
    refine flowU_nil ?_
    intro w3 hR3
    obtain ⟨F3, G3, hT3, hK3⟩ := hR3
    go_wp2
    go_ret
    exact ⟨rfl, F3, G3, hT3, ((Kp.refl W F G).below b2).trans hK3⟩
  by_cases hk10 : p = 10
  · subst hk10
    obtain ⟨R', hR'⟩ : ∃ R', R' = wcR R (a, ke) := ⟨_, rfl⟩
    obtain ⟨er, her⟩ : ∃ er : Bool, er = ceF R (a, ke) := ⟨_, rfl⟩
    rw [show stp L R ⟨k, a, b', ke, va, n⟩ 10 = R' from hR'.symm]
    have cS : ∀ w F' G', Two W0 w F' G' b q N L lv R R → Calls Tryd.prog 24 #[ptr (b + 6), .string a, W4 ke] w (muPost w F' b N' L R' (.bool er)) := fun w F' G' hT => by rw [hN', hR', her]; exact WarmCell_U hT.s ⟨hxa, hke⟩ hR hN
    have cR : ∀ w F' G', Two W0 w F' G' b q N' L lv R' R → Calls Tryd.prog 48 #[ptr q, .string a, W4 ke] w (mrPost w G' q lv R' (.bool er)) := fun w F' G' hT => by rw [hR', her]; exact WarmCell_R hT.r hc ⟨hxa, hke⟩ hR
    have b2 := bel (.cells #[.int .i64 10, .string a, .string b', .int .u64 (lb ke 0 : Nat), .int .u64 (lb ke 1 : Nat), .int .u64 (lb ke 2 : Nat), .int .u64 (lb ke 3 : Nat), .int .u64 (lb va 0 : Nat), .int .u64 (lb va 1 : Nat), .int .u64 (lb va 2 : Nat), .int .u64 (lb va 3 : Nat), .int .i64 n] 55) (.cells #[.string a, .slice none 0 0, .string b'] 43)
    have xb : ((W.alloc (.cells #[.int .i64 10, .string a, .string b', .int .u64 (lb ke 0 : Nat), .int .u64 (lb ke 1 : Nat), .int .u64 (lb ke 2 : Nat), .int .u64 (lb ke 3 : Nat), .int .u64 (lb va 0 : Nat), .int .u64 (lb va 1 : Nat), .int .u64 (lb va 2 : Nat), .int .u64 (lb va 3 : Nat), .int .i64 n] 55)).alloc (.cells #[.string a, .slice none 0 0, .string b'] 43)).heap[W.heap.size]? = _ := (Below.heap_alloc _ _ _ (by simp)).trans (heap_new rfl)
    have xl : ((W.alloc (.cells #[.int .i64 10, .string a, .string b', .int .u64 (lb ke 0 : Nat), .int .u64 (lb ke 1 : Nat), .int .u64 (lb ke 2 : Nat), .int .u64 (lb ke 3 : Nat), .int .u64 (lb va 0 : Nat), .int .u64 (lb va 1 : Nat), .int .u64 (lb va 2 : Nat), .int .u64 (lb va 3 : Nat), .int .i64 n] 55)).alloc (.cells #[.string a, .slice none 0 0, .string b'] 43)).heap[W.heap.size + 1]? = _ := heap_new (by simp)
    have z2 : W.heap.size + 2 ≤ ((W.alloc (.cells #[.int .i64 10, .string a, .string b', .int .u64 (lb ke 0 : Nat), .int .u64 (lb ke 1 : Nat), .int .u64 (lb ke 2 : Nat), .int .u64 (lb ke 3 : Nat), .int .u64 (lb va 0 : Nat), .int .u64 (lb va 1 : Nat), .int .u64 (lb va 2 : Nat), .int .u64 (lb va 3 : Nat), .int .i64 n] 55)).alloc (.cells #[.string a, .slice none 0 0, .string b'] 43)).heap.size := by simp
    have hT2 := h.below b2
    clear hB0 hok hc hs h hR' her bel hN'
    unfold ptr Opx.v
    dsimp only
    go_enter Tryd.func27, Tryd.ntmps27
    go_wp2_with (go_at_call 30; refine (cP _).mono ?_; rintro e w' ⟨rfl, rfl⟩)
    generalize (W.alloc (.cells #[.int .i64 10, .string a, .string b', .int .u64 (lb ke 0 : Nat), .int .u64 (lb ke 1 : Nat), .int .u64 (lb ke 2 : Nat), .int .u64 (lb ke 3 : Nat), .int .u64 (lb va 0 : Nat), .int .u64 (lb va 1 : Nat), .int .u64 (lb va 2 : Nat), .int .u64 (lb va 3 : Nat), .int .i64 n] 55)).alloc (.cells #[.string a, .slice none 0 0, .string b'] 43) = W2 at *
    obtain ⟨x0, x1, x2, x3, x4, x5, x6, x7, x8, x9, x10, x11⟩ := cells12 xb
    have l0 : W2.cell? ⟨W.heap.size + 1, 0, none⟩ = some (.string a) := by simp [World.cell?, xl]
    have l1 : W2.cell? ⟨W.heap.size + 1, 1, none⟩ = some (.slice none 0 0) := by simp [World.cell?, xl]
    have l2 : W2.cell? ⟨W.heap.size + 1, 2, none⟩ = some (.string b') := by simp [World.cell?, xl]
    refine wp_flowU (fun k => ([1, 1, 1, 1, 1, 2, 0, 0, 0, 0, 0, 2, 1, 1] : List Nat).getD k 1) (dsR W0 W2 F G b q N N' L lv R R') (fun _ => True) (0) (⟨F, G, hT2.below (Below.drew (Below.refl _ _)), (Kp.refl _ _ _).below (Below.drew (Below.refl _ _))⟩) trivial (by kernel_rfl) (by kernel_rfl) ?_
    iterate 5 ((refine flowU_readE rfl rfl (fun K hK => ?_); apply Exists.intro; apply And.intro; (focus (intro w' hR; obtain ⟨F', G', hT', hK'⟩ := hR; have y1 := hK'.cell x1 nF0 nG0; have y3 := hK'.cell x3 nF0 nG0; have y4 := hK'.cell x4 nF0 nG0; have y5 := hK'.cell x5 nF0 nG0; have y6 := hK'.cell x6 nF0 nG0; clear hT' hK'; go_simp; (try go_bits); exact rfl)); go_simp; (try go_bits); refine hK _ ?_; clear hK K))
    refine flowU_step (fun v s => v = (.bool er) ∧ s = 1) (by decide) rfl ⟨_, 1, rfl, rfl⟩ (fun w' hR => ?_) (fun _ _ _ _ _ => trivial) (fun K hK v s2 hs2 => ?_)
    focus
      obtain ⟨F', G', hT', hK'⟩ := hR
      have cM := cS w' F' G' hT'
      unfold ptr at cM
      go_simp
      refine cM.mono ?_
      intro e w3 hm
      obtain ⟨rfl, F2, hT2, hK2⟩ := Two.stepS (R := R) (N := N) hT' hm
      exact ⟨_, rfl, 1, ⟨rfl, rfl⟩, F2, G', hT2, hK'.trans hK2⟩
    obtain ⟨rfl, rfl⟩ := hs2
    (go_simp; refine hK _ _ ?_; clear hK K)
    iterate 5 ((refine flowU_lateE rfl rfl (fun K hK => ?_); apply Exists.intro; apply And.intro; (focus (intro s0 w' hC hR; obtain ⟨F', G', hT', hK'⟩ := hR; have y1 := hK'.cell x1 nF0 nG0; have y3 := hK'.cell x3 nF0 nG0; have y4 := hK'.cell x4 nF0 nG0; have y5 := hK'.cell x5 nF0 nG0; have y6 := hK'.cell x6 nF0 nG0; clear hT' hK'; go_simp; (try go_bits); exact rfl)); go_simp; (try go_bits); refine hK _ ?_; clear hK K))
    refine flowU_step (fun v s => v = (.bool er) ∧ s = 2) (by decide) rfl ⟨_, 2, rfl, rfl⟩ (fun w' hR => ?_) (fun _ _ _ _ _ => trivial) (fun K hK v s2 hs2 => ?_)
    focus
      obtain ⟨F', G', hT', hK'⟩ := hR
      have cM := cR w' F' G' hT'
      unfold ptr at cM
      go_simp
      refine cM.mono ?_
      intro e w3 hm
      obtain ⟨rfl, G2, hT2, hK2⟩ := Two.stepR (R := R') (N := N') hT' hm
      exact ⟨_, rfl, 2, ⟨rfl, rfl⟩, F', G2, hT2, hK'.trans hK2⟩
    obtain ⟨rfl, rfl⟩ := hs2
    (go_simp; refine hK _ _ ?_; clear hK K)
    iterate 2 ((refine flowU_readE rfl rfl (fun K hK => ?_); apply Exists.intro; apply And.intro; (focus (intro w' hR; obtain ⟨F', G', hT', hK'⟩ := hR; have y1 := hK'.cell x1 nF0 nG0; have y3 := hK'.cell x3 nF0 nG0; have y4 := hK'.cell x4 nF0 nG0; have y5 := hK'.cell x5 nF0 nG0; have y6 := hK'.cell x6 nF0 nG0; clear hT' hK'; go_simp; (try go_bits); exact rfl)); go_simp; (try go_bits); refine hK _ ?_; clear hK K))
    refine flowU_nil ?_
    intro w3 hR3
    obtain ⟨F3, G3, hT3, hK3⟩ := hR3
    go_wp2
    go_ret
    exact ⟨rfl, F3, G3, hT3, ((Kp.refl W F G).below b2).trans hK3⟩
  by_cases hk11 : p = 11
  · subst hk11
    obtain ⟨R', hR'⟩ : ∃ R', R' = .note ⟨a, none, 0, 0, b', []⟩ :: R := ⟨_, rfl⟩
    obtain ⟨er, her⟩ : ∃ er : Int, er = 0 := ⟨_, rfl⟩
    rw [show stp L R ⟨k, a, b', ke, va, n⟩ 11 = R' from hR'.symm]
    have cS : ∀ w F' G', Two W0 w F' G' b q N L lv R R → Calls Tryd.prog 19 #[ptr (b + 6), .agg #[.string a, .slice none 0 0, .string b']] w (muPost w F' b N' L R' (.int .i64 er)) := fun w F' G' hT => by rw [hN', hR', her]; exact Log_U hT.s ⟨a, none, 0, 0, b', []⟩ hR
    have cR : ∀ w F' G', Two W0 w F' G' b q N' L lv R' R → Calls Tryd.prog 49 #[ptr q, .agg #[.string a, .slice none 0 0, .string b']] w (mrPost w G' q lv R' (.int .i64 er)) := fun w F' G' hT => by rw [hR', her]; exact Log_R hT.r (by omega) ⟨a, none, 0, 0, b', []⟩
    have b2 := bel (.cells #[.int .i64 11, .string a, .string b', .int .u64 (lb ke 0 : Nat), .int .u64 (lb ke 1 : Nat), .int .u64 (lb ke 2 : Nat), .int .u64 (lb ke 3 : Nat), .int .u64 (lb va 0 : Nat), .int .u64 (lb va 1 : Nat), .int .u64 (lb va 2 : Nat), .int .u64 (lb va 3 : Nat), .int .i64 n] 55) (.cells #[.string a, .slice none 0 0, .string b'] 43)
    have xb : ((W.alloc (.cells #[.int .i64 11, .string a, .string b', .int .u64 (lb ke 0 : Nat), .int .u64 (lb ke 1 : Nat), .int .u64 (lb ke 2 : Nat), .int .u64 (lb ke 3 : Nat), .int .u64 (lb va 0 : Nat), .int .u64 (lb va 1 : Nat), .int .u64 (lb va 2 : Nat), .int .u64 (lb va 3 : Nat), .int .i64 n] 55)).alloc (.cells #[.string a, .slice none 0 0, .string b'] 43)).heap[W.heap.size]? = _ := (Below.heap_alloc _ _ _ (by simp)).trans (heap_new rfl)
    have xl : ((W.alloc (.cells #[.int .i64 11, .string a, .string b', .int .u64 (lb ke 0 : Nat), .int .u64 (lb ke 1 : Nat), .int .u64 (lb ke 2 : Nat), .int .u64 (lb ke 3 : Nat), .int .u64 (lb va 0 : Nat), .int .u64 (lb va 1 : Nat), .int .u64 (lb va 2 : Nat), .int .u64 (lb va 3 : Nat), .int .i64 n] 55)).alloc (.cells #[.string a, .slice none 0 0, .string b'] 43)).heap[W.heap.size + 1]? = _ := heap_new (by simp)
    have z2 : W.heap.size + 2 ≤ ((W.alloc (.cells #[.int .i64 11, .string a, .string b', .int .u64 (lb ke 0 : Nat), .int .u64 (lb ke 1 : Nat), .int .u64 (lb ke 2 : Nat), .int .u64 (lb ke 3 : Nat), .int .u64 (lb va 0 : Nat), .int .u64 (lb va 1 : Nat), .int .u64 (lb va 2 : Nat), .int .u64 (lb va 3 : Nat), .int .i64 n] 55)).alloc (.cells #[.string a, .slice none 0 0, .string b'] 43)).heap.size := by simp
    have hT2 := h.below b2
    clear hB0 hok hc hs h hR' her bel hN'
    unfold ptr Opx.v
    dsimp only
    go_enter Tryd.func27, Tryd.ntmps27
    go_wp2_with (go_at_call 30; refine (cP _).mono ?_; rintro e w' ⟨rfl, rfl⟩)
    generalize (W.alloc (.cells #[.int .i64 11, .string a, .string b', .int .u64 (lb ke 0 : Nat), .int .u64 (lb ke 1 : Nat), .int .u64 (lb ke 2 : Nat), .int .u64 (lb ke 3 : Nat), .int .u64 (lb va 0 : Nat), .int .u64 (lb va 1 : Nat), .int .u64 (lb va 2 : Nat), .int .u64 (lb va 3 : Nat), .int .i64 n] 55)).alloc (.cells #[.string a, .slice none 0 0, .string b'] 43) = W2 at *
    obtain ⟨x0, x1, x2, x3, x4, x5, x6, x7, x8, x9, x10, x11⟩ := cells12 xb
    have l0 : W2.cell? ⟨W.heap.size + 1, 0, none⟩ = some (.string a) := by simp [World.cell?, xl]
    have l1 : W2.cell? ⟨W.heap.size + 1, 1, none⟩ = some (.slice none 0 0) := by simp [World.cell?, xl]
    have l2 : W2.cell? ⟨W.heap.size + 1, 2, none⟩ = some (.string b') := by simp [World.cell?, xl]
    refine wp_flowU (fun k => ([1, 1, 2, 0, 0, 2, 1, 1] : List Nat).getD k 1) (dsR W0 W2 F G b q N N' L lv R R') (fun _ => True) (0) (⟨F, G, hT2.below (Below.drew (Below.refl _ _)), (Kp.refl _ _ _).below (Below.drew (Below.refl _ _))⟩) trivial (by kernel_rfl) (by kernel_rfl) ?_
    iterate 2 ((refine flowU_readE rfl rfl (fun K hK => ?_); apply Exists.intro; apply And.intro; (focus (intro w' hR; obtain ⟨F', G', hT', hK'⟩ := hR; have m0 := hK'.cell l0 nF1 nG1; have m1 := hK'.cell l1 nF1 nG1; have m2 := hK'.cell l2 nF1 nG1; clear hT' hK'; go_simp; (try go_bits); exact rfl)); go_simp; (try go_bits); refine hK _ ?_; clear hK K))
    refine flowU_step (fun v s => v = (.int .i64 er) ∧ s = 1) (by decide) rfl ⟨_, 1, rfl, rfl⟩ (fun w' hR => ?_) (fun _ _ _ _ _ => trivial) (fun K hK v s2 hs2 => ?_)
    focus
      obtain ⟨F', G', hT', hK'⟩ := hR
      have cM := cS w' F' G' hT'
      unfold ptr at cM
      go_simp
      refine cM.mono ?_
      intro e w3 hm
      obtain ⟨rfl, F2, hT2, hK2⟩ := Two.stepS (R := R) (N := N) hT' hm
      exact ⟨_, rfl, 1, ⟨rfl, rfl⟩, F2, G', hT2, hK'.trans hK2⟩
    obtain ⟨rfl, rfl⟩ := hs2
    (go_simp; refine hK _ _ ?_; clear hK K)
    iterate 2 ((refine flowU_lateE rfl rfl (fun K hK => ?_); apply Exists.intro; apply And.intro; (focus (intro s0 w' hC hR; obtain ⟨F', G', hT', hK'⟩ := hR; have m0 := hK'.cell l0 nF1 nG1; have m1 := hK'.cell l1 nF1 nG1; have m2 := hK'.cell l2 nF1 nG1; clear hT' hK'; go_simp; (try go_bits); exact rfl)); go_simp; (try go_bits); refine hK _ ?_; clear hK K))
    refine flowU_step (fun v s => v = (.int .i64 er) ∧ s = 2) (by decide) rfl ⟨_, 2, rfl, rfl⟩ (fun w' hR => ?_) (fun _ _ _ _ _ => trivial) (fun K hK v s2 hs2 => ?_)
    focus
      obtain ⟨F', G', hT', hK'⟩ := hR
      have cM := cR w' F' G' hT'
      unfold ptr at cM
      go_simp
      refine cM.mono ?_
      intro e w3 hm
      obtain ⟨rfl, G2, hT2, hK2⟩ := Two.stepR (R := R') (N := N') hT' hm
      exact ⟨_, rfl, 2, ⟨rfl, rfl⟩, F', G2, hT2, hK'.trans hK2⟩
    obtain ⟨rfl, rfl⟩ := hs2
    (go_simp; refine hK _ _ ?_; clear hK K)
    iterate 2 ((refine flowU_readE rfl rfl (fun K hK => ?_); apply Exists.intro; apply And.intro; (focus (intro w' hR; obtain ⟨F', G', hT', hK'⟩ := hR; have m0 := hK'.cell l0 nF1 nG1; have m1 := hK'.cell l1 nF1 nG1; have m2 := hK'.cell l2 nF1 nG1; clear hT' hK'; go_simp; (try go_bits); exact rfl)); go_simp; (try go_bits); refine hK _ ?_; clear hK K))
    refine flowU_nil ?_
    intro w3 hR3
    obtain ⟨F3, G3, hT3, hK3⟩ := hR3
    go_wp2
    go_ret
    exact ⟨rfl, F3, G3, hT3, ((Kp.refl W F G).below b2).trans hK3⟩
  by_cases hk12 : p = 12
  · subst hk12
    obtain ⟨R', hR'⟩ : ∃ R', R' = bkR R n := ⟨_, rfl⟩
    obtain ⟨er, her⟩ : ∃ er : Int, er = bkE R n := ⟨_, rfl⟩
    rw [show stp L R ⟨k, a, b', ke, va, n⟩ 12 = R' from hR'.symm]
    have cS : ∀ w F' G', Two W0 w F' G' b q N L lv R R → Calls Tryd.prog 31 #[ptr (b + 6), .int .i64 n] w (muPost w F' b N' L R' (.int .i64 er)) := fun w F' G' hT => by rw [hN', hR', her]; exact Back_U hT.s (hB0.below hT.bel) hok n hn hR hN
    have cR : ∀ w F' G', Two W0 w F' G' b q N' L lv R' R → Calls Tryd.prog 50 #[ptr q, .int .i64 n] w (mrPost w G' q lv R' (.int .i64 er)) := fun w F' G' hT => by rw [hR', her]; exact Back_RU hT.r n hn hR
    have b2 := bel (.cells #[.int .i64 12, .string a, .string b', .int .u64 (lb ke 0 : Nat), .int .u64 (lb ke 1 : Nat), .int .u64 (lb ke 2 : Nat), .int .u64 (lb ke 3 : Nat), .int .u64 (lb va 0 : Nat), .int .u64 (lb va 1 : Nat), .int .u64 (lb va 2 : Nat), .int .u64 (lb va 3 : Nat), .int .i64 n] 55) (.cells #[.string a, .slice none 0 0, .string b'] 43)
    have xb : ((W.alloc (.cells #[.int .i64 12, .string a, .string b', .int .u64 (lb ke 0 : Nat), .int .u64 (lb ke 1 : Nat), .int .u64 (lb ke 2 : Nat), .int .u64 (lb ke 3 : Nat), .int .u64 (lb va 0 : Nat), .int .u64 (lb va 1 : Nat), .int .u64 (lb va 2 : Nat), .int .u64 (lb va 3 : Nat), .int .i64 n] 55)).alloc (.cells #[.string a, .slice none 0 0, .string b'] 43)).heap[W.heap.size]? = _ := (Below.heap_alloc _ _ _ (by simp)).trans (heap_new rfl)
    have xl : ((W.alloc (.cells #[.int .i64 12, .string a, .string b', .int .u64 (lb ke 0 : Nat), .int .u64 (lb ke 1 : Nat), .int .u64 (lb ke 2 : Nat), .int .u64 (lb ke 3 : Nat), .int .u64 (lb va 0 : Nat), .int .u64 (lb va 1 : Nat), .int .u64 (lb va 2 : Nat), .int .u64 (lb va 3 : Nat), .int .i64 n] 55)).alloc (.cells #[.string a, .slice none 0 0, .string b'] 43)).heap[W.heap.size + 1]? = _ := heap_new (by simp)
    have z2 : W.heap.size + 2 ≤ ((W.alloc (.cells #[.int .i64 12, .string a, .string b', .int .u64 (lb ke 0 : Nat), .int .u64 (lb ke 1 : Nat), .int .u64 (lb ke 2 : Nat), .int .u64 (lb ke 3 : Nat), .int .u64 (lb va 0 : Nat), .int .u64 (lb va 1 : Nat), .int .u64 (lb va 2 : Nat), .int .u64 (lb va 3 : Nat), .int .i64 n] 55)).alloc (.cells #[.string a, .slice none 0 0, .string b'] 43)).heap.size := by simp
    have hT2 := h.below b2
    clear hB0 hok hc hs h hR' her bel hN'
    unfold ptr Opx.v
    dsimp only
    go_enter Tryd.func27, Tryd.ntmps27
    go_wp2_with (go_at_call 30; refine (cP _).mono ?_; rintro e w' ⟨rfl, rfl⟩)
    generalize (W.alloc (.cells #[.int .i64 12, .string a, .string b', .int .u64 (lb ke 0 : Nat), .int .u64 (lb ke 1 : Nat), .int .u64 (lb ke 2 : Nat), .int .u64 (lb ke 3 : Nat), .int .u64 (lb va 0 : Nat), .int .u64 (lb va 1 : Nat), .int .u64 (lb va 2 : Nat), .int .u64 (lb va 3 : Nat), .int .i64 n] 55)).alloc (.cells #[.string a, .slice none 0 0, .string b'] 43) = W2 at *
    obtain ⟨x0, x1, x2, x3, x4, x5, x6, x7, x8, x9, x10, x11⟩ := cells12 xb
    have l0 : W2.cell? ⟨W.heap.size + 1, 0, none⟩ = some (.string a) := by simp [World.cell?, xl]
    have l1 : W2.cell? ⟨W.heap.size + 1, 1, none⟩ = some (.slice none 0 0) := by simp [World.cell?, xl]
    have l2 : W2.cell? ⟨W.heap.size + 1, 2, none⟩ = some (.string b') := by simp [World.cell?, xl]
    refine wp_flowU (fun k => ([1, 1, 1, 2, 0, 0, 0, 2, 1, 1] : List Nat).getD k 1) (dsR W0 W2 F G b q N N' L lv R R') (fun _ => True) (0) (⟨F, G, hT2.below (Below.drew (Below.refl _ _)), (Kp.refl _ _ _).below (Below.drew (Below.refl _ _))⟩) trivial (by kernel_rfl) (by kernel_rfl) ?_
    iterate 3 ((refine flowU_readE rfl rfl (fun K hK => ?_); apply Exists.intro; apply And.intro; (focus (intro w' hR; obtain ⟨F', G', hT', hK'⟩ := hR; have y11 := hK'.cell x11 nF0 nG0; clear hT' hK'; go_simp; (try go_bits); exact rfl)); go_simp; (try go_bits); refine hK _ ?_; clear hK K))
    refine flowU_step (fun v s => v = (.int .i64 er) ∧ s = 1) (by decide) rfl ⟨_, 1, rfl, rfl⟩ (fun w' hR => ?_) (fun _ _ _ _ _ => trivial) (fun K hK v s2 hs2 => ?_)
    focus
      obtain ⟨F', G', hT', hK'⟩ := hR
      have cM := cS w' F' G' hT'
      unfold ptr at cM
      go_simp
      refine cM.mono ?_
      intro e w3 hm
      obtain ⟨rfl, F2, hT2, hK2⟩ := Two.stepS (R := R) (N := N) hT' hm
      exact ⟨_, rfl, 1, ⟨rfl, rfl⟩, F2, G', hT2, hK'.trans hK2⟩
    obtain ⟨rfl, rfl⟩ := hs2
    (go_simp; refine hK _ _ ?_; clear hK K)
    iterate 3 ((refine flowU_lateE rfl rfl (fun K hK => ?_); apply Exists.intro; apply And.intro; (focus (intro s0 w' hC hR; obtain ⟨F', G', hT', hK'⟩ := hR; have y11 := hK'.cell x11 nF0 nG0; clear hT' hK'; go_simp; (try go_bits); exact rfl)); go_simp; (try go_bits); refine hK _ ?_; clear hK K))
    refine flowU_step (fun v s => v = (.int .i64 er) ∧ s = 2) (by decide) rfl ⟨_, 2, rfl, rfl⟩ (fun w' hR => ?_) (fun _ _ _ _ _ => trivial) (fun K hK v s2 hs2 => ?_)
    focus
      obtain ⟨F', G', hT', hK'⟩ := hR
      have cM := cR w' F' G' hT'
      unfold ptr at cM
      go_simp
      refine cM.mono ?_
      intro e w3 hm
      obtain ⟨rfl, G2, hT2, hK2⟩ := Two.stepR (R := R') (N := N') hT' hm
      exact ⟨_, rfl, 2, ⟨rfl, rfl⟩, F', G2, hT2, hK'.trans hK2⟩
    obtain ⟨rfl, rfl⟩ := hs2
    (go_simp; refine hK _ _ ?_; clear hK K)
    iterate 2 ((refine flowU_readE rfl rfl (fun K hK => ?_); apply Exists.intro; apply And.intro; (focus (intro w' hR; obtain ⟨F', G', hT', hK'⟩ := hR; have y11 := hK'.cell x11 nF0 nG0; clear hT' hK'; go_simp; (try go_bits); exact rfl)); go_simp; (try go_bits); refine hK _ ?_; clear hK K))
    refine flowU_nil ?_
    intro w3 hR3
    obtain ⟨F3, G3, hT3, hK3⟩ := hR3
    go_wp2
    go_ret
    exact ⟨rfl, F3, G3, hT3, ((Kp.refl W F G).below b2).trans hK3⟩
  have e : stp L R ⟨k, a, b', ke, va, n⟩ p = R := by unfold stp; rw [if_neg hk5, if_neg hk7, if_neg hk8, if_neg hk9, if_neg hk10, if_neg hk11, if_neg hk12]
  rw [e]
  have n5 : (p == 5) = false := by simpa using hk5
  have n7 : (p == 7) = false := by simpa using hk7
  have n8 : (p == 8) = false := by simpa using hk8
  have n9 : (p == 9) = false := by simpa using hk9
  have n10 : (p == 10) = false := by simpa using hk10
  have n11 : (p == 11) = false := by simpa using hk11
  have n12 : (p == 12) = false := by simpa using hk12
  have cA : ∀ o1 o2, Calls Tryd.prog 51 #[ptr (b + 6), ptr q, (⟨p, a, b', ke, va, n⟩ : Opx).v] ((W.alloc o1).alloc o2) fun e w' => e = .returned (.bool true) ∧ Below ((W.alloc o1).alloc o2).heap.size ((W.alloc o1).alloc o2) w' := fun o1 o2 =>
    asks_any (h.s.below (bel o1 o2)) (h.r.below (bel o1 o2)) ((hB0.below h.bel).below (bel o1 o2)) hok hR ⟨p, a, b', ke, va, n⟩ ⟨by show _ ≤ p ∧ p ≤ _; omega, hxa, hxb, hke, hva, hn⟩
  unfold ptr Opx.v at *
  dsimp only at *
  clear hB0 hok hc hs e hk5 hk7 hk8 hk9 hk10 hk11 hk12 nF0 nF1 nG0 nG1
  go_enter Tryd.func27, Tryd.ntmps27
  go_wp2_with (first | (go_at_call 30; refine (cP _).mono ?_; rintro e w' ⟨rfl, rfl⟩) | (go_at_call 51; refine (cA _ _).mono ?_; rintro e wb ⟨rfl, hb_wb⟩; have hc_wb := (bcell hb_wb).1; have hf_wb := (bcell hb_wb).2; have hz_wb : _ ≤ wb.heap.size := hb_wb.size; (try simp only [World.size_alloc, World.heap_drewN, World.size_setCell, heap_drew] at hc_wb hf_wb hz_wb); have hz_wb_W_0 : W.heap.size < wb.heap.size := (by omega); have hz_wb_W_1 : W.heap.size + 1 < wb.heap.size := (by omega)))
  go_ret
  have hbb := (bel _ _).trans (hb_wb.mono (bel _ _).size)
  exact ⟨rfl, F, G, (h.below hbb).monoN (by omega), (Kp.refl W F G).below hbb⟩
end
end Go.Proofs.YtcdjdnbdblpofaaDoor
