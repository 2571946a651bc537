/-
  What a state answers: find, Balance, Brief, Mark. Conditions: the state is one.
-/
import Derived.Test.YtcdjdnbdblpofaaDoorPL4
import Derived.Test.YtcdjdnbdblpofaaDoorPL6
import Derived.Test.YtcdjdnbdblpofaaDoorPL12
namespace Go.Proofs.YtcdjdnbdblpofaaDoor
open Go.RowKit Go.Maps
attribute [local go_sem] leftBy leaves
set_option linter.unusedSimpArgs false
set_option linter.unusedVariables false


/-- What find answers, in numbers. -/
def kerr (L : List Kw) (a : ByteArray) : Int := match kfind L a with | some _ => 0 | none => 190
def balN (L : List Kw) (R : List Chg) (a : ByteArray) : Nat := match kfind L a with | some _ => baF L R a | none => 0
theorem kerr_some {L : List Kw} {a : ByteArray} {K : Kw} (h : kfind L a = some K) : kerr L a = 0 := by unfold kerr; rw [h]
theorem kerr_none {L : List Kw} {a : ByteArray} (h : kfind L a = none) : kerr L a = 190 := by unfold kerr; rw [h]
theorem zeroW (w : World) : (zeroValue 25).run Tryd.prog w = .ok (W4 0) w := by rw [W4_zero]; kernel_rfl
theorem zeroB (w : World) : (zeroValue 4).run Tryd.prog w = .ok (.bool false) w := by kernel_rfl

theorem beqS (a b : ByteArray) : (a.toList == b.toList) = decide (a = b) := by
  rw [ByteArray.toList_eq, ByteArray.toList_eq]
  by_cases h : a = b
  · subst h
    simp
  · have h' : ¬ a.data.toList = b.data.toList := fun e => h (ba_ext e)
    simp only [h, decide_false, beq_eq_false_iff_ne, ne_eq]
    exact h'
section
variable {W : World} {F : Nat → Prop} {b N : Nat} {L : List Kw} {R : List Chg}

theorem find_some (h : SRep W F b N L R) {a : ByteArray} (ha : okT a) {K : Kw} (hK : kfind L a = some K) :
    Calls Tryd.prog 34 #[ptr (b + 6), .string a] W fun e w' => e = .returned (.tuple #[K.v, .int .i64 0]) ∧ Below W.heap.size W w' := by
  obtain ⟨un, hC, _⟩ := h
  obtain ⟨lg, s1, _⟩ := hC.st
  exact find_hit s1 a K.kn fun W' e => by
    have := hC.m0.look2 keyT Tryd.underlying66 zeroKn a ha W' e
    rw [hK] at this
    exact this
theorem find_none (h : SRep W F b N L R) {a : ByteArray} (ha : okT a) (hK : kfind L a = none) :
    Calls Tryd.prog 34 #[ptr (b + 6), .string a] W fun e w' => e = .returned (.tuple #[Kn.zero.v, .int .i64 190]) ∧ Below W.heap.size W w' := by
  obtain ⟨un, hC, _⟩ := h
  obtain ⟨lg, s1, _⟩ := hC.st
  exact find_miss s1 a fun W' e => by
    have := hC.m0.look2 keyT Tryd.underlying66 zeroKn a ha W' e
    rw [hK] at this
    exact this

set_option maxRecDepth 100000 in
set_option maxHeartbeats 4000000 in
theorem Balance_S (h : SRep W F b N L R) {a : ByteArray} (ha : okT a) :
    Calls Tryd.prog 11 #[ptr (b + 6), .string a] W fun e w' => e = .returned (.tuple #[W4 (balN L R a), .int .i64 (kerr L a)]) ∧ Below W.heap.size W w' := by
  have h' := h
  obtain ⟨un, hC, _⟩ := h'
  obtain ⟨lg, s1, _⟩ := hC.st
  have hl1 := hC.m1.look1 keyT Tryd.underlying67 zeroW a ha
  have hlt := s1.lt
  cases hK : kfind L a with
  | none =>
    rw [kerr_none hK, show balN L R a = 0 by unfold balN; rw [hK], W4_zero]
    exact Balance_miss s1 a fun W' e => by
      have := hC.m0.look2 keyT Tryd.underlying66 zeroKn a ha W' e
      rw [hK] at this
      exact this
  | some K =>
    have cF : ∀ o1, Calls Tryd.prog 34 #[ptr (b + 6), .string a] (W.alloc o1) fun e w' => e = .returned (.tuple #[K.v, .int .i64 0]) ∧ Below (W.alloc o1).heap.size (W.alloc o1) w' := fun o1 =>
      find_some (h.below ((Below.refl _ W).alloc (Nat.le_refl _) o1)) ha hK
    rw [kerr_some hK, show balN L R a = baF L R a by unfold balN; rw [hK]]
    rw [hK] at hl1
    have hl : ∀ W' : World, W'.heap[b + 1]? = W.heap[b + 1]? → (Instr.lookup 67 (.map (some (b + 1))) (.string a) false).run Tryd.prog W' = .ok (W4 (baF L R a)) W' := hl1
    have hlt1 : b + 6 < W.heap.size + 1 := by omega
    clear hl1 hK hC h
    obtain ⟨_, c1, _⟩ := s1.cells
    generalize baF L R a = n at *
    unfold Kw.v Kw.kn Kn.v ptr at *
    dsimp only at cF
    go_enter Tryd.func11, Tryd.ntmps11
    go_wp2_with (go_at_call 34; refine (cF _).mono ?_; rintro e wa ⟨rfl, hb_wa⟩; have hc_wa := (bcell hb_wa).1; have hf_wa := (bcell hb_wa).2; have hz_wa : _ ≤ wa.heap.size := hb_wa.size; (try simp only [World.size_alloc, World.heap_drewN, World.size_setCell, heap_drew] at hc_wa hf_wa hz_wa); have hz_wa_W_0 : W.heap.size < wa.heap.size := (by omega); have hlt2 : b + 6 < wa.heap.size := (by omega); have hl2 := fun o => hl (wa.alloc o) ((Below.heap_alloc wa o (b + 1) (by omega)).trans ((hb_wa.block _ (by simp; omega)).trans (Below.heap_alloc _ _ _ (by omega)))))
    refine bodyPost_ret (by simp only [results, Tryd.results11]; go_simp; try rfl) rfl ⟨rfl, ?_⟩
    repeat (with_reducible first | exact Below.refl _ _ | assumption | refine below_drewN ?_ _ | refine Below.drew ?_ | refine Below.setCell ?_ (by first | omega | (simp; done) | (simp; omega)) _ | refine Below.alloc ?_ (by first | omega | (simp; done) | (simp; omega)) _ | refine Below.trans ?_ (Below.mono (by assumption) (by first | omega | (simp; done) | (simp; omega))))

/-- What Code answers of a known account. -/
def codS (K : Kw) : ByteArray := if K.th = false ∨ K.cd = emC then ⟨#[]⟩ else if K.hs = false then ⟨#[]⟩ else K.co
def codE (K : Kw) : Int := if K.th = false ∨ K.cd = emC then 0 else if K.hs = false then 190 else 0
def codV (L : List Kw) (a : ByteArray) : Value := match kfind L a with | some K => .tuple #[.string (codS K), .int .i64 (codE K)] | none => .tuple #[.string ⟨#[]⟩, .int .i64 190]

set_option maxRecDepth 100000 in
set_option maxHeartbeats 4000000 in
theorem Code_S (h : SRep W F b N L R) (hw : 3 ≤ W.heap.size) (hT : KT W) {a : ByteArray} (ha : okT a) :
    Calls Tryd.prog 12 #[ptr (b + 6), .string a] W fun e w' => e = .returned (codV L a) ∧ Below W.heap.size W w' := by
  cases hK : kfind L a with
  | none =>
    rw [show codV L a = .tuple #[.string ⟨#[]⟩, .int .i64 190] by unfold codV; rw [hK]]
    have cF := find_none h ha hK
    unfold Kn.v Kn.zero ptr at *
    dsimp only at cF
    go_enter Tryd.func12, Tryd.ntmps12
    go_wp2_with (go_at_call 34; refine cF.mono ?_; rintro e wa ⟨rfl, hb_wa⟩; have hc_wa := (bcell hb_wa).1; have hf_wa := (bcell hb_wa).2; have hz_wa : _ ≤ wa.heap.size := hb_wa.size; (try simp only [World.size_alloc, World.heap_drewN, World.size_setCell, heap_drew] at hc_wa hf_wa hz_wa))
    refine bodyPost_ret (by simp only [results, Tryd.results12]; go_simp; try rfl) rfl ⟨rfl, ?_⟩
    repeat (with_reducible first | exact Below.refl _ _ | assumption | refine below_drewN ?_ _ | refine Below.drew ?_ | refine Below.setCell ?_ (by first | omega | (simp; done) | (simp; omega)) _ | refine Below.alloc ?_ (by first | omega | (simp; done) | (simp; omega)) _ | refine Below.trans ?_ (Below.mono (by assumption) (by first | omega | (simp; done) | (simp; omega))))
  | some K =>
    rw [show codV L a = .tuple #[.string (codS K), .int .i64 (codE K)] by unfold codV; rw [hK]]
    have cF := find_some h ha hK
    have hE : ∀ w, 3 ≤ w.heap.size → KT w → Calls Tryd.prog 35 #[] w fun e w' => e = .returned (.agg #[.int .u64 0, .int .u64 0, .int .u64 0, .int .u64 0, .int .u64 0, .string emR, .string emC]) ∧ Below w.heap.size w w' := Empty_any
    unfold codS codE
    generalize emR = er at *
    generalize emC = ec at *
    clear hK h
    obtain ⟨ad, th, no, ba, rt, cd, hs, co, cp, cn, cc, cs⟩ := K
    unfold Kw.v Kw.kn Kn.v ptr at *
    dsimp only at *
    cases th with
    | false =>
      simp only [true_or, if_true]
      go_enter Tryd.func12, Tryd.ntmps12
      go_wp2_with (go_at_call 34; refine cF.mono ?_; rintro e wa ⟨rfl, hb_wa⟩; have hc_wa := (bcell hb_wa).1; have hf_wa := (bcell hb_wa).2; have hz_wa : _ ≤ wa.heap.size := hb_wa.size; (try simp only [World.size_alloc, World.heap_drewN, World.size_setCell, heap_drew] at hc_wa hf_wa hz_wa))
      first | refine wp_flow (fun k => ([1, 1, 1, 1, 1, 1, 1, 1, 1, 1, 1, 1] : List Nat).getD k 1) Dr _ (Dr.next _ _) (by kernel_rfl) (by kernel_rfl) ?_ | refine wp_flow (fun k => ([1, 1, 1, 1, 1, 1, 1, 1, 1, 1, 1, 1] : List Nat).getD k 1) Dr _ (Dr.one _) (by kernel_rfl) (by kernel_rfl) ?_
      iterate 4 ((refine flow_quiet rfl rfl (fun K hK => ?_); apply Exists.intro; apply And.intro; (focus (rintro w' ⟨nn, rfl⟩; go_simp; (try go_bits); exact ⟨rfl, Dr.of _ _⟩)); go_simp; (try go_bits); refine hK _ ?_; clear hK K))
      iterate 6 (first | (refine flow_skip rfl (fun K hK => ?_); go_simp; (try go_bits); refine hK _ ?_; clear hK K) | (refine flow_quiet rfl rfl (fun K hK => ?_); apply Exists.intro; apply And.intro; (focus (rintro w' ⟨nn, rfl⟩; go_simp; (try go_bits); exact ⟨rfl, Dr.of _ _⟩)); go_simp; (try go_bits); refine hK _ ?_; clear hK K))
      iterate 2 ((refine flow_quiet rfl rfl (fun K hK => ?_); apply Exists.intro; apply And.intro; (focus (rintro w' ⟨nn, rfl⟩; go_simp; (try go_bits); exact ⟨rfl, Dr.of _ _⟩)); go_simp; (try go_bits); refine hK _ ?_; clear hK K))
      refine flow_nil ?_
      rintro w' ⟨nq, rfl⟩
      go_wp2
      refine bodyPost_ret (by simp only [results, Tryd.results12]; go_simp; try rfl) rfl ⟨rfl, ?_⟩
      repeat (with_reducible first | exact Below.refl _ _ | assumption | refine below_drewN ?_ _ | refine Below.drew ?_ | refine Below.setCell ?_ (by first | omega | (simp; done) | (simp; omega)) _ | refine Below.alloc ?_ (by first | omega | (simp; done) | (simp; omega)) _ | refine Below.trans ?_ (Below.mono (by assumption) (by first | omega | (simp; done) | (simp; omega))))
    | true =>
      simp only [Bool.true_eq_false, false_or]
      by_cases h1 : cd = ec
      · simp only [if_pos h1]
        subst h1
        have hs1 : W.heap.size < W.heap.size + 1 := by omega
        go_enter Tryd.func12, Tryd.ntmps12
        go_wp2_with (go_at_call 34; refine cF.mono ?_; rintro e wa ⟨rfl, hb_wa⟩; have hc_wa := (bcell hb_wa).1; have hf_wa := (bcell hb_wa).2; have hz_wa : _ ≤ wa.heap.size := hb_wa.size; (try simp only [World.size_alloc, World.heap_drewN, World.size_setCell, heap_drew] at hc_wa hf_wa hz_wa))
        have kb : (wa.alloc (.cells #[.string ad, .bool true, .int .u64 no, .int .u64 (lb ba 0 : Nat), .int .u64 (lb ba 1 : Nat), .int .u64 (lb ba 2 : Nat), .int .u64 (lb ba 3 : Nat), .string rt, .string cd, .bool hs, .string co, .slice cp cn cc] 65)).heap[wa.heap.size]? = _ := heap_new rfl
        have bF : Below W.heap.size W (wa.alloc (.cells #[.string ad, .bool true, .int .u64 no, .int .u64 (lb ba 0 : Nat), .int .u64 (lb ba 1 : Nat), .int .u64 (lb ba 2 : Nat), .int .u64 (lb ba 3 : Nat), .string rt, .string cd, .bool hs, .string co, .slice cp cn cc] 65)) := hb_wa.alloc hz_wa _
        have hk1 : wa.heap.size < (wa.alloc (.cells #[.string ad, .bool true, .int .u64 no, .int .u64 (lb ba 0 : Nat), .int .u64 (lb ba 1 : Nat), .int .u64 (lb ba 2 : Nat), .int .u64 (lb ba 3 : Nat), .string rt, .string cd, .bool hs, .string co, .slice cp cn cc] 65)).heap.size := by simp
        have hK0 := hT.below bF hw
        clear hc_wa hf_wa hb_wa cF hT
        generalize wa.alloc (.cells #[.string ad, .bool true, .int .u64 no, .int .u64 (lb ba 0 : Nat), .int .u64 (lb ba 1 : Nat), .int .u64 (lb ba 2 : Nat), .int .u64 (lb ba 3 : Nat), .string rt, .string cd, .bool hs, .string co, .slice cp cn cc] 65) = w0 at *
        obtain ⟨x0, x1, x2, x3, x4, x5, x6, x7, x8, x9, x10, x11⟩ := cells12 kb
        clear x0 x2 x3 x4 x5 x6 x7 x11 kb
        have hw0 : 3 ≤ w0.heap.size := by omega
        refine wp_flow (fun k => ([1, 1, 1, 1, 1, 1, 1, 1, 1, 1, 1, 1] : List Nat).getD k 1) (Below (w0.heap.size)) _ (Below.drew (Below.refl _ _)) (by kernel_rfl) (by kernel_rfl) ?_
        iterate 4 ((refine flow_quiet rfl rfl (fun K hK => ?_); apply Exists.intro; apply And.intro; (focus (intro w' hw'; have hc := (bcell hw').1; go_simp; (try go_bits); all_goals (first | exact rfl | exact ⟨rfl, hw'⟩))); go_simp; (try go_bits); refine hK _ ?_; clear hK K))
        iterate 3 (first | (refine flow_skip rfl (fun K hK => ?_); go_simp; (try go_bits); refine hK _ ?_; clear hK K) | (refine flow_quiet rfl rfl (fun K hK => ?_); apply Exists.intro; apply And.intro; (focus (intro w' hw'; have hc := (bcell hw').1; go_simp; (try go_bits); all_goals (first | exact rfl | exact ⟨rfl, hw'⟩))); go_simp; (try go_bits); refine hK _ ?_; clear hK K))
        first | (refine flow_skip rfl (fun K hK => ?_); go_simp; (try go_bits); refine hK _ ?_; clear hK K) | (refine flow_quiet rfl rfl (fun K hK => ?_); apply Exists.intro; apply And.intro; (focus (intro w' hw'; have hc := (bcell hw').1; go_simp; (try go_bits); all_goals (go_at_call 35; with_reducible refine (hE _ (Nat.le_trans hw0 hw'.size) (hK0.below hw' hw0)).mono ?_; rintro e w2 ⟨rfl, hb⟩; exact ⟨rfl, hw'.trans (hb.mono (below_le hw' (by simp)))⟩))); go_simp; (try go_bits); refine hK _ ?_; clear hK K) | (refine flow_quiet rfl rfl (fun K hK => ?_); apply Exists.intro; apply And.intro; (focus (intro w' hw'; have hc := (bcell hw').1; go_simp; (try go_bits); all_goals (go_at_call 35; refine (hE _ (Nat.le_trans hw0 hw'.size) (hK0.below hw' hw0)).mono ?_; rintro e w2 ⟨rfl, hb⟩; exact ⟨rfl, hw'.trans (hb.mono (below_le hw' (by simp)))⟩))); go_simp; (try go_bits); refine hK _ ?_; clear hK K)
        iterate 2 (first | (refine flow_skip rfl (fun K hK => ?_); go_simp; (try go_bits); refine hK _ ?_; clear hK K) | (refine flow_quiet rfl rfl (fun K hK => ?_); apply Exists.intro; apply And.intro; (focus (intro w' hw'; have hc := (bcell hw').1; go_simp; (try go_bits); all_goals (first | exact rfl | exact ⟨rfl, hw'⟩))); go_simp; (try go_bits); refine hK _ ?_; clear hK K))
        iterate 2 ((refine flow_quiet rfl rfl (fun K hK => ?_); apply Exists.intro; apply And.intro; (focus (intro w' hw'; have hc := (bcell hw').1; go_simp; (try go_bits); all_goals (first | exact rfl | exact ⟨rfl, hw'⟩))); go_simp; (try go_bits); refine hK _ ?_; clear hK K))
        refine flow_nil ?_
        intro w' hw'
        have hbF := bF.trans (hw'.mono (by omega))
        have hc := (bcell hw').1
        clear hE hK0 bF
        go_wp2
        refine bodyPost_ret (by simp only [results, Tryd.results12]; go_simp; try rfl) rfl ⟨rfl, hbF⟩
      · have hq : (cd.toList == ec.toList) = false := by rw [beqS]; exact decide_eq_false h1
        simp only [if_neg h1]
        cases hs with
        | false =>
          simp only [if_true]
          have hs1 : W.heap.size < W.heap.size + 1 := by omega
          go_enter Tryd.func12, Tryd.ntmps12
          go_wp2_with (go_at_call 34; refine cF.mono ?_; rintro e wa ⟨rfl, hb_wa⟩; have hc_wa := (bcell hb_wa).1; have hf_wa := (bcell hb_wa).2; have hz_wa : _ ≤ wa.heap.size := hb_wa.size; (try simp only [World.size_alloc, World.heap_drewN, World.size_setCell, heap_drew] at hc_wa hf_wa hz_wa))
          have kb : (wa.alloc (.cells #[.string ad, .bool true, .int .u64 no, .int .u64 (lb ba 0 : Nat), .int .u64 (lb ba 1 : Nat), .int .u64 (lb ba 2 : Nat), .int .u64 (lb ba 3 : Nat), .string rt, .string cd, .bool false, .string co, .slice cp cn cc] 65)).heap[wa.heap.size]? = _ := heap_new rfl
          have bF : Below W.heap.size W (wa.alloc (.cells #[.string ad, .bool true, .int .u64 no, .int .u64 (lb ba 0 : Nat), .int .u64 (lb ba 1 : Nat), .int .u64 (lb ba 2 : Nat), .int .u64 (lb ba 3 : Nat), .string rt, .string cd, .bool false, .string co, .slice cp cn cc] 65)) := hb_wa.alloc hz_wa _
          have hk1 : wa.heap.size < (wa.alloc (.cells #[.string ad, .bool true, .int .u64 no, .int .u64 (lb ba 0 : Nat), .int .u64 (lb ba 1 : Nat), .int .u64 (lb ba 2 : Nat), .int .u64 (lb ba 3 : Nat), .string rt, .string cd, .bool false, .string co, .slice cp cn cc] 65)).heap.size := by simp
          have hK0 := hT.below bF hw
          clear hc_wa hf_wa hb_wa cF hT
          generalize wa.alloc (.cells #[.string ad, .bool true, .int .u64 no, .int .u64 (lb ba 0 : Nat), .int .u64 (lb ba 1 : Nat), .int .u64 (lb ba 2 : Nat), .int .u64 (lb ba 3 : Nat), .string rt, .string cd, .bool false, .string co, .slice cp cn cc] 65) = w0 at *
          obtain ⟨x0, x1, x2, x3, x4, x5, x6, x7, x8, x9, x10, x11⟩ := cells12 kb
          clear x0 x2 x3 x4 x5 x6 x7 x11 kb
          have hw0 : 3 ≤ w0.heap.size := by omega
          refine wp_flow (fun k => ([1, 1, 1, 1, 1, 1, 1, 1, 1, 1, 1, 1] : List Nat).getD k 1) (Below (w0.heap.size)) _ (Below.drew (Below.refl _ _)) (by kernel_rfl) (by kernel_rfl) ?_
          iterate 4 ((refine flow_quiet rfl rfl (fun K hK => ?_); apply Exists.intro; apply And.intro; (focus (intro w' hw'; have hc := (bcell hw').1; go_simp; (try go_bits); all_goals (first | exact rfl | exact ⟨rfl, hw'⟩))); go_simp; (try go_bits); refine hK _ ?_; clear hK K))
          iterate 3 (first | (refine flow_skip rfl (fun K hK => ?_); go_simp; (try go_bits); refine hK _ ?_; clear hK K) | (refine flow_quiet rfl rfl (fun K hK => ?_); apply Exists.intro; apply And.intro; (focus (intro w' hw'; have hc := (bcell hw').1; go_simp; (try go_bits); all_goals (first | exact rfl | exact ⟨rfl, hw'⟩))); go_simp; (try go_bits); refine hK _ ?_; clear hK K))
          first | (refine flow_skip rfl (fun K hK => ?_); go_simp; (try go_bits); refine hK _ ?_; clear hK K) | (refine flow_quiet rfl rfl (fun K hK => ?_); apply Exists.intro; apply And.intro; (focus (intro w' hw'; have hc := (bcell hw').1; go_simp; (try go_bits); all_goals (go_at_call 35; with_reducible refine (hE _ (Nat.le_trans hw0 hw'.size) (hK0.below hw' hw0)).mono ?_; rintro e w2 ⟨rfl, hb⟩; exact ⟨rfl, hw'.trans (hb.mono (below_le hw' (by simp)))⟩))); go_simp; (try go_bits); refine hK _ ?_; clear hK K) | (refine flow_quiet rfl rfl (fun K hK => ?_); apply Exists.intro; apply And.intro; (focus (intro w' hw'; have hc := (bcell hw').1; go_simp; (try go_bits); all_goals (go_at_call 35; refine (hE _ (Nat.le_trans hw0 hw'.size) (hK0.below hw' hw0)).mono ?_; rintro e w2 ⟨rfl, hb⟩; exact ⟨rfl, hw'.trans (hb.mono (below_le hw' (by simp)))⟩))); go_simp; (try go_bits); refine hK _ ?_; clear hK K)
          iterate 2 (first | (refine flow_skip rfl (fun K hK => ?_); go_simp; (try go_bits); refine hK _ ?_; clear hK K) | (refine flow_quiet rfl rfl (fun K hK => ?_); apply Exists.intro; apply And.intro; (focus (intro w' hw'; have hc := (bcell hw').1; go_simp; (try go_bits); all_goals (first | exact rfl | exact ⟨rfl, hw'⟩))); go_simp; (try go_bits); refine hK _ ?_; clear hK K))
          iterate 2 ((refine flow_quiet rfl rfl (fun K hK => ?_); apply Exists.intro; apply And.intro; (focus (intro w' hw'; have hc := (bcell hw').1; go_simp; (try go_bits); all_goals (first | exact rfl | exact ⟨rfl, hw'⟩))); go_simp; (try go_bits); refine hK _ ?_; clear hK K))
          refine flow_nil ?_
          intro w' hw'
          have hbF := bF.trans (hw'.mono (by omega))
          have hc := (bcell hw').1
          clear hE hK0 bF
          go_wp2
          refine bodyPost_ret (by simp only [results, Tryd.results12]; go_simp; try rfl) rfl ⟨rfl, hbF⟩
        | true =>
          simp only [Bool.true_eq_false, if_false]
          have hs1 : W.heap.size < W.heap.size + 1 := by omega
          go_enter Tryd.func12, Tryd.ntmps12
          go_wp2_with (go_at_call 34; refine cF.mono ?_; rintro e wa ⟨rfl, hb_wa⟩; have hc_wa := (bcell hb_wa).1; have hf_wa := (bcell hb_wa).2; have hz_wa : _ ≤ wa.heap.size := hb_wa.size; (try simp only [World.size_alloc, World.heap_drewN, World.size_setCell, heap_drew] at hc_wa hf_wa hz_wa))
          have kb : (wa.alloc (.cells #[.string ad, .bool true, .int .u64 no, .int .u64 (lb ba 0 : Nat), .int .u64 (lb ba 1 : Nat), .int .u64 (lb ba 2 : Nat), .int .u64 (lb ba 3 : Nat), .string rt, .string cd, .bool true, .string co, .slice cp cn cc] 65)).heap[wa.heap.size]? = _ := heap_new rfl
          have bF : Below W.heap.size W (wa.alloc (.cells #[.string ad, .bool true, .int .u64 no, .int .u64 (lb ba 0 : Nat), .int .u64 (lb ba 1 : Nat), .int .u64 (lb ba 2 : Nat), .int .u64 (lb ba 3 : Nat), .string rt, .string cd, .bool true, .string co, .slice cp cn cc] 65)) := hb_wa.alloc hz_wa _
          have hk1 : wa.heap.size < (wa.alloc (.cells #[.string ad, .bool true, .int .u64 no, .int .u64 (lb ba 0 : Nat), .int .u64 (lb ba 1 : Nat), .int .u64 (lb ba 2 : Nat), .int .u64 (lb ba 3 : Nat), .string rt, .string cd, .bool true, .string co, .slice cp cn cc] 65)).heap.size := by simp
          have hK0 := hT.below bF hw
          clear hc_wa hf_wa hb_wa cF hT
          generalize wa.alloc (.cells #[.string ad, .bool true, .int .u64 no, .int .u64 (lb ba 0 : Nat), .int .u64 (lb ba 1 : Nat), .int .u64 (lb ba 2 : Nat), .int .u64 (lb ba 3 : Nat), .string rt, .string cd, .bool true, .string co, .slice cp cn cc] 65) = w0 at *
          obtain ⟨x0, x1, x2, x3, x4, x5, x6, x7, x8, x9, x10, x11⟩ := cells12 kb
          clear x0 x2 x3 x4 x5 x6 x7 x11 kb
          have hw0 : 3 ≤ w0.heap.size := by omega
          refine wp_flow (fun k => ([1, 1, 1, 1, 1, 1, 1, 1, 1, 1, 1, 1] : List Nat).getD k 1) (Below (w0.heap.size)) _ (Below.drew (Below.refl _ _)) (by kernel_rfl) (by kernel_rfl) ?_
          iterate 4 ((refine flow_quiet rfl rfl (fun K hK => ?_); apply Exists.intro; apply And.intro; (focus (intro w' hw'; have hc := (bcell hw').1; go_simp; (try go_bits); all_goals (first | exact rfl | exact ⟨rfl, hw'⟩))); go_simp; (try go_bits); refine hK _ ?_; clear hK K))
          iterate 3 (first | (refine flow_skip rfl (fun K hK => ?_); go_simp; (try go_bits); refine hK _ ?_; clear hK K) | (refine flow_quiet rfl rfl (fun K hK => ?_); apply Exists.intro; apply And.intro; (focus (intro w' hw'; have hc := (bcell hw').1; go_simp; (try go_bits); all_goals (first | exact rfl | exact ⟨rfl, hw'⟩))); go_simp; (try go_bits); refine hK _ ?_; clear hK K))
          first | (refine flow_skip rfl (fun K hK => ?_); go_simp; (try go_bits); refine hK _ ?_; clear hK K) | (refine flow_quiet rfl rfl (fun K hK => ?_); apply Exists.intro; apply And.intro; (focus (intro w' hw'; have hc := (bcell hw').1; go_simp; (try go_bits); all_goals (go_at_call 35; with_reducible refine (hE _ (Nat.le_trans hw0 hw'.size) (hK0.below hw' hw0)).mono ?_; rintro e w2 ⟨rfl, hb⟩; exact ⟨rfl, hw'.trans (hb.mono (below_le hw' (by simp)))⟩))); go_simp; (try go_bits); refine hK _ ?_; clear hK K) | (refine flow_quiet rfl rfl (fun K hK => ?_); apply Exists.intro; apply And.intro; (focus (intro w' hw'; have hc := (bcell hw').1; go_simp; (try go_bits); all_goals (go_at_call 35; refine (hE _ (Nat.le_trans hw0 hw'.size) (hK0.below hw' hw0)).mono ?_; rintro e w2 ⟨rfl, hb⟩; exact ⟨rfl, hw'.trans (hb.mono (below_le hw' (by simp)))⟩))); go_simp; (try go_bits); refine hK _ ?_; clear hK K)
          iterate 2 (first | (refine flow_skip rfl (fun K hK => ?_); go_simp; (try go_bits); refine hK _ ?_; clear hK K) | (refine flow_quiet rfl rfl (fun K hK => ?_); apply Exists.intro; apply And.intro; (focus (intro w' hw'; have hc := (bcell hw').1; go_simp; (try go_bits); all_goals (first | exact rfl | exact ⟨rfl, hw'⟩))); go_simp; (try go_bits); refine hK _ ?_; clear hK K))
          iterate 2 ((refine flow_quiet rfl rfl (fun K hK => ?_); apply Exists.intro; apply And.intro; (focus (intro w' hw'; have hc := (bcell hw').1; go_simp; (try go_bits); all_goals (first | exact rfl | exact ⟨rfl, hw'⟩))); go_simp; (try go_bits); refine hK _ ?_; clear hK K))
          refine flow_nil ?_
          intro w' hw'
          have hbF := bF.trans (hw'.mono (by omega))
          have hc := (bcell hw').1
          clear hE hK0 bF
          go_wp2
          refine bodyPost_ret (by simp only [results, Tryd.results12]; go_simp; try rfl) rfl ⟨rfl, hbF⟩
end
end Go.Proofs.YtcdjdnbdblpofaaDoor
