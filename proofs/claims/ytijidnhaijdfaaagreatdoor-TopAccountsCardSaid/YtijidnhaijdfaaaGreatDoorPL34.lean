/-
  Texts of one proof, one behind the other. Conditions: each text's own line says them.
-/
import Derived.Test.YtijidnhaijdfaaaGreatDoorPL32
import Derived.Test.YtijidnhaijdfaaaGreatDoorPL33

/- Accounts in a trie: the pairs of TopAccounts. Conditions: texts that are not too long. -/
namespace Go.Proofs.YtijidnhaijdfaaaGreatDoor
open Go.RowKit
attribute [local go_sem] leftBy leaves Oper.semAt_some
set_option linter.unusedSimpArgs false
set_option linter.unusedVariables false

theorem infoPr : (Tryz.prog.info? 36).map (fun i => (i.zero, i.size, i.bytes)) = some (some (.agg #[.string ⟨#[]⟩, .string ⟨#[]⟩]), 2, 32) := by kernel_rfl
/-- An account stands in seven cells. -/
def acR (W : World) (bl o : Nat) (x : Ac) : Prop := W.cell? ⟨bl, o, none⟩ = some (.int .u64 (x.n : Nat)) ∧ W.cell? ⟨bl, o + 1, none⟩ = some (.int .u64 (lb x.b 0 : Nat)) ∧ W.cell? ⟨bl, o + 2, none⟩ = some (.int .u64 (lb x.b 1 : Nat)) ∧ W.cell? ⟨bl, o + 3, none⟩ = some (.int .u64 (lb x.b 2 : Nat)) ∧ W.cell? ⟨bl, o + 4, none⟩ = some (.int .u64 (lb x.b 3 : Nat)) ∧ W.cell? ⟨bl, o + 5, none⟩ = some (.string (bsS x.r)) ∧ W.cell? ⟨bl, o + 6, none⟩ = some (.string (bsS x.c))
theorem acR.to {W W' : World} {bl o : Nat} {x : Ac} (h : acR W bl o x) (e : W'.heap[bl]? = W.heap[bl]?) : acR W' bl o x := by
  have hc : ∀ k v, W.cell? ⟨bl, k, none⟩ = some v → W'.cell? ⟨bl, k, none⟩ = some v := fun k v hk => (World.cell?_of_block (a := ⟨bl, k, none⟩) e).trans hk
  obtain ⟨h0, h1, h2, h3, h4, h5, h6⟩ := h
  exact ⟨hc _ _ h0, hc _ _ h1, hc _ _ h2, hc _ _ h3, hc _ _ h4, hc _ _ h5, hc _ _ h6⟩
/-- A slice of accounts. -/
def acL (W : World) (v : Value) (A : List Ac) : Prop := ∃ (a : Option Addr) (c : Nat), v = .slice a A.length c ∧ ∀ (i : Nat) (x : Ac), A[i]? = some x → ∃ bl o, a = some ⟨bl, o, none⟩ ∧ acR W bl (o + i * 7) x
/-- The pairs of accounts and addresses. -/
def prs (Z : List (Ac × Bs)) : List Lf := Z.map fun p => (dg p.2, enc p.1.item)
theorem enc_ne (x : It) : enc x ≠ [] := fun e => by
  have h1 := enc_pos x
  rw [e] at h1
  simp at h1
theorem prs_ok {Z : List (Ac × Bs)} (h : ∀ p ∈ Z, p.1.right) : ∀ x ∈ prs Z, x.1.length = 32 ∧ x.2 ≠ [] ∧ x.2.length ≤ 1000 := by
  intro x hx
  unfold prs at hx
  rw [List.mem_map] at hx
  obtain ⟨p, hp, hpx⟩ := hx
  have h1 := dg_length p.2
  have h2 := enc_ne p.1.item
  have h3 := p.1.enc_le (h p hp)
  generalize dg p.2 = d at *
  generalize enc p.1.item = e at *
  subst hpx
  exact ⟨h1, h2, h3⟩
theorem lfC_snoc2 (L : List Lf) (d e : Bs) : lfC (L ++ [(d, e)]) = lfC L ++ [.string (bsS d), .string (bsS e)] := lfC_snoc L (d, e)
theorem prs_snoc (Z : List (Ac × Bs)) (x : Ac) (s : Bs) : prs (Z ++ [(x, s)]) = prs Z ++ [(dg s, enc x.item)] := by
  unfold prs
  rw [List.map_append, List.map_cons, List.map_nil]
theorem acR.lt {W : World} {bl o : Nat} {x : Ac} (h : acR W bl o x) : bl < W.heap.size := lt_of_cell h.1
theorem lvF_own2 {e : TypeId} {F : Nat → Prop} {W : World} {B : Nat} {v : Value} {L : List Lf} (h : W.ownsRow B e 2 v L.length (lfC L)) (hF : ∀ g, v.ownBlock = some g → F g) : lvF F W v L := by
  obtain ⟨a, c, hv, h1, h2⟩ := row_form h
  refine ⟨a, c, hv, ⟨h1, h2⟩, fun i u hu => ?_⟩
  rcases h.2 with ⟨hn, h0⟩ | ⟨g, cap, cur, hg, h3, h4, h5⟩
  · have : L = [] := List.eq_nil_of_length_eq_zero h0
    subst this
    cases hu
  · have hc := h.cells (g := g) (by rw [hg]; rfl)
    simp only [addr_add] at hc
    obtain ⟨e0, e1⟩ := lfC_get hu
    rw [hv] at hg
    simp only [Value.slice.injEq] at hg
    refine ⟨g, 0, ⟨hg.1, hF g (by rw [hv, hg.1]; rfl)⟩, hc _ _ e0, ?_⟩
    have := hc _ _ e1
    rwa [← Nat.add_assoc] at this
/-- The code behind a first part. -/
def sqC : Code → Code
  | .seq _ b => b
  | c => c
end Go.Proofs.YtijidnhaijdfaaaGreatDoor

/- Accounts in a trie: what TopAccounts does behind its loop. Conditions: texts that are not too long. -/
namespace Go.Proofs.YtijidnhaijdfaaaGreatDoor
open Go.RowKit
attribute [local go_sem] leftBy leaves Oper.semAt_some
set_option linter.unusedSimpArgs false
set_option linter.unusedVariables false

set_option maxRecDepth 100000 in
set_option maxHeartbeats 16000000 in
theorem acc_rest (A : List Ac) (S : List Bs) (Z : List (Ac × Bs)) (at_ : Int) (other : Bs) (W w2 wr : World) (la sa va : Option Addr) (lc sc vc : Nat) (hlc : ∀ (i : Nat) (x : Ac), A[i]? = some x → ∃ bl o, la = some ⟨bl, o, none⟩ ∧ acR W bl (o + i * 7) x) (hA : ∀ x ∈ A, x.wf) (hZA : ∀ (i : Nat) (p : Ac × Bs), Z[i]? = some p → A[i]? = some p.1) (hZ20 : Z.length ≤ 20) (hrt : ∀ p ∈ Z, p.1.right)
    (hrow : wr.ownsRow w2.heap.size 36 2 (.slice va Z.length vc) Z.length (lfC (prs Z))) (hbW : Below W.heap.size W wr) (hO : other.length ≤ 140737488351232) (hT : KT W) (h3 : 3 ≤ W.heap.size) (u8 u12 u13 u25 u26 u27 u28 u29 u30 u31 u32 u33 u34 u35 u36 u37 u38 u39 u40 u41 u42 u43 u44 u45 u46 u47 u48 u49 u50 u51 u52 u53 u54 u55 u56 u57 u58 u59 u60 u61 u62 : Value) :
    Code.wp Tryz.prog (sqC (sqC (sqC (sqC (Tryz.f3.body.getD Code.skip))))) (bodyPost Tryz.prog Tryz.f3 fun e w' => e = .returned (.bool true) ∧ Below W.heap.size W w') ⟨#[.slice la A.length lc, .slice sa S.length sc, .int .i64 at_, .string (bsS other), undef, undef, undef, undef, u8, .bool true, .slice va Z.length vc, .int .i64 (Z.length : Nat), u12, u13, undef, undef, undef, undef, undef, undef, undef, undef, undef, undef, .bool true, u25, u26, u27, u28, u29, u30, u31, u32, u33, u34, u35, u36, u37, u38, u39, u40, u41, u42, u43, u44, u45, u46, u47, u48, u49, u50, u51, u52, u53, u54, u55, u56, u57, u58, u59, u60, u61, u62, undef, undef, undef, undef, undef, undef, undef, undef, undef, undef, undef, undef, undef, undef, undef, undef, undef, undef, undef, undef, undef, undef, undef, undef, undef, undef, undef, undef, undef, undef, undef, undef, undef, undef, undef, undef, undef, undef, undef, undef, undef, undef, undef, undef, undef, undef, undef, undef, undef, undef, undef, undef, undef, undef, undef, undef, undef, undef, undef, undef, undef, undef, undef, undef, undef, undef, undef, undef, undef, undef, undef, undef, undef, undef, undef, undef, undef, undef, undef, undef, undef, undef, undef, undef, undef, undef, undef, undef, undef, undef, undef, undef, undef, undef, undef, undef, undef, undef, undef], []⟩ wr := by
  show Code.wp Tryz.prog (Code.seq _ _) _ _ _
  have hpl : (prs Z).length = Z.length := by unfold prs; rw [List.length_map]
  have hlv : lvF (fun _ => True) wr (.slice va Z.length vc) (prs Z) := lvF_own2 (by rw [hpl]; exact hrow) (fun _ _ => trivial)
  have hpo := prs_ok hrt
  have cR := fun w (hb : Below wr.heap.size wr w) => Right_any (.slice va Z.length vc) (prs Z) w (hlv.below hb) (by omega) (fun x hx => by have := (hpo x hx).1; omega)
  have cRh := Lib.hid cR
  have hpoh := Lib.hid hpo
  have hrth := Lib.hid hrt
  clear cR hpo hrt hrow
  by_cases hR : rightP (prs Z)
  · by_cases h0 : at_ < 0
    · have cR2 := cRh.out wr (Below.refl _ _)
      rw [decide_eq_true hR] at cR2
      go_wp2_with (go_at_call 8; refine cR2.mono ?_; rintro e w3 ⟨rfl, hb3⟩)
      refine bodyPost_ret (by simp only [results, Tryz.results3]; go_simp; try rfl) rfl ⟨rfl, hbW.trans (hb3.mono hbW.size)⟩
    · have h0i : ¬ at_ < 0 := h0
      have cR2 := cRh.out wr (Below.refl _ _)
      rw [decide_eq_true hR] at cR2
      by_cases h1 : (Z.length : Int) ≤ at_
      · go_wp2_with (go_at_call 8; refine cR2.mono ?_; rintro e w3 ⟨rfl, hb3⟩)
        refine bodyPost_ret (by simp only [results, Tryz.results3]; go_simp; try rfl) rfl ⟨rfl, hbW.trans (hb3.mono hbW.size)⟩
      · obtain ⟨m, rfl⟩ : ∃ m : Nat, at_ = (m : Int) := ⟨at_.toNat, by omega⟩
        have hmn : m < Z.length := by omega
        obtain ⟨⟨x, s⟩, hZm⟩ : ∃ p, Z[m]? = some p := ⟨_, List.getElem?_eq_getElem hmn⟩
        have hxA := hZA m _ hZm
        have hxr := hrth.out _ (List.mem_of_getElem? hZm)
        have hxw := hA x (List.mem_of_getElem? hxA)
        have hP : (prs Z)[m]? = some (dg s, enc x.item) := by unfold prs; rw [List.getElem?_map, hZm, Option.map_some]
        have hok : okP 32 (prs Z) := ⟨by decide, by decide, hpoh.out, hR.2.1, hR.2.2⟩
        have hne : prs Z ≠ [] := fun e => by rw [e] at hP; cases hP
        have hv1 := (valOf_spec hok hne (dg s) (dg_length s)).1 _ (List.mem_of_getElem? hP)
        have hem : (enc x.item).isEmpty = false := by
          cases he : enc x.item with
          | nil => exact absurd he (enc_ne _)
          | cons _ _ => rfl
        have c1 := fun w (hb : Below wr.heap.size wr w) => proven_any 32 (.slice va Z.length vc) (prs Z) (dg s) w hok hne (dg_length s) (hlv.below hb) (hT.below (hbW.trans (hb.mono hbW.size)) h3) (by have := hb.size; have := hbW.size; omega)
        have c2 := fun w (hb : Below wr.heap.size wr w) => proven_any 32 (.slice va Z.length vc) (prs Z) (dg other) w hok hne (dg_length other) (hlv.below hb) (hT.below (hbW.trans (hb.mono hbW.size)) h3) (by have := hb.size; have := hbW.size; omega)
        rw [hv1, hem] at c1
        have hV2 := valOf_spec hok hne (dg other) (dg_length other)
        have cF := fun w => acct_From x hxw hxr w
        have cS := fun g w => Sum_oneL other g w
        obtain ⟨bl, o, rfl, hac⟩ := hlc m x hxA
        obtain ⟨pb, po, rfl, hcell⟩ := lvF.at (by rw [← hpl] at hlv; exact hlv) (by omega)
        have k0 := (hcell m _ hP).1
        have hpb := lt_of_cell k0
        have hbl := hac.lt
        have hmi : (m : Int) < (Z.length : Int) := by omega
        have hmi0 : (0 : Int) ≤ (m : Int) := by omega
        have hml : m < A.length := (List.getElem?_eq_some_iff.1 hxA).1
        have hmA : (m : Int) < (A.length : Int) := by omega
        have h1n : ¬ Z.length ≤ m := by omega
        unfold Ac.v at cF
        have hcellh := Lib.hid hcell
        have hV2h := Lib.hid hV2
        have c2h := Lib.hid c2
        have c1h := Lib.hid c1
        have hach := Lib.hid hac
        clear c1 c2 hV2 hcell hac hlv hok hv1 hem hxr hxw hA hZA hlc hne hR h0 cRh
        generalize hV : valOf 32 (prs Z) (dg other) = V at *
        go_wp2_with (first | (go_at_call 8; refine cR2.mono ?_; rintro e w3 ⟨rfl, hb3⟩; have k3 := (hb3.cell (p := ⟨pb, po + m * 2, none⟩) hpb).trans k0) | (go_at_call 9; with_reducible refine (c1h.out _ hb3).mono ?_; rintro e w4 ⟨rfl, hb4⟩) | (go_at_call 10; (with_reducible refine (cF _).mono ?_); rintro e w5 ⟨rfl, hb5⟩))
        have hz3 := hb3.size
        have hz4 := hb4.size
        have hz5 := hb5.size
        have n6 := heap_new (w := w5) (o := .cells #[.int .u64 (x.n : Nat), .int .u64 (lb x.b 0 : Nat), .int .u64 (lb x.b 1 : Nat), .int .u64 (lb x.b 2 : Nat), .int .u64 (lb x.b 3 : Nat), .string (bsS x.r), .string (bsS x.c)] 33) rfl
        have b6 : Below wr.heap.size wr (w5.alloc (.cells #[.int .u64 (x.n : Nat), .int .u64 (lb x.b 0 : Nat), .int .u64 (lb x.b 1 : Nat), .int .u64 (lb x.b 2 : Nat), .int .u64 (lb x.b 3 : Nat), .string (bsS x.r), .string (bsS x.c)] 33)) := (((hb3.trans (hb4.mono hz3)).trans (hb5.mono (by omega)))).alloc (by omega) _
        have q0 := Lib.cell_of_heap n6 0
        have q1 := Lib.cell_of_heap n6 1
        have q2 := Lib.cell_of_heap n6 2
        have q3 := Lib.cell_of_heap n6 3
        have q4 := Lib.cell_of_heap n6 4
        have q5 := Lib.cell_of_heap n6 5
        have q6 := Lib.cell_of_heap n6 6
        simp only [List.getElem?_toArray, List.getElem?_cons_zero, List.getElem?_cons_succ] at q0 q1 q2 q3 q4 q5 q6
        obtain ⟨d0, d1, d2, d3, d4, d5, d6⟩ := hach.out.to ((hbW.trans (b6.mono hbW.size)).block bl hbl)
        have hgA := guardA
        have hnA := fun w => neqA (x.n : Nat) (lb x.b 0 : Nat) (lb x.b 1 : Nat) (lb x.b 2 : Nat) (lb x.b 3 : Nat) (bsS x.r) (bsS x.c) w
        generalize w5.alloc (.cells #[.int .u64 (x.n : Nat), .int .u64 (lb x.b 0 : Nat), .int .u64 (lb x.b 1 : Nat), .int .u64 (lb x.b 2 : Nat), .int .u64 (lb x.b 3 : Nat), .string (bsS x.r), .string (bsS x.c)] 33) = w6 at *
        clear n6 cF cR2 c1h k3
        first | refine wp_flow (fun k => ([1, 1, 1, 1, 1, 1, 1, 1, 1, 1, 1, 1, 1, 1, 1, 1, 1, 1] : List Nat).getD k 1) Dr _ (Dr.next _ _) (by kernel_rfl) (by kernel_rfl) ?_ | refine wp_flow (fun k => ([1, 1, 1, 1, 1, 1, 1, 1, 1, 1, 1, 1, 1, 1, 1, 1, 1, 1] : List Nat).getD k 1) Dr _ (Dr.one _) (by kernel_rfl) (by kernel_rfl) ?_
        iterate 3 ((refine flow_quiet rfl rfl (fun K hK => ?_); apply Exists.intro; apply And.intro; (focus (rintro w' ⟨nn, rfl⟩; go_simp; (try go_bits); exact ⟨rfl, Dr.of _ _⟩)); go_simp; (try go_bits); refine hK _ ?_; clear hK K))
        iterate 2 (first | (refine flow_skip rfl (fun K hK => ?_); go_simp; (try go_bits); refine hK _ ?_; clear hK K) | (refine flow_quiet rfl rfl (fun K hK => ?_); apply Exists.intro; apply And.intro; (focus (rintro w' ⟨nn, rfl⟩; go_simp; (try go_bits); exact ⟨rfl, Dr.of _ _⟩)); go_simp; (try go_bits); refine hK _ ?_; clear hK K))
        iterate 2 ((refine flow_quiet rfl rfl (fun K hK => ?_); apply Exists.intro; apply And.intro; (focus (rintro w' ⟨nn, rfl⟩; go_simp; (try go_bits); exact ⟨rfl, Dr.of _ _⟩)); go_simp; (try go_bits); refine hK _ ?_; clear hK K))
        iterate 2 (first | (refine flow_skip rfl (fun K hK => ?_); go_simp; (try go_bits); refine hK _ ?_; clear hK K) | (refine flow_quiet rfl rfl (fun K hK => ?_); apply Exists.intro; apply And.intro; (focus (rintro w' ⟨nn, rfl⟩; go_simp; (try go_bits); exact ⟨rfl, Dr.of _ _⟩)); go_simp; (try go_bits); refine hK _ ?_; clear hK K))
        iterate 2 ((refine flow_quiet rfl rfl (fun K hK => ?_); apply Exists.intro; apply And.intro; (focus (rintro w' ⟨nn, rfl⟩; go_simp; (try go_bits); exact ⟨rfl, Dr.of _ _⟩)); go_simp; (try go_bits); refine hK _ ?_; clear hK K))
        iterate 6 (first | (refine flow_skip rfl (fun K hK => ?_); go_simp; (try go_bits); refine hK _ ?_; clear hK K) | (refine flow_quiet rfl rfl (fun K hK => ?_); apply Exists.intro; apply And.intro; (focus (rintro w' ⟨nn, rfl⟩; go_simp; (try go_bits); exact ⟨rfl, Dr.of _ _⟩)); go_simp; (try go_bits); refine hK _ ?_; clear hK K))
        (refine flow_quiet rfl rfl (fun K hK => ?_); apply Exists.intro; apply And.intro; (focus (rintro w' ⟨nn, rfl⟩; go_simp; (try go_bits); exact ⟨rfl, Dr.of _ _⟩)); go_simp; (try go_bits); refine hK _ ?_; clear hK K)
        refine flow_nil ?_
        rintro w' ⟨nq, rfl⟩
        have b6d := below_drewN b6 nq
        clear d0 d1 d2 d3 d4 d5 d6 q0 q1 q2 q3 q4 q5 q6 hnA hgA
        generalize w6.drewN nq = w6d at *
        have b7 := b6d.alloc b6d.size (.cells #[.string (bsS other)] 9)
        have hz6 := b6d.size
        have hzW := hbW.size
        have z7 : (w6d.alloc (.cells #[.string (bsS other)] 9)).heap.size = w6d.heap.size + 1 := World.size_alloc _ _
        go_wp2_with (first | (go_at_call 7; refine (cS _ _ (by rw [Lib.cell_of_heap (heap_new rfl)]; rfl) hO (by omega) (hT.below (hbW.trans (b7.mono hzW)) h3)).mono ?_; rintro e w8 ⟨rfl, hb8⟩; have hb8' := b7.trans (hb8.mono (by omega))) | (go_at_call 9; with_reducible refine (c2h.out _ hb8').mono ?_; rintro e w9 ⟨rfl, hb9⟩))
        have b9 : Below wr.heap.size wr w9 := hb8'.trans (hb9.mono hb8'.size)
        have hcell9 := Lib.hid fun j p hp => (⟨(b9.cell (p := ⟨pb, po + j * 2, none⟩) hpb).trans (hcellh.out j p hp).1, (b9.cell (p := ⟨pb, po + j * 2 + 1, none⟩) hpb).trans (hcellh.out j p hp).2⟩ : w9.cell? ⟨pb, po + j * 2, none⟩ = some (.string (bsS p.1)) ∧ w9.cell? ⟨pb, po + j * 2 + 1, none⟩ = some (.string (bsS p.2)))
        have hbe : Below W.heap.size W w9 := hbW.trans (b9.mono hzW)
        clear hb3 hb4 hb5 b6 b6d b7 hb8 hb8' hb9 cS c2h hach hcellh hbW hT
        generalize prs Z = PZ at *
        generalize dg other = D at *
        go_loopw [23] (fun y wq => wq = w9 ∧ ∃ j : Nat, j ≤ Z.length ∧ y = .int .i64 (j : Nat) ∧ ∀ (j' : Nat) (p : Lf), j' < j → PZ[j']? = some p → p.1 ≠ D) (fun y _ => Z.length - (intOf y).toNat)
        case atStart => exact ⟨rfl, 0, Nat.zero_le _, rfl, fun j' p h => absurd h (Nat.not_lt_zero _)⟩
        case round =>
          obtain ⟨rfl, j, hj, rfl, hno⟩ := hrel
          by_cases hjl : j < Z.length
          · obtain ⟨p, hp⟩ : ∃ p, PZ[j]? = some p := ⟨_, List.getElem?_eq_getElem (by omega)⟩
            obtain ⟨e0, e1⟩ := hcell9.out j p hp
            have hji : (j : Int) < (Z.length : Int) := by omega
            obtain ⟨pk, pv⟩ := p
            dsimp only at e0 e1
            by_cases hk : pk = D
            · subst hk
              have hVp := hV2h.out.1 pv (List.mem_of_getElem? hp)
              subst hVp
              have hpv := (hpoh.out _ (List.mem_of_getElem? hp)).2.1
              have hVe : V.isEmpty = false := by
                cases V with
                | nil => exact absurd rfl hpv
                | cons _ _ => rfl
              clear hV2h hno hp
              go_wp2
              refine bodyPost_ret (by simp only [results, Tryz.results3]; go_simp; try rfl) rfl ⟨?_, hbe⟩
              first | rfl | (rw [hVe]; simp)
            · have hk2 : ((bsS pk).toList == (bsS D).toList) = false := by
                rw [bsS_list, bsS_list, beq_eq_false_iff_ne]
                exact hk
              go_wp2
              refine ⟨⟨trivial, j + 1, by omega, by go_num, fun j' q hj' hq => ?_⟩, by simp [intOf]; omega⟩
              by_cases e : j' < j
              · exact hno j' q e hq
              · obtain rfl : j' = j := by omega
                rw [hp] at hq
                obtain rfl := Option.some.inj hq
                exact hk
          · obtain rfl : j = Z.length := by omega
            have hVn := hV2h.out.2 fun v hv => by
              obtain ⟨j, hj, e⟩ := List.mem_iff_getElem.1 hv
              exact hno j _ (by omega) (by rw [List.getElem?_eq_getElem hj, e]) rfl
            subst hVn
            clear hV2h hno
            go_wp2
            refine bodyPost_ret (by simp only [results, Tryz.results3]; go_simp; try rfl) rfl ⟨?_, hbe⟩
            rw [bsS_list]
            rfl
  · have cR2 := cRh.out wr (Below.refl _ _)
    rw [decide_eq_false hR] at cR2
    go_wp2_with (go_at_call 8; refine cR2.mono ?_; rintro e w3 ⟨rfl, hb3⟩)
    refine bodyPost_ret (by simp only [results, Tryz.results3]; go_simp; try rfl) rfl ⟨rfl, hbW.trans (hb3.mono hbW.size)⟩
end Go.Proofs.YtijidnhaijdfaaaGreatDoor

/- Accounts in a trie: TopAccounts. Conditions: texts that are not too long. -/
namespace Go.Proofs.YtijidnhaijdfaaaGreatDoor
open Go.RowKit
attribute [local go_sem] leftBy leaves Oper.semAt_some
set_option linter.unusedSimpArgs false
set_option linter.unusedVariables false

set_option maxRecDepth 100000 in
set_option maxHeartbeats 8000000 in
theorem top_acc (A : List Ac) (S : List Bs) (at_ : Int) (other : Bs) (W : World) (lv sv : Value) (hl : acL W lv A) (hs : rowF (fun _ => True) W sv (S.map fun s => .string (bsS s))) (hA : ∀ x ∈ A, x.wf) (hS : ∀ s ∈ S, s.length ≤ 140737488351232) (hO : other.length ≤ 140737488351232) (hT : KT W) (h3 : 3 ≤ W.heap.size) :
    Calls Tryz.prog 3 #[lv, sv, .int .i64 at_, .string (bsS other)] W fun e w' => e = .returned (.bool true) ∧ Below W.heap.size W w' := by
  have cS := fun w (hb : Below W.heap.size W w) => shown_any w (hT.below hb h3) (by have := hb.size; omega)
  obtain ⟨i0, hi, hz0, hz1, hz2⟩ := info_parts infoPr
  obtain ⟨Z, hZ⟩ : ∃ Z, Z = (A.zip S).take 20 := ⟨_, rfl⟩
  have hZl : Z.length = min (min A.length S.length) 20 := by rw [hZ, List.length_take, List.length_zip]; omega
  obtain ⟨la, lc, rfl, hlc⟩ := hl
  obtain ⟨sa, sc, rfl, _, hsc⟩ := hs
  rw [List.length_map]
  have cSh := Lib.hid cS
  clear cS
  go_enter Tryz.func3, Tryz.ntmps3
  go_wp2_with (go_at_call 5; refine (cSh.out _ (Below.refl _ W)).mono ?_; rintro e w2 ⟨rfl, hb2⟩)
  have hzw : W.heap.size ≤ w2.heap.size := hb2.size
  go_loopw [10, 11] (fun o x wr => ∃ i : Nat, i ≤ Z.length ∧ x = .int .i64 (i : Nat) ∧ (∀ p ∈ Z.take i, p.1.right) ∧ wr.ownsRow w2.heap.size 36 2 o i (lfC (prs (Z.take i))) ∧ Below w2.heap.size w2 wr) (fun o x _ => Z.length - (intOf x).toNat)
  case atStart => exact ⟨0, Nat.zero_le _, rfl, (fun p h => by cases h), World.ownsRow_nil _ _ _ _, Below.refl _ _⟩
  case round =>
    obtain ⟨i, hil, rfl, hrt, hrow, hbel⟩ := hrel
    by_cases hlt : i < Z.length
    · have hi20 : (i : Int) < 20 := by omega
      have hiA : (i : Int) < (A.length : Int) := by omega
      have hiS : (i : Int) < (S.length : Int) := by omega
      have hiAn : i < A.length := by omega
      have hiSn : i < S.length := by omega
      obtain ⟨x, hx⟩ : ∃ x, A[i]? = some x := ⟨_, List.getElem?_eq_getElem hiAn⟩
      obtain ⟨s, hsx⟩ : ∃ s, S[i]? = some s := ⟨_, List.getElem?_eq_getElem hiSn⟩
      have hZi : Z[i]? = some (x, s) := by
        rw [hZ, List.getElem?_take, if_pos (by omega), List.getElem?_zip_eq_some]
        exact ⟨hx, hsx⟩
      obtain ⟨bl, o, rfl, hac⟩ := hlc i x hx
      obtain ⟨sb, so, ⟨rfl, _⟩, s0⟩ := hsc i (.string (bsS s)) (by rw [List.getElem?_map, hsx]; rfl)
      have hbW := hb2.trans (hbel.mono hzw)
      have hacr := hac.to (hbW.block bl hac.lt)
      have hsr := (hbW.cell (p := ⟨sb, so + i, none⟩) (lt_of_cell s0)).trans s0
      have hltb := hacr.lt
      have hlts := lt_of_cell hsr
      obtain ⟨c0, c1, c2, c3, c4, c5, c6⟩ := hacr
      have cA := fun h w => acct_Bytes x (hA x (List.mem_of_getElem? hx)) h w
      have cB := fun h w => acct_Bytes_no x h w
      unfold Ac.v at cA cB
      have cD := fun g w => Sum_oneL s g w
      have hs2 := hS s (List.mem_of_getElem? hsx)
      refine wp_hide fun QQ hQQ => ?_
      by_cases hrx : x.right
      · have cA2 := cA hrx
        clear cA cB
        have hao := row_lt hrow
        obtain ⟨va, vc, rfl, _, _⟩ := row_form hrow
        have hzr := hbel.size
        go_wp2_with (first | (go_at_call 6; (with_reducible refine (cA2 _).mono ?_); rintro e w3 ⟨rfl, hb3⟩; have hz3 := hb3.size; have hsr3 := (hb3.cell (p := ⟨sb, so + i, none⟩) hlts).trans hsr; have hbW3 := hbW.trans (hb3.mono (by omega)); have hb4 := (Below.refl _ w3).alloc (Nat.le_refl _) (.cells #[.string (bsS s)] 9); have hz4 : (w3.alloc (.cells #[.string (bsS s)] 9)).heap.size = w3.heap.size + 1 := World.size_alloc _ _) | (go_at_call 7; refine (Sum_oneL s _ _ (by rw [Lib.cell_of_heap (heap_new rfl)]; rfl) hs2 (by omega) (hT.below (hbW3.trans (hb4.mono (by omega))) h3)).mono ?_; rintro e w5 ⟨rfl, hb5⟩; have hz5 := hb5.size; have hb35 : Below wr.heap.size wr w5 := (hb3.trans (hb4.mono (by omega))).trans (hb5.mono (by omega)); have hrow5 := (row_same hrow (fun g _ hc => hb35.block g hc.lt)).alloc (.cells #[.string (bsS (dg s)), .string (bsS (enc x.item))] 36); have hnew : ∀ j u, [Value.string (bsS (dg s)), Value.string (bsS (enc x.item))][j]? = some u → (w5.alloc (.cells #[.string (bsS (dg s)), .string (bsS (enc x.item))] 36)).cell? ((⟨w5.heap.size, 0, none⟩ : Addr).add j) = some u := (fun j u hj => by rw [addr_add, Lib.cell_of_heap (heap_new rfl), Nat.zero_add]; simpa using hj)) | (at_builtin; refine wpList_append_own_at _ rfl _ _ 25 rfl w2.heap.size 36 i0 (.agg #[.string ⟨#[]⟩, .string ⟨#[]⟩]) 2 32 Tryz.underlying25 hi hz0 hz1 hz2 rfl (by decide) _ _ _ rfl hrow5 ⟨w5.heap.size, 0, none⟩ 1 1 [Value.string (bsS (dg s)), Value.string (bsS (enc x.item))] rfl rfl hnew (by simp [Value.oneCell']) (by unfold maxLen; omega) (by omega) (by simp; omega) ?_; intro o6 w6 hown6 hgrow6 _ hat6; obtain ⟨a6, c6, rfl, _, _⟩ := row_form hown6))
        have hg6 := hgrow6.size
        rw [World.size_alloc] at hg6
        have B6 : Below w2.heap.size w2 w6 := ((hbel.trans (hb35.mono (by omega))).alloc (by omega) _).trans ⟨hgrow6.os, hgrow6.tape, hgrow6.output, by rw [World.size_alloc]; exact hg6, fun g hg => hgrow6.block g (by rw [World.size_alloc]; omega) (fun e => by have := hao g e.symm; omega)⟩
        have eZ : Z.take (i + 1) = Z.take i ++ [(x, s)] := by rw [List.take_succ_eq_append_getElem hlt, (List.getElem?_eq_some_iff.1 hZi).2]
        have e6 : lfC (prs (Z.take (i + 1))) = lfC (prs (Z.take i)) ++ [.string (bsS (dg s)), .string (bsS (enc x.item))] := by
          rw [eZ, prs_snoc, lfC_snoc2]
        rw [← e6] at hown6
        have hr6 : ∀ p ∈ Z.take (i + 1), p.1.right := fun p hp => by
          rw [eZ] at hp
          rcases List.mem_append.1 hp with h | h
          · exact hrt p h
          · rw [List.mem_singleton.1 h]
            exact hrx
        clear e6 eZ hnew hrow5 hgrow6 hat6 hao hrow
        go_wp2
        refine hQQ.out _ _ _ ?_
        simp only [Exit.then, Exit.inBlock]
        go_roundw
        case rel => exact ⟨i + 1, by omega, by go_num, hr6, hown6, B6⟩
        case measure => simp [intOf]; omega
      · have cB2 := cB hrx
        clear cA cB
        go_wp2_with (go_at_call 6; (with_reducible refine (cB2 _).mono ?_); rintro e w3 ⟨rfl, hb3⟩)
        go_wp2
        refine hQQ.out _ _ _ ?_
        simp only [Exit.then, Exit.inBlock]
        exact bodyPost_ret (v := .bool true) (by simp only [results, Tryz.results3]; go_simp; try rfl) rfl ⟨rfl, hbW.trans (hb3.mono hbW.size)⟩
    · obtain rfl : i = Z.length := by omega
      rw [List.take_length] at hrt hrow
      rename ∀ (a : Act) (w : World), Code.wp _ _ _ a w → _ => hKx
      have hKxh := Lib.hid hKx
      obtain ⟨va, vc, rfl, _, _⟩ := row_form hrow
      have hZA : ∀ (i : Nat) (p : Ac × Bs), Z[i]? = some p → A[i]? = some p.1 := fun i p hp => by
        rw [hZ, List.getElem?_take] at hp
        split at hp
        · exact (List.getElem?_zip_eq_some.1 hp).1
        · cases hp
      have hZ20 : Z.length ≤ 20 := by omega
      have hbW := hb2.trans (hbel.mono hzw)
      have hlch := Lib.hid hlc
      have hrth := Lib.hid hrt
      have hrowh := Lib.hid hrow
      have hZAh := Lib.hid hZA
      have hAh := Lib.hid hA
      have hcase : ((Z.length : Int) < (A.length : Int) ∧ (Z.length : Int) < (S.length : Int) ∧ ¬ (Z.length : Int) < 20) ∨ ((Z.length : Int) < (A.length : Int) ∧ ¬ (Z.length : Int) < (S.length : Int)) ∨ ¬ (Z.length : Int) < (A.length : Int) := by omega
      clear hKx hZl hZ hlc hsc hrt hrow hZA hA hS
      rcases hcase with ⟨f1, f2, f3⟩ | ⟨f1, f2⟩ | f1
      · go_wp2
        refine hKxh.out _ _ ?_
        exact acc_rest A S Z at_ other W w2 wr la sa va lc sc vc hlch.out hAh.out hZAh.out hZ20 hrth.out hrowh.out hbW hO hT h3 _ _ _ _ _ _ _ _ _ _ _ _ _ _ _ _ _ _ _ _ _ _ _ _ _ _ _ _ _ _ _ _ _ _ _ _ _ _ _ _ _
      · go_wp2
        refine hKxh.out _ _ ?_
        exact acc_rest A S Z at_ other W w2 wr la sa va lc sc vc hlch.out hAh.out hZAh.out hZ20 hrth.out hrowh.out hbW hO hT h3 _ _ _ _ _ _ _ _ _ _ _ _ _ _ _ _ _ _ _ _ _ _ _ _ _ _ _ _ _ _ _ _ _ _ _ _ _ _ _ _ _
      · go_wp2
        refine hKxh.out _ _ ?_
        exact acc_rest A S Z at_ other W w2 wr la sa va lc sc vc hlch.out hAh.out hZAh.out hZ20 hrth.out hrowh.out hbW hO hT h3 _ _ _ _ _ _ _ _ _ _ _ _ _ _ _ _ _ _ _ _ _ _ _ _ _ _ _ _ _ _ _ _ _ _ _ _ _ _ _ _ _
end Go.Proofs.YtijidnhaijdfaaaGreatDoor
