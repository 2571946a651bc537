/-
  A receipt's bytes: acct.ReceiptBytes. Conditions: what is not too long.
-/
import Derived.Test.YtijidnhaijdfaaaGreatDoorPR36
namespace Go.Proofs.YtijidnhaijdfaaaGreatDoor
open Go.RowKit
attribute [local go_sem] leftBy leaves Oper.semAt_some
set_option linter.unusedSimpArgs false
set_option linter.unusedVariables false

def txC (L : List Bs) : List Value := L.flatMap fun s => [.bool false, tx s, .slice none 0 0]
theorem txC_snoc (L : List Bs) (s : Bs) : txC (L ++ [s]) = txC L ++ [.bool false, .string (bsS s), .slice none 0 0] := by simp [txC, tx]
theorem cellsF_tx (F : Nat → Prop) (W : World) : ∀ L : List Bs, cellsF F W (L.map .text) (txC L)
  | [] => rfl
  | s :: L => ⟨.bool false, .string (bsS s), .slice none 0 0, txC L, rfl, rfl, cellsF_tx F W L⟩
theorem rowF.below {F : Nat → Prop} {W W' : World} {v : Value} {xs : List Value} (hb : Below W.heap.size W W') (h : rowF F W v xs) : rowF F W' v xs := h.to fun k hf hc => ⟨hf, hb.block k hc.lt⟩
theorem fr_row {W W' : World} {base : Nat} {e : TypeId} {size : Nat} {v : Value} {n : Nat} {xs : List Value} (h : W.ownsRow base e size v n xs) (hb : Below W.heap.size W W') : W'.ownsRow base e size v n xs := row_same h fun g _ hc => hb.block g hc.lt
instance (x : Rc) : Decidable x.right := inferInstanceAs (Decidable (_ ∧ _))
/-- What a receipt's bytes are. -/
def rcRes (x : Rc) : Value := if x.right then (if (enc x.item).length ≤ 65536 then .tuple #[.string (bsS (enc x.item)), .int .i64 0] else .tuple #[.string ⟨#[]⟩, .int .i64 42]) else .tuple #[.string ⟨#[]⟩, .int .i64 160]
theorem rcEnc (x : Rc) (hr : x.right) (hz : (enc x.item).length ≤ 4000000) (v : Value) (W : World) (hv : itV W x.item v) : Calls Tryz.prog 12 #[v] W fun e w' => e = .returned (rcRes x) ∧ Below W.heap.size W w' := by
  have hd : dep x.item < 12 := by
    have h1 : ∀ l : List Bs, deps (l.map .text) = 0 := fun l => by
      induction l with
      | nil => rfl
      | cons s l ih => simp [deps, dep, ih]
    have h2 : ∀ l : List Lg, deps (l.map Lg.item) ≤ 2 := fun l => by
      induction l with
      | nil => simp [deps]
      | cons y l ih => simp only [List.map_cons, deps, Lg.item, dep, h1] at ih ⊢; omega
    have := h2 x.logs
    simp only [Rc.item, dep, deps]
    omega
  unfold rcRes
  rw [if_pos hr]
  by_cases hl : (enc x.item).length ≤ 65536
  · rw [if_pos hl]
    exact Encode_any x.item hd hl v W hv
  · rw [if_neg hl]
    exact Encode_long x.item hd (by omega) hz v W hv
theorem rcRes_form (x : Rc) : ∃ (E : ByteArray) (c : Int), rcRes x = .tuple #[.string E, .int .i64 c] := by
  unfold rcRes
  split
  · split
    · exact ⟨_, _, rfl⟩
    · exact ⟨_, _, rfl⟩
  · exact ⟨_, _, rfl⟩
theorem rcRes_no (x : Rc) (h : ¬ x.right) : rcRes x = .tuple #[.string ⟨#[]⟩, .int .i64 160] := by
  unfold rcRes
  rw [if_neg h]
/-- Where a region stands that lays a log's item behind others. -/
structure lgS where
  l : Option Nat
  z : Option Nat
  ap : Bool
  g : Nat
  cap : Nat
structure apL (W1 : World) (B : Nat) (v : Value) (n : Nat) (xs : List Value) (cs : Array Value) (s : lgS) (w' : World) : Prop where
  fr : Fr (fun k => v.ownBlock = some k) W1 w'
  lst : ∀ q, s.l = some q → W1.heap.size ≤ q ∧ w'.heap[q]? = some (.cells cs 51 (0, 0))
  row : s.ap = false → w'.ownsRow B 51 3 v n xs
  one : s.ap = false → ∀ q, s.z = some q → w'.heap[q]? = some (.cells #[.bool true, .string ⟨#[]⟩, .slice (s.l.map fun k => ⟨k, 0, none⟩) 3 3] 51 (0, 0))
  new : s.ap = true → w'.ownsRow B 51 3 (.slice (some ⟨s.g, 0, none⟩) (n + 1) s.cap) (n + 1) (xs ++ [.bool true, .string ⟨#[]⟩, .slice (s.l.map fun k => ⟨k, 0, none⟩) 3 3])
  loc : s.ap = true → v.ownBlock = some s.g ∨ (W1.heap.size ≤ s.g ∧ ∀ q, s.l = some q → q < s.g)
theorem apL.below {W1 w' w2 : World} {B : Nat} {v : Value} {n : Nat} {xs : List Value} {cs : Array Value} {s : lgS} (h : apL W1 B v n xs cs s w') (hb : Below w'.heap.size w' w2) : apL W1 B v n xs cs s w2 :=
  ⟨h.fr.below hb, fun q hq => ⟨(h.lst q hq).1, (hb.block q (Array.getElem?_eq_some_iff.1 (h.lst q hq).2).1).trans (h.lst q hq).2⟩, fun e => row_same (h.row e) fun g _ hc => hb.block g hc.lt, fun e q hq => (hb.block q (Array.getElem?_eq_some_iff.1 (h.one e q hq)).1).trans (h.one e q hq), fun e => row_same (h.new e) fun g _ hc => hb.block g hc.lt, h.loc⟩
set_option maxRecDepth 100000 in
set_option maxHeartbeats 16000000 in
theorem ReceiptBytes_any (x : Rc) (hg : x.gas < 18446744073709551616) (hn : x.logs.length ≤ 2000000) (hz : x.right → (enc x.item).length ≤ 4000000) (W : World) (v : Value) (hv : rcV (fun _ => True) W v x) :
    Calls Tryz.prog 11 #[v] W fun e w' => e = .returned (rcRes x) ∧ Below W.heap.size W w' := by
  obtain ⟨i0, hi, hz0, hz1, hz2⟩ := info_parts infoT
  obtain ⟨lv, rfl, hl⟩ := hv
  obtain ⟨la, lc, rfl, ⟨hc1, hc2⟩, hx⟩ := hl
  have h0 := heap_new (w := W) (o := .cells #[.bool x.good, .int .u64 (x.gas : Nat), .slice la x.logs.length lc] 47) rfl
  obtain ⟨x0, x1, x2⟩ := cell3 h0
  have b1 : Below W.heap.size W (W.alloc (.cells #[.bool x.good, .int .u64 (x.gas : Nat), .slice la x.logs.length lc] 47)) := (Below.refl _ W).alloc (Nat.le_refl _) _
  have zz : (W.alloc (.cells #[.bool x.good, .int .u64 (x.gas : Nat), .slice la x.logs.length lc] 47)).heap.size = W.heap.size + 1 := World.size_alloc _ _
  have hxh := Lib.hid hx
  clear h0 hx
  go_enter Tryz.func11, Tryz.ntmps11
  go_wp2
  generalize W.alloc (.cells #[.bool x.good, .int .u64 (x.gas : Nat), .slice la x.logs.length lc] 47) = W1 at *
  have hlt0 : W.heap.size < W1.heap.size := by omega
  clear zz
  go_loopw [4, 14] (fun o c wr => ∃ (k : Nat) (xs : List Value), k ≤ x.logs.length ∧ c = .int .i64 (k : Nat) ∧ (∀ l ∈ x.logs.take k, l.right) ∧ wr.ownsRow W1.heap.size 51 3 o k xs ∧ cellsF (fun q => W1.heap.size ≤ q ∧ o.ownBlock ≠ some q) wr ((x.logs.take k).map Lg.item) xs ∧ Below W1.heap.size W1 wr) (fun o c _ => x.logs.length - (intOf c).toNat)
  case atStart => exact ⟨0, [], Nat.zero_le _, rfl, (fun l h => by cases h), World.ownsRow_nil _ _ _ _, rfl, Below.refl _ _⟩
  case round =>
    obtain ⟨k, xs, hkl, rfl, hall, hrow, hcs, hbel⟩ := hrel
    obtain ⟨va, vc, rfl, hvc1, hvc2⟩ := row_form hrow
    have hvl := row_lt hrow
    have hzr := hbel.size
    by_cases hlt : k < x.logs.length
    · obtain ⟨l, hl⟩ : ∃ l, x.logs[k]? = some l := ⟨_, List.getElem?_eq_getElem hlt⟩
      obtain ⟨bl, o, ⟨rfl, _⟩, q0, ⟨sv, q1, hsv⟩, q2⟩ := hxh.out k l hl
      have hbl := lt_of_cell q0
      have hbW := b1.trans (hbel.mono (by omega))
      have d0 := (hbW.cell (p := ⟨bl, o + k * 3, none⟩) hbl).trans q0
      have d1 := (hbW.cell (p := ⟨bl, o + k * 3 + 1, none⟩) hbl).trans q1
      have d2 := (hbW.cell (p := ⟨bl, o + k * 3 + 2, none⟩) hbl).trans q2
      have hlti : (k : Int) < (x.logs.length : Int) := by omega
      have cL := fun w (hb : Below W.heap.size W w) => isLog_any l w sv (hsv.below hb)
      obtain ⟨ta, tc, rfl, ⟨tc1, tc2⟩, hta⟩ := id hsv
      rw [List.length_map] at d1 tc1 cL
      have y := heap_new (w := wr) (o := .cells #[.string (bsS l.a), .slice ta l.t.length tc, .string (bsS l.d)] 81) rfl
      have b2 : Below W.heap.size W (wr.alloc (.cells #[.string (bsS l.a), .slice ta l.t.length tc, .string (bsS l.d)] 81)) := hbW.alloc (by omega) _
      have b3 : Below wr.heap.size wr (wr.alloc (.cells #[.string (bsS l.a), .slice ta l.t.length tc, .string (bsS l.d)] 81)) := (Below.refl _ wr).alloc (Nat.le_refl _) _
      have z3 : (wr.alloc (.cells #[.string (bsS l.a), .slice ta l.t.length tc, .string (bsS l.d)] 81)).heap.size = wr.heap.size + 1 := World.size_alloc _ _
      have cL2 := cL _ b2
      have htah := Lib.hid hta
      clear q0 q1 q2 cL hta hsv
      obtain ⟨y0, y1, y2⟩ := cell3 y
      by_cases hr : l.right
      · rw [decide_eq_true hr] at cL2
        refine wp_hide fun QQ hQQ => ?_
        go_wp2_with (go_at_call 30; refine cL2.mono ?_; rintro e w2 ⟨rfl, hb2⟩; have k1 := (hb2.cell (p := ⟨wr.heap.size, 1, none⟩) (by rw [z3]; exact Nat.lt_succ_self _)).trans y1)
        obtain ⟨wo, rfl⟩ : ∃ wo : World, wo = wr := ⟨_, rfl⟩
        have s2 : wo.heap.size + 1 ≤ w2.heap.size := by have := hb2.size; omega
        have bw : Below wo.heap.size wo w2 := b3.trans (hb2.mono (by omega))
        have g0 := (hb2.cell (p := ⟨wo.heap.size, 0, none⟩) (by rw [z3]; exact Nat.lt_succ_self _)).trans y0
        have g2 := (hb2.cell (p := ⟨wo.heap.size, 2, none⟩) (by rw [z3]; exact Nat.lt_succ_self _)).trans y2
        have hrow2 := fr_row hrow bw
        have hcs2 := hcs.to (F' := fun q => W1.heap.size ≤ q ∧ (Value.slice va k vc).ownBlock ≠ some q) (W' := w2) (fun q hq hc => ⟨hq, bw.block q hc.lt⟩)
        have hW2 : Below W.heap.size W w2 := hbW.trans (bw.mono (by omega))
        have hr4 : l.t.length ≤ 4 := hr.2.1
        clear hrow hcs y y0 y1 y2 b2 b3 cL2 d0 d1 d2 x0 x1 x2 hb2 z3 hz
        go_loopw [7, 24] (fun o2 c2 w3 => ∃ j : Nat, j ≤ l.t.length ∧ c2 = .int .i64 (j : Nat) ∧ w3.ownsRow w2.heap.size 51 3 o2 j (txC (l.t.take j)) ∧ Below w2.heap.size w2 w3) (fun o2 c2 _ => l.t.length - (intOf c2).toNat)
        case atStart => exact ⟨0, Nat.zero_le _, rfl, World.ownsRow_nil _ _ _ _, Below.refl _ _⟩
        case round =>
          obtain ⟨j, hjl, rfl, hro, hb4⟩ := hrel
          obtain ⟨ua, uc, rfl, huc1, huc2⟩ := row_form hro
          have hul := row_lt hro
          have s4 := hb4.size
          by_cases hj : j < l.t.length
          · obtain ⟨s, hs⟩ : ∃ s, l.t[j]? = some s := ⟨_, List.getElem?_eq_getElem hj⟩
            obtain ⟨tb, to, ⟨rfl, _⟩, e0⟩ := htah.out j (tx s) (by rw [List.getElem?_map, hs]; rfl)
            have e1 : W.cell? ⟨tb, to + j, none⟩ = some (.string (bsS s)) := e0
            have ltb : tb < W.heap.size := lt_of_cell e1
            have e3 := (hb4.cell (p := ⟨tb, to + j, none⟩) (by show tb < _; omega)).trans ((hW2.cell (p := ⟨tb, to + j, none⟩) ltb).trans e1)
            have hji : (j : Int) < (l.t.length : Int) := by omega
            clear e0 e1 htah hrow2 hcs2 g0 g2
            refine wp_hide fun Q2 hQ2 => ?_
            go_wp2_with (first | (go_at_call 13; refine (Text_any _ _).mono ?_; rintro e w5 ⟨rfl, hb5⟩; have s5 := hb5.size; have hro5 := (fr_row hro hb5).alloc (.cells #[.bool false, .string (bsS s), .slice none 0 0] 51); have hnew : ∀ (jj : Nat) (u : Value), [Value.bool false, .string (bsS s), .slice none 0 0][jj]? = some u → (w5.alloc (.cells #[.bool false, .string (bsS s), .slice none 0 0] 51)).cell? ((⟨w5.heap.size, 0, none⟩ : Addr).add jj) = some u := (fun jj u hjj => (by rw [addr_add, Lib.cell_of_heap (heap_new rfl), Nat.zero_add]; simpa using hjj))) | (at_builtin; refine wpList_append_own_at _ rfl _ _ 49 rfl w2.heap.size 51 i0 (.agg #[.bool false, .string ⟨#[]⟩, .slice none 0 0]) 3 48 Tryz.underlying49 hi hz0 hz1 hz2 rfl (by decide) _ _ _ rfl hro5 ⟨w5.heap.size, 0, none⟩ 1 1 [.bool false, .string (bsS s), .slice none 0 0] rfl rfl hnew (by simp [Value.oneCell']) (by unfold maxLen; omega) (by omega) (by simp; omega) ?_; intro o6 w6 hown6 hgrow6 _ hat6; obtain ⟨a6, c6, rfl, _, _⟩ := row_form hown6))
            have hg6 := hgrow6.size
            rw [World.size_alloc] at hg6
            have B6 : Below w2.heap.size w2 w6 := ((hb4.trans (hb5.mono s4)).alloc (by omega) _).trans ⟨hgrow6.os, hgrow6.tape, hgrow6.output, by rw [World.size_alloc]; exact hg6, fun g hg => hgrow6.block g (by rw [World.size_alloc]; omega) (fun e => by have := hul g e.symm; omega)⟩
            have e6 : txC (l.t.take (j + 1)) = txC (l.t.take j) ++ [.bool false, .string (bsS s), .slice none 0 0] := by
              rw [List.take_succ_eq_append_getElem hj, (List.getElem?_eq_some_iff.1 hs).2, txC_snoc]
            rw [← e6] at hown6
            clear hro hro5 hat6 hgrow6 hnew
            refine hQ2.out _ _ _ ?_
            simp only [Exit.then, Exit.inBlock]
            go_roundw
            case rel => exact ⟨j + 1, by omega, by go_num, hown6, B6⟩
            case measure => simp [intOf]; omega
          · obtain rfl : j = l.t.length := by omega
            rw [List.take_length] at hro
            have p0 := (hb4.cell (p := ⟨wo.heap.size, 0, none⟩) (by show wo.heap.size < _; omega)).trans g0
            have p2 := (hb4.cell (p := ⟨wo.heap.size, 2, none⟩) (by show wo.heap.size < _; omega)).trans g2
            have hrow3 := fr_row hrow2 hb4
            have hcs3 := hcs2.to (F' := fun q => W1.heap.size ≤ q ∧ (Value.slice va k vc).ownBlock ≠ some q) (W' := wr) (fun q hq hc => ⟨hq, hb4.block q hc.lt⟩)
            have hTn : ¬ (Value.slice va k vc).ownBlock = some wo.heap.size := fun h => by have := hvl _ h; omega
            have hls : wo.heap.size < wr.heap.size := by omega
            have hcsh := Lib.hid hcs3
            clear hrow2 hcs2 g0 g2 htah hcs3
            go_wp2
            refine wp_flowU (fun k => ([0, 1, 1, 2, 0, 2, 0, 0, 2, 2, 2, 2, 2, 1] : List Nat).getD k 1) (apL wr W1.heap.size (.slice va k vc) k xs #[.bool false, .string (bsS l.a), .slice none 0 0, .bool true, .string ⟨#[]⟩, .slice ua l.t.length uc, .bool false, .string (bsS l.d), .slice none 0 0]) (fun _ => True) (⟨none, none, false, 0, 0⟩) (⟨Fr.drewN (Fr.refl _ _) _, fun q h => (by cases h), fun _ => hrow3, fun _ q h => (by cases h), fun h => (by cases h), fun h => (by cases h)⟩) trivial (by kernel_rfl) (by kernel_rfl) ?_
            (refine flowU_lateE rfl rfl (fun K hK => ?_); apply Exists.intro; apply And.intro; (focus (intro s0 w' hC hR; have y0 := hR.fr.cell p0 hTn hls; have y2 := hR.fr.cell p2 hTn hls; clear hR; go_simp; (try go_bits); exact rfl)); go_simp; (try go_bits); refine hK _ ?_; clear hK K)
            iterate 2 ((refine flowU_readE rfl rfl (fun K hK => ?_); apply Exists.intro; apply And.intro; (focus (intro w' hR; have y0 := hR.fr.cell p0 hTn hls; have y2 := hR.fr.cell p2 hTn hls; clear hR; go_simp; (try go_bits); exact rfl)); go_simp; (try go_bits); refine hK _ ?_; clear hK K))
            refine flowU_step (fun v s => v = (.agg #[.bool false, .string (bsS l.a), .slice none 0 0]) ∧ s = ⟨none, none, false, 0, 0⟩) (by decide) rfl ⟨_, _, rfl, rfl⟩ (fun w' hR => ?_) (fun _ _ _ _ _ => trivial) (fun K hK v s2 hs2 => ?_)
            focus
              have cQ := Text_any (bsS l.a) w'
              go_simp
              exact cQ.mono (by rintro e w4 ⟨rfl, hb⟩; exact ⟨_, rfl, _, ⟨rfl, rfl⟩, hR.below hb⟩)
            obtain ⟨rfl, rfl⟩ := hs2
            (go_simp; refine hK _ _ ?_; clear hK K)
            (refine flowU_lateE rfl rfl (fun K hK => ?_); apply Exists.intro; apply And.intro; (focus (intro s0 w' hC hR; have y0 := hR.fr.cell p0 hTn hls; have y2 := hR.fr.cell p2 hTn hls; clear hR; go_simp; (try go_bits); exact rfl)); go_simp; (try go_bits); refine hK _ ?_; clear hK K)
            refine flowU_step (fun v s => v = (.agg #[.bool true, .string ⟨#[]⟩, .slice ua l.t.length uc]) ∧ s = ⟨none, none, false, 0, 0⟩) (by decide) rfl ⟨_, _, rfl, rfl⟩ (fun w' hR => ?_) (fun _ _ _ _ _ => trivial) (fun K hK v s2 hs2 => ?_)
            focus
              have cQ := List_any ua l.t.length uc w'
              go_simp
              exact cQ.mono (by rintro e w4 ⟨rfl, hb⟩; exact ⟨_, rfl, _, ⟨rfl, rfl⟩, hR.below hb⟩)
            obtain ⟨rfl, rfl⟩ := hs2
            (go_simp; refine hK _ _ ?_; clear hK K)
            iterate 2 ((refine flowU_lateE rfl rfl (fun K hK => ?_); apply Exists.intro; apply And.intro; (focus (intro s0 w' hC hR; have y0 := hR.fr.cell p0 hTn hls; have y2 := hR.fr.cell p2 hTn hls; clear hR; go_simp; (try go_bits); exact rfl)); go_simp; (try go_bits); refine hK _ ?_; clear hK K))
            refine flowU_step (fun v s => v = (.agg #[.bool false, .string (bsS l.d), .slice none 0 0]) ∧ s = ⟨none, none, false, 0, 0⟩) (by decide) rfl ⟨_, _, rfl, rfl⟩ (fun w' hR => ?_) (fun _ _ _ _ _ => trivial) (fun K hK v s2 hs2 => ?_)
            focus
              have cQ := Text_any (bsS l.d) w'
              go_simp
              exact cQ.mono (by rintro e w4 ⟨rfl, hb⟩; exact ⟨_, rfl, _, ⟨rfl, rfl⟩, hR.below hb⟩)
            obtain ⟨rfl, rfl⟩ := hs2
            (go_simp; refine hK _ _ ?_; clear hK K)
            refine flowU_step (fun v s => ∃ g, v = .slice (some ⟨g, 0, none⟩) 3 3 ∧ s = ⟨some g, none, false, 0, 0⟩) (by decide) rfl ⟨_, _, 0, rfl, rfl⟩ (fun w' hR => ?_) (fun _ _ _ _ _ => trivial) (fun K hK v s2 hs2 => ?_)
            focus
              have hfr := hR.fr
              have hro := hR.row rfl
              clear hR
              go_simp
              exact ⟨hfr.alloc _, fun q hq => by
                obtain rfl := Option.some.inj hq
                exact ⟨hfr.size, heap_new rfl⟩, fun _ => hro.alloc _, fun _ q h => (by cases h), fun h => (by cases h), fun h => (by cases h)⟩
            obtain ⟨gl, rfl, rfl⟩ := hs2
            (go_simp; refine hK _ _ ?_; clear hK K)
            refine flowU_step (fun v s => v = .agg #[.bool true, .string ⟨#[]⟩, .slice (some ⟨gl, 0, none⟩) 3 3] ∧ s = ⟨some gl, none, false, 0, 0⟩) (by decide) rfl ⟨_, _, rfl, rfl⟩ (fun w' hR => ?_) (fun _ _ _ _ _ => trivial) (fun K hK v s2 hs2 => ?_)
            focus
              go_simp
              exact (List_any (some ⟨gl, 0, none⟩) 3 3 w').mono (by rintro e w4 ⟨rfl, hb⟩; exact ⟨_, rfl, _, ⟨rfl, rfl⟩, hR.below hb⟩)
            obtain ⟨rfl, rfl⟩ := hs2
            (go_simp; refine hK _ _ ?_; clear hK K)
            refine flowU_step (fun v s => ∃ g, v = .slice (some ⟨g, 0, none⟩) 1 1 ∧ s = ⟨some gl, some g, false, 0, 0⟩) (by decide) rfl ⟨_, _, 0, rfl, rfl⟩ (fun w' hR => ?_) (fun _ _ _ _ _ => trivial) (fun K hK v s2 hs2 => ?_)
            focus
              have hfr := hR.fr
              have hro := hR.row rfl
              have hls := hR.lst gl rfl
              clear hR
              go_simp
              exact ⟨hfr.alloc _, fun q hq => by
                obtain rfl := Option.some.inj hq
                exact ⟨hls.1, (Below.heap_alloc _ _ _ (Array.getElem?_eq_some_iff.1 hls.2).1).trans hls.2⟩, fun _ => hro.alloc _, fun _ q hq => by
                obtain rfl := Option.some.inj hq
                exact heap_new rfl, fun h => (by cases h), fun h => (by cases h)⟩
            obtain ⟨gz, rfl, rfl⟩ := hs2
            (go_simp; refine hK _ _ ?_; clear hK K)
            refine flowU_step (fun v s => ∃ g cap, v = .slice (some ⟨g, 0, none⟩) (k + 1) cap ∧ s = ⟨some gl, some gz, true, g, cap⟩) (by decide) rfl ⟨_, _, 0, 0, rfl, rfl⟩ (fun w' hR => ?_) (fun _ _ _ _ _ => trivial) (fun K hK v s2 hs2 => ?_)
            focus
              have hfr := hR.fr
              have hro := hR.row rfl
              have hg2 := hR.one rfl gz rfl
              obtain ⟨hl1, hl2⟩ := hR.lst gl rfl
              have hlt2 := (Array.getElem?_eq_some_iff.1 hl2).1
              clear hR
              obtain ⟨v', w2, hrun, hown', hgrow, _, hloc⟩ := run_append_own_at (P := Tryz.prog) w' W1.heap.size 49 49 51 i0 _ 3 48 Tryz.underlying49 hi hz0 hz1 hz2 rfl (by decide) (.slice va k vc) k xs hro ⟨gz, 0, none⟩ 1 1 [.bool true, .string ⟨#[]⟩, .slice (some ⟨gl, 0, none⟩) 3 3] rfl
                (fun j u hj => by
                  have hg3 : w'.heap[gz]? = _ := hg2
                  rw [addr_add, Lib.cell_of_heap hg3, Nat.zero_add]
                  simpa using hj) (by simp [Value.oneCell']) (by unfold maxLen; omega) (by omega) (by have := hfr.size; omega)
              rw [append_exec (P := Tryz.prog) rfl rfl rfl hrun]
              obtain ⟨g', cap', rfl⟩ := ownsRow_succ hown'
              refine ⟨_, ⟨g', cap', rfl, rfl⟩, hfr.trans ⟨hgrow.os, hgrow.tape, hgrow.output, hgrow.size, fun k hk hT => hgrow.block k hk fun e => hT e.symm⟩, fun q hq => ?_, fun h => (by cases h), fun h => (by cases h), fun _ => hown', fun _ => ?_⟩
              · obtain rfl := Option.some.inj hq
                exact ⟨hl1, (hgrow.block _ hlt2 (fun e => by have := hvl _ e.symm; omega)).trans hl2⟩
              · rcases hloc with h | h
                · exact .inl h.symm
                · obtain rfl : g' = w'.heap.size := by simpa [Value.ownBlock] using h
                  exact .inr ⟨hfr.size, fun q hq => by
                    obtain rfl := Option.some.inj hq
                    exact hlt2⟩
            obtain ⟨ga, capa, rfl, rfl⟩ := hs2
            (go_simp; refine hK _ _ ?_; clear hK K)
            (refine flowU_readE rfl rfl (fun K hK => ?_); apply Exists.intro; apply And.intro; (focus (intro w' hR; have y0 := hR.fr.cell p0 hTn hls; have y2 := hR.fr.cell p2 hTn hls; clear hR; go_simp; (try go_bits); exact rfl)); go_simp; (try go_bits); refine hK _ ?_; clear hK K)
            refine flowU_nil ?_
            intro W3 hR3
            have f3 := hR3.fr
            have r3 := hR3.new rfl
            have l3 := hR3.loc rfl
            obtain ⟨m1, m2⟩ := hR3.lst gl rfl
            clear hR3
            simp only [Option.map_some] at r3
            dsimp only at l3
            have hcs3 := hcsh.out
            have hkeep : ∀ q, cellsAt wr q → (Value.slice va k vc).ownBlock ≠ some q → W3.heap[q]? = wr.heap[q]? := fun q hq hf => f3.block q hq.lt hf
            have hga : ∀ q, q < wr.heap.size → (Value.slice va k vc).ownBlock ≠ some q → (Value.slice (some ⟨ga, 0, none⟩) (k + 1) capa).ownBlock ≠ some q := fun q hq hf h => by
              obtain rfl : ga = q := by simpa [Value.ownBlock] using h
              rcases l3 with h | ⟨h, _⟩
              · exact hf h
              · omega
            have hnb : ∀ q, wo.heap.size ≤ q → (Value.slice va k vc).ownBlock ≠ some q := fun q hq h => by
              have := hvl _ h
              omega
            have c3 := hcs3.to (F' := fun q => W1.heap.size ≤ q ∧ (Value.slice (some ⟨ga, 0, none⟩) (k + 1) capa).ownBlock ≠ some q) (W' := W3) fun q hq hc => ⟨⟨hq.1, hga q hc.lt hq.2⟩, hkeep q hc hq.2⟩
            obtain ⟨a', c', hv', hc', hits⟩ := row_items (l := l.t.map .text) (F := fun _ => False) (F' := fun q => w2.heap.size ≤ q) (by rw [List.length_map]; exact hro) (cellsF_tx _ _ l.t) (fun _ h => h.elim) (fun _ h => h)
            rw [List.length_map] at hv' hc'
            simp only [Value.slice.injEq] at hv'
            obtain ⟨rfl, _, rfl⟩ := hv'
            have hits3 := hits.to (F' := fun q => W1.heap.size ≤ q ∧ (Value.slice (some ⟨ga, 0, none⟩) (k + 1) capa).ownBlock ≠ some q) (W' := W3) fun q hq hc => ⟨⟨by omega, hga q hc.lt (hnb q (by omega))⟩, hkeep q hc (hnb q (by omega))⟩
            have hgl : (Value.slice (some ⟨ga, 0, none⟩) (k + 1) capa).ownBlock ≠ some gl := fun h => by
              obtain rfl : ga = gl := by simpa [Value.ownBlock] using h
              rcases l3 with h | ⟨_, h⟩
              · exact hnb ga (by omega) h
              · exact Nat.lt_irrefl _ (h ga rfl)
            have hit : itF (fun q => W1.heap.size ≤ q ∧ (Value.slice (some ⟨ga, 0, none⟩) (k + 1) capa).ownBlock ≠ some q) W3 l.item (.agg #[.bool true, .string ⟨#[]⟩, .slice (some ⟨gl, 0, none⟩) 3 3]) :=
              itF_arr (l := [.text l.a, .list (l.t.map .text), .text l.d]) m2 ⟨_, _, _, _, rfl, rfl, _, _, _, _, rfl, ⟨ua, uc, by rw [List.length_map], by rw [List.length_map]; exact hc', hits3⟩, _, _, _, _, rfl, rfl, rfl⟩ (fun _ h => h) ⟨by omega, hgl⟩ (show 3 ≤ maxLen by decide)
            have c4 := c3.snoc hit
            have e4 : (x.logs.take (k + 1)).map Lg.item = (x.logs.take k).map Lg.item ++ [l.item] := by
              rw [List.take_succ_eq_append_getElem hlt, (List.getElem?_eq_some_iff.1 hl).2, List.map_append]
              rfl
            rw [← e4] at c4
            have B3 : Below W1.heap.size W1 W3 := ((hbel.trans (bw.mono hzr)).trans (hb4.mono (by omega))).trans (f3.toBelow (by omega) fun q hq => (hvl q hq).1)
            have hall3 : ∀ y ∈ x.logs.take (k + 1), y.right := fun y hy => by
              rw [List.take_succ_eq_append_getElem hlt, (List.getElem?_eq_some_iff.1 hl).2] at hy
              rcases List.mem_append.1 hy with h | h
              · exact hall y h
              · obtain rfl : y = l := by simpa using h
                exact hr
            clear hits hits3 hit c3 hcs3 hcsh hrow3 hro m2 hkeep hga hnb hgl
            go_wp2
            refine hQQ.out _ _ _ ?_
            simp only [Exit.then, Exit.inBlock]
            go_roundw
            case rel => exact ⟨k + 1, _, by omega, by go_num, hall3, r3, c4, B3⟩
            case measure => simp [intOf]; omega
      · rw [decide_eq_false hr] at cL2
        have hno : ¬ x.right := fun h => hr (h.1 l (List.mem_of_getElem? hl))
        go_wp2_with (go_at_call 30; refine cL2.mono ?_; rintro e w2 ⟨rfl, hb2⟩)
        refine bodyPost_ret (by simp only [results, Tryz.results11]; go_simp; try rfl) rfl ⟨by rw [rcRes_no x hno], b2.trans (hb2.mono (by omega))⟩
    · obtain rfl : k = x.logs.length := by omega
      rw [List.take_length] at hall hcs
      by_cases h20 : x.logs.length ≤ 20
      · have hrx : x.right := ⟨hall, h20⟩
        have hzx := hz hrx
        have h20i : (x.logs.length : Int) ≤ 20 := by omega
        obtain ⟨a', c', hv', hc', hits⟩ := row_items (l := x.logs.map Lg.item) (F' := fun _ => True) (by rw [List.length_map]; exact hrow) hcs (fun _ _ => trivial) (fun _ _ => trivial)
        rw [List.length_map] at hv' hc'
        simp only [Value.slice.injEq] at hv'
        obtain ⟨rfl, _, rfl⟩ := hv'
        obtain ⟨E, ce, hE⟩ := rcRes_form x
        have cE : ∀ (w : World) (q : Nat), Below wr.heap.size wr w → w.heap[q]? = some (.cells #[.bool false, .string (bsS x.goodS), .slice none 0 0, .bool false, .string (bsS (num x.gas)), .slice none 0 0, .bool true, .string ⟨#[]⟩, .slice va x.logs.length vc] 51 (0, 0)) → Calls Tryz.prog 12 #[.agg #[.bool true, .string ⟨#[]⟩, .slice (some ⟨q, 0, none⟩) 3 3]] w fun e w' => e = .returned (.tuple #[.string E, .int .i64 ce]) ∧ Below w.heap.size w w' := fun w q hb h => by
          have hi2 := itsF.below hb hits
          have := rcEnc x hrx hzx (.agg #[.bool true, .string ⟨#[]⟩, .slice (some ⟨q, 0, none⟩) 3 3]) w (itF_arr (F := fun _ => True) (F' := fun _ => True) (l := [.text x.goodS, .text (num x.gas), .list (x.logs.map Lg.item)]) h ⟨_, _, _, _, rfl, rfl, _, _, _, _, rfl, rfl, _, _, _, _, rfl, ⟨va, vc, by rw [List.length_map], by rw [List.length_map]; exact hc', hi2⟩, rfl⟩ (fun _ h => h) trivial (show 3 ≤ maxLen by decide)).v
          rw [hE] at this
          exact this
        have cEh := Lib.hid cE
        have d0 := (hbel.cell (p := ⟨W.heap.size, 0, none⟩) hlt0).trans x0
        have d1 := (hbel.cell (p := ⟨W.heap.size, 1, none⟩) hlt0).trans x1
        have hbW : Below W.heap.size W wr := b1.trans (hbel.mono (by omega))
        have hlW : W.heap.size < wr.heap.size := by omega
        clear hcs hrow hall hz hits cE x0 x1 x2 hxh hvl
        have cN := fun w => Number_any x.gas hg w
        have hgF : x.good = false → bsS x.goodS = ⟨#[]⟩ := fun h => by unfold Rc.goodS; rw [h]; rfl
        have hgT : x.good = true → bsS x.goodS = ⟨#[1]⟩ := fun h => by unfold Rc.goodS; rw [h]; rfl
        generalize bsS x.goodS = G at *
        generalize bsS (num x.gas) = S0 at *
        cases hgd : x.good
        case' false =>
          rw [hgd] at d0
          go_wp2_with (go_at_call 13; refine (Text_any ⟨#[]⟩ _).mono ?_; rintro e w5 ⟨rfl, hb5⟩; have s5 := hb5.size; have hl5 : W.heap.size < w5.heap.size := (by omega); have e0 := (hb5.cell (p := ⟨W.heap.size, 0, none⟩) hlW).trans d0; have e1 := (hb5.cell (p := ⟨W.heap.size, 1, none⟩) hlW).trans d1; have y5 := heap_new (w := w5) (o := .cells #[.bool false, .string ⟨#[]⟩, .slice none 0 0] 51) rfl; have a5 : Below w5.heap.size w5 (w5.alloc (.cells #[.bool false, .string ⟨#[]⟩, .slice none 0 0] 51)) := (Below.refl _ w5).alloc (Nat.le_refl _) _; have z5 : (w5.alloc (.cells #[.bool false, .string ⟨#[]⟩, .slice none 0 0] 51)).heap.size = w5.heap.size + 1 := World.size_alloc _ _)
          obtain ⟨u0, u1, u2⟩ := cell3 y5
          have hXb : Below wr.heap.size wr (w5.alloc (.cells #[.bool false, .string ⟨#[]⟩, .slice none 0 0] 51)) := hb5.trans (a5.mono s5)
          have hbX : w5.heap.size < (w5.alloc (.cells #[.bool false, .string ⟨#[]⟩, .slice none 0 0] 51)).heap.size := by rw [z5]; exact Nat.lt_succ_self _
          generalize w5.alloc (.cells #[.bool false, .string ⟨#[]⟩, .slice none 0 0] 51) = X at *
          rw [← hgF hgd] at u1
        case' true =>
          rw [hgd] at d0
          go_wp2_with (first | (go_at_call 13; refine (Text_any ⟨#[]⟩ _).mono ?_; rintro e w5 ⟨rfl, hb5⟩; have s5 := hb5.size; have hl5 : W.heap.size < w5.heap.size := (by omega); have e0 := (hb5.cell (p := ⟨W.heap.size, 0, none⟩) hlW).trans d0; have e1 := (hb5.cell (p := ⟨W.heap.size, 1, none⟩) hlW).trans d1; have y5 := heap_new (w := w5) (o := .cells #[.bool false, .string ⟨#[]⟩, .slice none 0 0] 51) rfl; have a5 : Below w5.heap.size w5 (w5.alloc (.cells #[.bool false, .string ⟨#[]⟩, .slice none 0 0] 51)) := (Below.refl _ w5).alloc (Nat.le_refl _) _; have z5 : (w5.alloc (.cells #[.bool false, .string ⟨#[]⟩, .slice none 0 0] 51)).heap.size = w5.heap.size + 1 := World.size_alloc _ _) | (go_at_call 13; refine (Text_any ⟨#[1]⟩ _).mono ?_; rintro e w6 ⟨rfl, hb6⟩; have s6 := hb6.size; have y6 := (hb6.block w5.heap.size (by rw [z5]; exact Nat.lt_succ_self _)).trans y5; have f60 := Lib.frozen_of_heap y6 0; have f61 := Lib.frozen_of_heap y6 1; have f62 := Lib.frozen_of_heap y6 2; obtain ⟨y60, y61, y62⟩ := cell3 y6; have hl6 : w5.heap.size < w6.heap.size := (by rw [z5] at s6; omega)))
          obtain ⟨X, hX⟩ : ∃ X, X = ((w6.setCell ⟨w5.heap.size, 0, none⟩ (.bool false)).setCell ⟨w5.heap.size, 1, none⟩ (.string ⟨#[1]⟩)).setCell ⟨w5.heap.size, 2, none⟩ (.slice none 0 0) := ⟨_, rfl⟩
          have yX : X.heap[w5.heap.size]? = some (.cells #[.bool false, .string ⟨#[1]⟩, .slice none 0 0] 51 (0, 0)) := by
            rw [hX, setCell_at (setCell_at (setCell_at y6 0 _) 1 _) 2 _]
            rfl
          obtain ⟨u0, u1, u2⟩ := cell3 yX
          rw [← hgT hgd] at u1
          have hXb : Below wr.heap.size wr X := by
            rw [hX]
            exact ((((hb5.trans (a5.mono s5)).trans (hb6.mono (by rw [z5]; omega))).setCell (p := ⟨w5.heap.size, 0, none⟩) s5 _).setCell (p := ⟨w5.heap.size, 1, none⟩) s5 _).setCell (p := ⟨w5.heap.size, 2, none⟩) s5 _
          have hbX : w5.heap.size < X.heap.size := (Array.getElem?_eq_some_iff.1 yX).1
          rw [← hX]
          clear hX
        all_goals
          clear hgF hgT
          have e1X := (hXb.cell (p := ⟨W.heap.size, 1, none⟩) hlW).trans d1
          have hWX : W.heap.size < X.heap.size := by have := hXb.size; omega
          have hXs := hXb.size
          refine wp_flowU (fun k => ([0, 1, 1, 2, 2, 0, 2, 2, 2, 2, 1, 1, 1, 1] : List Nat).getD k 1) (axR X #[.bool false, .string G, .slice none 0 0, .bool false, .string S0, .slice none 0 0, .bool true, .string ⟨#[]⟩, .slice va x.logs.length vc]) (fun _ => True) (none) (⟨below_drewN (Below.refl _ _) _, fun q h => (by cases h)⟩) trivial (by kernel_rfl) (by kernel_rfl) ?_
          (refine flowU_lateE rfl rfl (fun K hK => ?_); apply Exists.intro; apply And.intro; (focus (intro s0 w' hC hR; have y0 := (hR.bel.cell (p := ⟨w5.heap.size, 0, none⟩) hbX).trans u0; have y1 := (hR.bel.cell (p := ⟨w5.heap.size, 1, none⟩) hbX).trans u1; have y2 := (hR.bel.cell (p := ⟨w5.heap.size, 2, none⟩) hbX).trans u2; have y3 := (hR.bel.cell (p := ⟨W.heap.size, 1, none⟩) hWX).trans e1X; clear hR; go_simp; (try go_bits); exact rfl)); go_simp; (try go_bits); refine hK _ ?_; clear hK K)
          iterate 2 ((refine flowU_readE rfl rfl (fun K hK => ?_); apply Exists.intro; apply And.intro; (focus (intro w' hR; have y0 := (hR.bel.cell (p := ⟨w5.heap.size, 0, none⟩) hbX).trans u0; have y1 := (hR.bel.cell (p := ⟨w5.heap.size, 1, none⟩) hbX).trans u1; have y2 := (hR.bel.cell (p := ⟨w5.heap.size, 2, none⟩) hbX).trans u2; have y3 := (hR.bel.cell (p := ⟨W.heap.size, 1, none⟩) hWX).trans e1X; clear hR; go_simp; (try go_bits); exact rfl)); go_simp; (try go_bits); refine hK _ ?_; clear hK K))
          refine flowU_step (fun v s => v = .string S0 ∧ s = none) (by decide) rfl ⟨_, _, rfl, rfl⟩ (fun w' hR => ?_) (fun _ _ _ _ _ => trivial) (fun K hK v s2 hs2 => ?_)
          focus
            have cQ := cN w'
            go_simp
            exact cQ.mono (by rintro e w4 ⟨rfl, hb⟩; exact ⟨_, rfl, _, ⟨rfl, rfl⟩, hR.below hb⟩)
          obtain ⟨rfl, rfl⟩ := hs2
          (go_simp; refine hK _ _ ?_; clear hK K)
          refine flowU_step (fun v s => v = (.agg #[.bool false, .string S0, .slice none 0 0]) ∧ s = none) (by decide) rfl ⟨_, _, rfl, rfl⟩ (fun w' hR => ?_) (fun _ _ _ _ _ => trivial) (fun K hK v s2 hs2 => ?_)
          focus
            have cQ := Text_any S0 w'
            go_simp
            exact cQ.mono (by rintro e w4 ⟨rfl, hb⟩; exact ⟨_, rfl, _, ⟨rfl, rfl⟩, hR.below hb⟩)
          obtain ⟨rfl, rfl⟩ := hs2
          (go_simp; refine hK _ _ ?_; clear hK K)
          (refine flowU_lateE rfl rfl (fun K hK => ?_); apply Exists.intro; apply And.intro; (focus (intro s0 w' hC hR; have y0 := (hR.bel.cell (p := ⟨w5.heap.size, 0, none⟩) hbX).trans u0; have y1 := (hR.bel.cell (p := ⟨w5.heap.size, 1, none⟩) hbX).trans u1; have y2 := (hR.bel.cell (p := ⟨w5.heap.size, 2, none⟩) hbX).trans u2; have y3 := (hR.bel.cell (p := ⟨W.heap.size, 1, none⟩) hWX).trans e1X; clear hR; go_simp; (try go_bits); exact rfl)); go_simp; (try go_bits); refine hK _ ?_; clear hK K)
          refine flowU_step (fun v s => v = (.agg #[.bool true, .string ⟨#[]⟩, .slice va x.logs.length vc]) ∧ s = none) (by decide) rfl ⟨_, _, rfl, rfl⟩ (fun w' hR => ?_) (fun _ _ _ _ _ => trivial) (fun K hK v s2 hs2 => ?_)
          focus
            have cQ := List_any va x.logs.length vc w'
            go_simp
            exact cQ.mono (by rintro e w4 ⟨rfl, hb⟩; exact ⟨_, rfl, _, ⟨rfl, rfl⟩, hR.below hb⟩)
          obtain ⟨rfl, rfl⟩ := hs2
          (go_simp; refine hK _ _ ?_; clear hK K)
          refine flowU_step (fun v s => ∃ g, v = .slice (some ⟨g, 0, none⟩) 3 3 ∧ s = some g) (by decide) rfl ⟨_, _, 0, rfl, rfl⟩ (fun w' hR => ?_) (fun _ _ _ _ _ => trivial) (fun K hK v s2 hs2 => ?_)
          focus
            have hb := hR.bel
            clear hR
            go_simp
            exact ⟨hb.alloc hb.size _, fun q hq => by obtain rfl := Option.some.inj hq; exact heap_new rfl⟩
          obtain ⟨gz, rfl, rfl⟩ := hs2
          (go_simp; refine hK _ _ ?_; clear hK K)
          refine flowU_step (fun v s => v = .agg #[.bool true, .string ⟨#[]⟩, .slice (some ⟨gz, 0, none⟩) 3 3] ∧ s = some gz) (by decide) rfl ⟨_, _, rfl, rfl⟩ (fun w' hR => ?_) (fun _ _ _ _ _ => trivial) (fun K hK v s2 hs2 => ?_)
          focus
            go_simp
            exact (List_any (some ⟨gz, 0, none⟩) 3 3 w').mono (by rintro e w4 ⟨rfl, hb⟩; exact ⟨_, rfl, _, ⟨rfl, rfl⟩, hR.below hb⟩)
          obtain ⟨rfl, rfl⟩ := hs2
          (go_simp; refine hK _ _ ?_; clear hK K)
          refine flowU_step (fun v s => v = .tuple #[.string E, .int .i64 ce] ∧ s = some gz) (by decide) rfl ⟨_, _, rfl, rfl⟩ (fun w' hR => ?_) (fun _ _ _ _ _ => trivial) (fun K hK v s2 hs2 => ?_)
          focus
            have cE := cEh.out w' gz (hXb.trans (hR.bel.mono hXs)) (hR.one gz rfl)
            go_simp
            exact cE.mono (by rintro e w4 ⟨rfl, hb⟩; exact ⟨_, rfl, _, ⟨rfl, rfl⟩, hR.below hb⟩)
          obtain ⟨rfl, rfl⟩ := hs2
          (go_simp; refine hK _ _ ?_; clear hK K)
          iterate 4 ((refine flowU_readE rfl rfl (fun K hK => ?_); apply Exists.intro; apply And.intro; (focus (intro w' hR; have y0 := (hR.bel.cell (p := ⟨w5.heap.size, 0, none⟩) hbX).trans u0; have y1 := (hR.bel.cell (p := ⟨w5.heap.size, 1, none⟩) hbX).trans u1; have y2 := (hR.bel.cell (p := ⟨w5.heap.size, 2, none⟩) hbX).trans u2; have y3 := (hR.bel.cell (p := ⟨W.heap.size, 1, none⟩) hWX).trans e1X; clear hR; go_simp; (try go_bits); exact rfl)); go_simp; (try go_bits); refine hK _ ?_; clear hK K))
          refine flowU_nil ?_
          intro Y hR2
          have b2 := hR2.bel
          clear hR2
          go_wp2
          refine bodyPost_ret (by simp only [results, Tryz.results11]; go_simp; try rfl) rfl ⟨by rw [hE], hbW.trans ((hXb.trans (b2.mono hXs)).mono (by omega))⟩
      · have hno : ¬ x.right := fun h => h20 h.2
        have h20i : ¬ (x.logs.length : Int) ≤ 20 := by omega
        clear hcs hrow hall hz
        go_wp2
        refine bodyPost_ret (by simp only [results, Tryz.results11]; go_simp; try rfl) rfl ⟨by rw [rcRes_no x hno], b1.trans (hbel.mono (by omega))⟩
end Go.Proofs.YtijidnhaijdfaaaGreatDoor
