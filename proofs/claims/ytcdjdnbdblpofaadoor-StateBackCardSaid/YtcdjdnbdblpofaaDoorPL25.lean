/-
  Texts of one proof, one behind the other. Conditions: each text's own line says them.
-/
import Derived.Test.YtcdjdnbdblpofaaDoorPL24

/- How changes are undone: contracts of what a change leaves behind. Conditions: the state is one. -/
namespace Go.Proofs.YtcdjdnbdblpofaaDoor
open Go.RowKit Go.Maps
attribute [local go_sem] leftBy leaves
set_option linter.unusedSimpArgs false
set_option linter.unusedVariables false


set_option maxRecDepth 100000 in
set_option maxHeartbeats 8000000 in
/-- How a second value is undone: the first is put back. -/
theorem undo_put {W : World} {mb n pm ps po pw : Nat} {D : DataW Value} (hown : W.ownsMap Tryd.prog 83 heldR mb n D) (hn : n < 1000000000) (a : ByteArray) (k0 k1 k2 k3 v0 v1 v2 v3 : Int) {kl : Lit}
    (hkey : keyOf Tryd.prog 83 (.agg #[.string a, .int .u64 k0, .int .u64 k1, .int .u64 k2, .int .u64 k3]) = some kl)
    (hpm : W.heap[pm]? = some (.cells #[.map (some mb)] 68 (0, 0))) (hps : W.heap[ps]? = some (.cells #[.string a, .int .u64 k0, .int .u64 k1, .int .u64 k2, .int .u64 k3] 83 (0, 0)))
    (hpo : W.heap[po]? = some (.cells #[.bool true] 4 (0, 0))) (hpw : W.heap[pw]? = some (.cells #[.int .u64 v0, .int .u64 v1, .int .u64 v2, .int .u64 v3] 25 (0, 0))) :
    Calls Tryd.prog 59 #[.pointer (some ⟨po, 0, none⟩), .pointer (some ⟨pw, 0, none⟩), .pointer (some ⟨pm, 0, none⟩), .pointer (some ⟨ps, 0, none⟩)] W fun e w' =>
      e = .returned (.tuple #[]) ∧ w'.ownsMap Tryd.prog 83 heldR mb (n + 1) (D.put kl (.held (.agg #[.int .u64 v0, .int .u64 v1, .int .u64 v2, .int .u64 v3]))) ∧ W.grownBy w' (some mb) := by
  have c0 : W.cell? ⟨po, 0, none⟩ = some (.bool true) := by simp [World.cell?, hpo]
  have c1 : W.cell? ⟨pm, 0, none⟩ = some (.map (some mb)) := by simp [World.cell?, hpm]
  have s0 : W.cell? ⟨ps, 0, none⟩ = some (.string a) := by simp [World.cell?, hps]
  have s1 : W.cell? ⟨ps, 1, none⟩ = some (.int .u64 k0) := by simp [World.cell?, hps]
  have s2 : W.cell? ⟨ps, 2, none⟩ = some (.int .u64 k1) := by simp [World.cell?, hps]
  have s3 : W.cell? ⟨ps, 3, none⟩ = some (.int .u64 k2) := by simp [World.cell?, hps]
  have s4 : W.cell? ⟨ps, 4, none⟩ = some (.int .u64 k3) := by simp [World.cell?, hps]
  obtain ⟨w0, w1, w2, w3⟩ := cells4w hpw
  clear hpm hps hpo hpw
  go_enter Tryd.func59, Tryd.ntmps59
  go_wp2_with (at_mapUpdate; refine wpList_mapUpdate_own _ rfl _ _ _ 68 rfl 83 25 lawSpot Tryd.underlying68 heldR mb n D rfl hown (by unfold maxLen; omega) _ _ kl rfl rfl hkey _ [] rfl ?_; intro w1 hown1 hg1)
  go_end0
  exact ⟨rfl, hown1, hg1⟩

/-- A set is undone. -/
theorem undo_set {W : World} {F : Nat → Prop} {mb N : Nat} {p : ByteArray × Nat} {o : Option Nat} {v : Value} {g : ByteArray × Nat → Option Value} (hM : MV W 83 spW okP mb N (W4 0) g) (hN : N ≤ 1000000) (hp : okP p) (hs : setAt W F mb p o v) :
    ∃ bs, v = .func (.func 59) #[] bs ∧ Calls Tryd.prog 59 bs W fun e w' => e = .returned (.tuple #[]) ∧ MV w' 83 spW okP mb (N + 1) (W4 0) (fun q => if q = p then o.map W4 else g q) ∧ Fr (fun j => j = mb) W w' := by
  obtain ⟨po, pw, pm, ps, hv, ⟨_, ho⟩, ⟨_, hw⟩, ⟨_, hm⟩, ⟨_, hps⟩⟩ := hs
  refine ⟨_, hv, ?_⟩
  obtain ⟨D, h1, h2⟩ := hM
  obtain ⟨kl, hk⟩ := keyP.some p hp
  cases o with
  | none =>
    refine (undo_del (pw := pw) h1 p.1 _ _ _ _ hk hm hps ho).mono ?_
    rintro e w' ⟨rfl, h3, hg⟩
    refine ⟨rfl, MV.mono (N := N) ⟨_, h3, fun j kj hj hkj => ?_⟩ (by omega), ⟨hg.os, hg.tape, hg.output, hg.size, fun k hk hT => hg.block k hk (by simpa using hT)⟩⟩
    by_cases e : j = p
    · subst e
      obtain rfl := Option.some.inj (hk.symm.trans hkj)
      (try dsimp only)
      rw [if_pos rfl]
      exact ⟨has_del_same, atKey_del_same _⟩
    · have hne : kj ≠ kl := fun e' => e (keyP.inj _ _ hj hp (lawSpot.inj (e' ▸ hkj) hk))
      (try dsimp only)
      rw [if_neg e, has_del_other hne, atKey_del_other hne]
      exact h2 j kj hj hkj
  | some x =>
    refine (undo_put h1 (by omega) p.1 _ _ _ _ (lb x 0 : Nat) (lb x 1 : Nat) (lb x 2 : Nat) (lb x 3 : Nat) hk hm hps ho hw).mono ?_
    rintro e w' ⟨rfl, h3, hg⟩
    refine ⟨rfl, ⟨_, h3, fun j kj hj hkj => ?_⟩, ⟨hg.os, hg.tape, hg.output, hg.size, fun k hk hT => hg.block k hk (by simpa using hT)⟩⟩
    by_cases e : j = p
    · subst e
      obtain rfl := Option.some.inj (hk.symm.trans hkj)
      (try dsimp only)
      rw [if_pos rfl]
      exact ⟨has_put_same h1.isMap (lawSpot.key hk) _, atKey_put_same h1.isMap (lawSpot.key hk) _ _⟩
    · have hne : kj ≠ kl := fun e' => e (keyP.inj _ _ hj hp (lawSpot.inj (e' ▸ hkj) hk))
      (try dsimp only)
      rw [if_neg e, has_put_other hne, atKey_put_other hne]
      exact h2 j kj hj hkj

set_option maxRecDepth 100000 in
set_option maxHeartbeats 8000000 in
/-- An address's warming is undone. -/
theorem undo_warm {W : World} {b N : Nat} {lg un : Value} {a : ByteArray} {g : ByteArray → Option Value} (hst : stA W b lg un) (hM : MV W 9 Value.string okT (b + 4) N (.bool false) g) (ha : okT a) {qs qa : Nat} (h1 : W.heap[qs]? = some (.cells #[ptr (b + 6)] 27 (0, 0))) (h2 : W.heap[qa]? = some (.cells #[.string a] 9 (0, 0))) :
    Calls Tryd.prog 41 #[ptr qs, ptr qa] W fun e w' => e = .returned (.tuple #[]) ∧ MV w' 9 Value.string okT (b + 4) (N + 1) (.bool false) (fun q => if q = a then none else g q) ∧ Fr (fun j => j = b + 4) W w' := by
  have hlt := hst.lt
  have z1 := (Array.getElem?_eq_some_iff.1 h1).1
  have z2 := (Array.getElem?_eq_some_iff.1 h2).1
  obtain ⟨_, _, _, _, d4, _⟩ := hst.cells
  obtain ⟨es4, cl4, hm4⟩ := hM.isMap
  have n1 := map_ne h1 hm4
  have n2 := map_ne h2 hm4
  unfold ptr at *
  have x1 : W.cell? ⟨qs, 0, none⟩ = some (.pointer (some ⟨b + 6, 0, none⟩)) := by simp [World.cell?, h1]
  have x2 : W.cell? ⟨qa, 0, none⟩ = some (.string a) := by simp [World.cell?, h2]
  go_enter Tryd.func41, Tryd.ntmps41
  go_wp2
  refine wp_flowU (fun k => ([1, 1, 1, 1, 1, 4] : List Nat).getD k 1) (mpV W 9 Value.string okT (b + 4) N (.bool false) g (fun q => if q = a then none else g q)) (fun s => s = false) (false) (⟨Fr.drew (Fr.refl _ _), hM⟩) rfl (by kernel_rfl) (by kernel_rfl) ?_
  iterate 5 ((refine flowU_readE rfl rfl (fun K hK => ?_); apply Exists.intro; apply And.intro; (focus (intro w' hR; have y2 := hR.fr.cell x1 n1 (by omega); have y3 := hR.fr.cell x2 n2 (by omega); have y4 := hR.fr.cell d4 (by omega) (by omega); clear hR; go_simp; (try go_bits); exact rfl)); go_simp; (try go_bits); refine hK _ ?_; clear hK K))
  refine flowU_step (fun v s => v = .tuple #[] ∧ s = true) (by decide) rfl ⟨.tuple #[], true, rfl, rfl⟩ (fun w' hR => ?_) (fun h => absurd rfl h) (fun K hK v s2 hs2 => ?_)
  focus
    have hm := hR.now
    rw [if_neg (by simp)] at hm
    obtain ⟨w2, hrun, hm2, hgr⟩ := hm.del keyT Tryd.underlying69 a ha 0
    have hfr := hR.fr
    clear hR hm
    go_simp
    exact ⟨hfr.trans ⟨hgr.os, hgr.tape, hgr.output, hgr.size, fun j hj hT => hgr.block j hj (by simpa using hT)⟩, by rw [if_pos rfl]; exact hm2.mono (by omega)⟩
  obtain ⟨rfl, rfl⟩ := hs2
  (go_simp; refine hK _ _ ?_; clear hK K)
  refine flowU_nil ?_
  intro W3 hR3
  go_wp2
  go_end0
  exact ⟨rfl, by have := hR3.now; rw [if_pos rfl] at this; exact this, hR3.fr⟩

set_option maxRecDepth 100000 in
set_option maxHeartbeats 8000000 in
/-- A cell's warming is undone. -/
theorem undo_cell {W : World} {b N : Nat} {lg un : Value} {p : ByteArray × Nat} {g : ByteArray × Nat → Option Value} (hst : stA W b lg un) (hM : MV W 83 spW okP (b + 5) N (.bool false) g) (hp : okP p) {qs qa : Nat} (h1 : W.heap[qs]? = some (.cells #[ptr (b + 6)] 27 (0, 0))) (h2 : W.heap[qa]? = some (.cells #[.string p.1, .int .u64 (lb p.2 0 : Nat), .int .u64 (lb p.2 1 : Nat), .int .u64 (lb p.2 2 : Nat), .int .u64 (lb p.2 3 : Nat)] 83 (0, 0))) :
    Calls Tryd.prog 42 #[ptr qs, ptr qa] W fun e w' => e = .returned (.tuple #[]) ∧ MV w' 83 spW okP (b + 5) (N + 1) (.bool false) (fun q => if q = p then none else g q) ∧ Fr (fun j => j = b + 5) W w' := by
  have hlt := hst.lt
  have z1 := (Array.getElem?_eq_some_iff.1 h1).1
  have z2 := (Array.getElem?_eq_some_iff.1 h2).1
  obtain ⟨_, _, _, _, _, d5, _⟩ := hst.cells
  obtain ⟨es4, cl4, hm4⟩ := hM.isMap
  have n1 := map_ne h1 hm4
  have n2 := map_ne h2 hm4
  obtain ⟨a, k⟩ := p
  unfold ptr at *
  dsimp only at h2
  have x1 : W.cell? ⟨qs, 0, none⟩ = some (.pointer (some ⟨b + 6, 0, none⟩)) := by simp [World.cell?, h1]
  have s0 : W.cell? ⟨qa, 0, none⟩ = some (.string a) := by simp [World.cell?, h2]
  have s1 : W.cell? ⟨qa, 1, none⟩ = some (.int .u64 (lb k 0 : Nat)) := by simp [World.cell?, h2]
  have s2 : W.cell? ⟨qa, 2, none⟩ = some (.int .u64 (lb k 1 : Nat)) := by simp [World.cell?, h2]
  have s3 : W.cell? ⟨qa, 3, none⟩ = some (.int .u64 (lb k 2 : Nat)) := by simp [World.cell?, h2]
  have s4 : W.cell? ⟨qa, 4, none⟩ = some (.int .u64 (lb k 3 : Nat)) := by simp [World.cell?, h2]
  go_enter Tryd.func42, Tryd.ntmps42
  go_wp2
  refine wp_flowU (fun k => ([1, 1, 1, 1, 1, 4] : List Nat).getD k 1) (mpV W 83 spW okP (b + 5) N (.bool false) g (fun q => if q = (a, k) then none else g q)) (fun s => s = false) (false) (⟨Fr.drew (Fr.refl _ _), hM⟩) rfl (by kernel_rfl) (by kernel_rfl) ?_
  iterate 5 ((refine flowU_readE rfl rfl (fun K hK => ?_); apply Exists.intro; apply And.intro; (focus (intro w' hR; have y2 := hR.fr.cell x1 n1 (by omega); have t0 := hR.fr.cell s0 n2 (by omega); have t1 := hR.fr.cell s1 n2 (by omega); have t2 := hR.fr.cell s2 n2 (by omega); have t3 := hR.fr.cell s3 n2 (by omega); have t4 := hR.fr.cell s4 n2 (by omega); have y4 := hR.fr.cell d5 (by omega) (by omega); clear hR; go_simp; (try go_bits); exact rfl)); go_simp; (try go_bits); refine hK _ ?_; clear hK K))
  refine flowU_step (fun v s => v = .tuple #[] ∧ s = true) (by decide) rfl ⟨.tuple #[], true, rfl, rfl⟩ (fun w' hR => ?_) (fun h => absurd rfl h) (fun K hK v s2 hs2 => ?_)
  focus
    have hm := hR.now
    rw [if_neg (by simp)] at hm
    obtain ⟨w2, hrun, hm2, hgr⟩ := hm.del keyP Tryd.underlying70 (a, k) hp 0
    have hfr := hR.fr
    unfold spW spV at hrun
    dsimp only at hrun
    clear hR hm
    go_simp
    exact ⟨hfr.trans ⟨hgr.os, hgr.tape, hgr.output, hgr.size, fun j hj hT => hgr.block j hj (by simpa using hT)⟩, by rw [if_pos rfl]; exact hm2.mono (by omega)⟩
  obtain ⟨rfl, rfl⟩ := hs2
  (go_simp; refine hK _ _ ?_; clear hK K)
  refine flowU_nil ?_
  intro W3 hR3
  go_wp2
  go_end0
  exact ⟨rfl, by have := hR3.now; rw [if_pos rfl] at this; exact this, hR3.fr⟩

set_option maxRecDepth 100000 in
set_option maxHeartbeats 16000000 in
/-- A move is undone. -/
theorem undo_move {W : World} {b N : Nat} {lg un : Value} {f t : ByteArray} {n x y : Nat} {g : ByteArray → Option Value} (hst : stA W b lg un) (hM : MV W 9 Value.string okT (b + 1) N (W4 0) g) (hN : N ≤ 1000000) (hf : okT f) (ht : okT t) (hn : n < Q256)
    (hx : x < Q256) (hy : y < Q256) (hgt : g t = some (W4 y)) (hgf : (if f = t then some (W4 (subN y n)) else g f) = some (W4 x)) {qs qt qn qf : Nat}
    (h1 : W.heap[qs]? = some (.cells #[ptr (b + 6)] 27 (0, 0))) (h2 : W.heap[qt]? = some (.cells #[.string t] 9 (0, 0))) (h3 : W.heap[qn]? = some (.cells #[.int .u64 (lb n 0 : Nat), .int .u64 (lb n 1 : Nat), .int .u64 (lb n 2 : Nat), .int .u64 (lb n 3 : Nat)] 25 (0, 0))) (h4 : W.heap[qf]? = some (.cells #[.string f] 9 (0, 0))) :
    Calls Tryd.prog 55 #[ptr qs, ptr qt, ptr qn, ptr qf] W fun e w' => e = .returned (.tuple #[]) ∧ MV w' 9 Value.string okT (b + 1) (N + 2) (W4 0) (fun q => if q = f then some (W4 (addN x n)) else if q = t then some (W4 (subN y n)) else g q) ∧ Fr (fun j => j = b + 1) W w' := by
  have hlt := hst.lt
  have z1 := (Array.getElem?_eq_some_iff.1 h1).1
  have z2 := (Array.getElem?_eq_some_iff.1 h2).1
  have z3 := (Array.getElem?_eq_some_iff.1 h3).1
  have z4 := (Array.getElem?_eq_some_iff.1 h4).1
  obtain ⟨_, d1, _⟩ := hst.cells
  obtain ⟨es4, cl4, hm4⟩ := hM.isMap
  have n4 := map_ne h1 hm4
  have n6 := map_ne h2 hm4
  have n7 := map_ne h3 hm4
  have n5 := map_ne h4 hm4
  clear hm4
  unfold ptr at *
  have x4 : W.cell? ⟨qs, 0, none⟩ = some (.pointer (some ⟨b + 6, 0, none⟩)) := by simp [World.cell?, h1]
  have x6 : W.cell? ⟨qt, 0, none⟩ = some (.string t) := by simp [World.cell?, h2]
  have x5 : W.cell? ⟨qf, 0, none⟩ = some (.string f) := by simp [World.cell?, h4]
  obtain ⟨y0, y1, y2, y3⟩ := cells4w h3
  clear h1 h2 h3 h4
  have hl1 := Lib.hid fun (w' : World) (hm : MV w' 9 Value.string okT (b + 1) N (W4 0) g) => show (Instr.lookup 67 (.map (some (b + 1))) (.string t) false).run Tryd.prog w' = .ok (W4 y) w' by
    have := hm.look1 keyT Tryd.underlying67 zeroW t ht w' rfl
    rw [hgt] at this
    exact this
  have hl2 := Lib.hid fun (w' : World) (hm : MV w' 9 Value.string okT (b + 1) (N + 1) (W4 0) (fun q => if q = t then some (W4 (subN y n)) else g q)) => show (Instr.lookup 67 (.map (some (b + 1))) (.string f) false).run Tryd.prog w' = .ok (W4 x) w' by
    have := hm.look1 keyT Tryd.underlying67 zeroW f hf w' rfl
    rw [hgf] at this
    exact this
  have cS := Lib.hid fun (w' : World) => show Calls Tryd.prog 54 #[W4 y, .agg #[.int .u64 (lb n 0 : Nat), .int .u64 (lb n 1 : Nat), .int .u64 (lb n 2 : Nat), .int .u64 (lb n 3 : Nat)]] w' fun e w2 => e = .returned (W4 (subN y n)) ∧ Below w'.heap.size w' w2 from Sub_any y n hy hn w'
  have cA := Lib.hid fun (w' : World) => show Calls Tryd.prog 43 #[W4 x, .agg #[.int .u64 (lb n 0 : Nat), .int .u64 (lb n 1 : Nat), .int .u64 (lb n 2 : Nat), .int .u64 (lb n 3 : Nat)]] w' fun e w2 => e = .returned (W4 (addN x n)) ∧ Below w'.heap.size w' w2 from Add_any x n hx hn w'
  clear hgt hgf
  go_enter Tryd.func55, Tryd.ntmps55
  go_wp2
  refine wp_flowU (fun k => ([0, 0, 0, 0, 0, 1, 1, 1, 1, 1, 1, 1, 2, 4] : List Nat).getD k 1) (mpV W 9 Value.string okT (b + 1) N (W4 0) g (fun q => if q = t then some (W4 (subN y n)) else g q)) (fun s => s = false) (false) (⟨Fr.drew (Fr.refl _ _), hM⟩) rfl (by kernel_rfl) (by kernel_rfl) ?_
  iterate 5 ((refine flowU_lateE rfl rfl (fun K hK => ?_); apply Exists.intro; apply And.intro; (focus (intro s0 w' hC hR; have hm := hR.now; (try rw [hC] at hm); (try rw [if_neg (by simp)] at hm); have u4 := hR.fr.cell x4 n4 (by omega); have u5 := hR.fr.cell x6 (by omega) (by omega); have u1 := hR.fr.cell d1 (by omega) (by omega); have t0 := hR.fr.cell y0 n7 (by omega); have t1 := hR.fr.cell y1 n7 (by omega); have t2 := hR.fr.cell y2 n7 (by omega); have t3 := hR.fr.cell y3 n7 (by omega); have hlw := hl1.out w' hm; clear hR hm; go_simp; (try go_bits); exact rfl)); go_simp; (try go_bits); refine hK _ ?_; clear hK K))
  iterate 7 ((refine flowU_readE rfl rfl (fun K hK => ?_); apply Exists.intro; apply And.intro; (focus (intro w' hR; have hm := hR.now; (try rw [hC] at hm); (try rw [if_neg (by simp)] at hm); have u4 := hR.fr.cell x4 n4 (by omega); have u5 := hR.fr.cell x6 (by omega) (by omega); have u1 := hR.fr.cell d1 (by omega) (by omega); have t0 := hR.fr.cell y0 n7 (by omega); have t1 := hR.fr.cell y1 n7 (by omega); have t2 := hR.fr.cell y2 n7 (by omega); have t3 := hR.fr.cell y3 n7 (by omega); have hlw := hl1.out w' hm; clear hR hm; go_simp; (try go_bits); exact rfl)); go_simp; (try go_bits); refine hK _ ?_; clear hK K))
  refine flowU_step (fun v s => v = W4 (subN y n) ∧ s = false) (by decide) rfl ⟨W4 (subN y n), false, rfl, rfl⟩ (fun w' hR => ?_) (fun _ _ _ _ h => h.2) (fun K hK v s2 hs2 => ?_)
  focus
    have hm := hR.now
    rw [if_neg (by simp)] at hm
    have hfr := hR.fr
    have cS := cS.out w'
    clear hR
    go_simp
    refine cS.mono ?_
    rintro e w2 ⟨rfl, hb⟩
    exact ⟨_, rfl, rfl, hfr.trans ⟨hb.os, hb.tape, hb.output, hb.size, fun j hj hT => hb.block j hj⟩, by rw [if_neg (by simp)]; exact hm.at_block (hb.block _ hm.lt)⟩
  obtain ⟨rfl, rfl⟩ := hs2
  (go_simp; refine hK _ _ ?_; clear hK K)
  refine flowU_step (fun v s => v = undef ∧ s = true) (by decide) rfl ⟨undef, true, rfl, rfl⟩ (fun w' hR => ?_) (fun h => absurd rfl h) (fun K hK v s2 hs2 => ?_)
  focus
    have hm := hR.now
    rw [if_neg (by simp)] at hm
    obtain ⟨w2, hrun, hm2, hgr⟩ := hm.put keyT Tryd.underlying67 (by unfold maxLen; omega) t ht (W4 (subN y n))
    have hfr := hR.fr
    clear hR hm
    go_simp
    exact ⟨hfr.trans ⟨hgr.os, hgr.tape, hgr.output, hgr.size, fun j hj hT => hgr.block j hj (by simpa using hT)⟩, by rw [if_pos rfl]; exact hm2⟩
  obtain ⟨rfl, rfl⟩ := hs2
  (go_simp; refine hK _ _ ?_; clear hK K)
  refine flowU_nil ?_
  intro W2 hR2
  have m2 := hR2.now
  rw [if_pos rfl] at m2
  have fr2 := hR2.fr
  have sz2 := fr2.size
  replace x4 := fr2.cell x4 (by omega) (by omega)
  replace x5 := fr2.cell x5 (by omega) (by omega)
  replace y0 := fr2.cell y0 (by omega) (by omega)
  replace y1 := fr2.cell y1 (by omega) (by omega)
  replace y2 := fr2.cell y2 (by omega) (by omega)
  replace y3 := fr2.cell y3 (by omega) (by omega)
  replace d1 := fr2.cell d1 (by omega) (by omega)
  clear hR2 hl1 cS hM x6
  go_wp2
  refine wp_flowU (fun k => ([0, 0, 0, 0, 0, 1, 1, 1, 1, 1, 1, 1, 2, 4] : List Nat).getD k 1) (mpV W2 9 Value.string okT (b + 1) (N + 1) (W4 0) (fun q => if q = t then some (W4 (subN y n)) else g q) (fun q => if q = f then some (W4 (addN x n)) else if q = t then some (W4 (subN y n)) else g q)) (fun s => s = false) (false) (⟨Fr.drew (Fr.refl _ _), m2⟩) rfl (by kernel_rfl) (by kernel_rfl) ?_
  iterate 5 ((refine flowU_lateE rfl rfl (fun K hK => ?_); apply Exists.intro; apply And.intro; (focus (intro s0 w' hC hR; have hm := hR.now; (try rw [hC] at hm); (try rw [if_neg (by simp)] at hm); have u4 := hR.fr.cell x4 n4 (by omega); have u5 := hR.fr.cell x5 (by omega) (by omega); have u1 := hR.fr.cell d1 (by omega) (by omega); have t0 := hR.fr.cell y0 n7 (by omega); have t1 := hR.fr.cell y1 n7 (by omega); have t2 := hR.fr.cell y2 n7 (by omega); have t3 := hR.fr.cell y3 n7 (by omega); have hlw := hl2.out w' hm; clear hR hm; go_simp; (try go_bits); exact rfl)); go_simp; (try go_bits); refine hK _ ?_; clear hK K))
  iterate 7 ((refine flowU_readE rfl rfl (fun K hK => ?_); apply Exists.intro; apply And.intro; (focus (intro w' hR; have hm := hR.now; (try rw [hC] at hm); (try rw [if_neg (by simp)] at hm); have u4 := hR.fr.cell x4 n4 (by omega); have u5 := hR.fr.cell x5 (by omega) (by omega); have u1 := hR.fr.cell d1 (by omega) (by omega); have t0 := hR.fr.cell y0 n7 (by omega); have t1 := hR.fr.cell y1 n7 (by omega); have t2 := hR.fr.cell y2 n7 (by omega); have t3 := hR.fr.cell y3 n7 (by omega); have hlw := hl2.out w' hm; clear hR hm; go_simp; (try go_bits); exact rfl)); go_simp; (try go_bits); refine hK _ ?_; clear hK K))
  refine flowU_step (fun v s => v = W4 (addN x n) ∧ s = false) (by decide) rfl ⟨W4 (addN x n), false, rfl, rfl⟩ (fun w' hR => ?_) (fun _ _ _ _ h => h.2) (fun K hK v s2 hs2 => ?_)
  focus
    have hm := hR.now
    rw [if_neg (by simp)] at hm
    have hfr := hR.fr
    have cS := cA.out w'
    clear hR
    go_simp
    refine cS.mono ?_
    rintro e w2 ⟨rfl, hb⟩
    exact ⟨_, rfl, rfl, hfr.trans ⟨hb.os, hb.tape, hb.output, hb.size, fun j hj hT => hb.block j hj⟩, by rw [if_neg (by simp)]; exact hm.at_block (hb.block _ hm.lt)⟩
  obtain ⟨rfl, rfl⟩ := hs2
  (go_simp; refine hK _ _ ?_; clear hK K)
  refine flowU_step (fun v s => v = undef ∧ s = true) (by decide) rfl ⟨undef, true, rfl, rfl⟩ (fun w' hR => ?_) (fun h => absurd rfl h) (fun K hK v s2 hs2 => ?_)
  focus
    have hm := hR.now
    rw [if_neg (by simp)] at hm
    obtain ⟨w2, hrun, hm2, hgr⟩ := hm.put keyT Tryd.underlying67 (by unfold maxLen; omega) f hf (W4 (addN x n))
    have hfr := hR.fr
    clear hR hm
    go_simp
    exact ⟨hfr.trans ⟨hgr.os, hgr.tape, hgr.output, hgr.size, fun j hj hT => hgr.block j hj (by simpa using hT)⟩, by rw [if_pos rfl]; exact hm2⟩
  obtain ⟨rfl, rfl⟩ := hs2
  (go_simp; refine hK _ _ ?_; clear hK K)
  refine flowU_nil ?_
  intro W3 hR3
  have fr3 := hR3.fr
  go_wp2
  go_end0
  exact ⟨rfl, by have := hR3.now; rw [if_pos rfl] at this; exact this, fr2.trans fr3⟩

/-- The state's logs are cut, or not yet. -/
structure lsR (W1 : World) (b : Nat) (lg u un : Value) (s : Bool) (w' : World) : Prop where
  fr : Fr (fun k => k = b + 6) W1 w'
  st : stA w' b (if s then u else lg) un

set_option maxRecDepth 100000 in
set_option maxHeartbeats 16000000 in
/-- A log is undone. -/
theorem undo_log {W : World} {b g len cap n : Nat} {un : Value} (hst : stA W b (.slice (some ⟨g, 0, none⟩) len cap) un) (hn : n ≤ cap) {qs qn : Nat} (h1 : W.heap[qs]? = some (.cells #[ptr (b + 6)] 27 (0, 0))) (h2 : W.heap[qn]? = some (.cells #[.int .i64 n] 3 (0, 0))) :
    Calls Tryd.prog 39 #[ptr qs, ptr qn] W fun e w' => e = .returned (.tuple #[]) ∧ stA w' b (.slice (some ⟨g, 0, none⟩) n cap) un ∧ Fr (fun j => j = b + 6) W w' := by
  have hlt := hst.lt
  have z1 := (Array.getElem?_eq_some_iff.1 h1).1
  have z2 := (Array.getElem?_eq_some_iff.1 h2).1
  have n1 := block_ne h1 (show W.heap[b + 6]? = _ from hst) (by decide)
  have n2 := block_ne h2 (show W.heap[b + 6]? = _ from hst) (by decide)
  unfold ptr at *
  have x1 : W.cell? ⟨qs, 0, none⟩ = some (.pointer (some ⟨b + 6, 0, none⟩)) := by simp [World.cell?, h1]
  have x2 : W.cell? ⟨qn, 0, none⟩ = some (.int .i64 n) := by simp [World.cell?, h2]
  clear h1 h2
  go_enter Tryd.func39, Tryd.ntmps39
  go_wp2
  refine wp_flowU (fun k => ([1, 1, 1, 1, 1, 1, 1, 1, 1, 4] : List Nat).getD k 1) (lsR W b (.slice (some ⟨g, 0, none⟩) len cap) (.slice (some ⟨g, 0, none⟩) n cap) un) (fun s => s = false) (false) (⟨Fr.drew (Fr.refl _ _), hst⟩) rfl (by kernel_rfl) (by kernel_rfl) ?_
  iterate 9 ((refine flowU_readE rfl rfl (fun K hK => ?_); apply Exists.intro; apply And.intro; (focus (intro w' hR; have hq := hR.st; (try rw [hC] at hq); (try rw [if_neg (by simp)] at hq); obtain ⟨_, _, _, _, _, _, e6, _⟩ := hq.cells; have y1 := hR.fr.cell x1 n1 (by omega); have y2 := hR.fr.cell x2 n2 (by omega); clear hq hR; go_simp; (try go_bits); exact rfl)); go_simp; (try go_bits); refine hK _ ?_; clear hK K))
  refine flowU_step (fun v s => v = undef ∧ s = true) (by decide) rfl ⟨undef, true, rfl, rfl⟩ (fun w' hR => ?_) (fun h => absurd rfl h) (fun K hK v s2 hs2 => ?_)
  focus
    have hst' := hR.st
    rw [if_neg (by simp)] at hst'
    have hlt' := hst'.lt
    obtain ⟨_, _, _, _, _, _, _, _, ff⟩ := hst'.cells
    have f6 := ff 6
    have hfr := hR.fr
    clear hR ff
    go_simp
    exact ⟨hfr.setCell (.inl rfl) _, by rw [if_pos rfl]; exact hst'.set6 _⟩
  obtain ⟨rfl, rfl⟩ := hs2
  (go_simp; refine hK _ _ ?_; clear hK K)
  refine flowU_nil ?_
  intro W3 hR3
  go_wp2
  go_end0
  exact ⟨rfl, by have := hR3.st; rw [if_pos rfl] at this; exact this, hR3.fr⟩
end Go.Proofs.YtcdjdnbdblpofaaDoor

/- How any change is undone. Conditions: the state is one. -/
namespace Go.Proofs.YtcdjdnbdblpofaaDoor
open Go.RowKit Go.Maps
set_option linter.unusedSimpArgs false
set_option linter.unusedVariables false

/-- A move is one of known accounts. -/
def Chg.kn (L : List Kw) : Chg → Prop
  | .move f t _ => (∃ K, kfind L f = some K) ∧ ∃ K, kfind L t = some K
  | _ => True
/-- What warms was cold. -/
def Chg.new (R : List Chg) : Chg → Prop
  | .warm a => wmF R a = false
  | .cell p => ceF R p = false
  | _ => True
/-- A row's first elements. -/
theorem ownsRow_take {W : World} {e : TypeId} {size n m g cap : Nat} {xs ys : List Value} (h : W.ownsRow 0 e size (.slice (some ⟨g, 0, none⟩) n cap) n (xs ++ ys)) (hx : xs.length = m * size) (hm : m ≤ n) : W.ownsRow 0 e size (.slice (some ⟨g, 0, none⟩) m cap) m xs := by
  obtain ⟨h1, ⟨h2, _⟩ | ⟨g2, cap2, cur, hv, h3, h4, h5, h6, h7, h8⟩⟩ := h
  · cases h2
  · simp only [Value.slice.injEq, Option.some.injEq, Addr.mk.injEq, true_and, and_true] at hv
    obtain ⟨rfl, rfl⟩ := hv
    refine ⟨hx, .inr ⟨g, cap, cur, rfl, h3, h4, by omega, h6, h7, ?_⟩⟩
    have e : cur.toList.take (m * size) = (cur.toList.take (n * size)).take (m * size) := by
      rw [List.take_take, Nat.min_eq_left (Nat.mul_le_mul_right _ hm)]
    rw [e, h8, ← hx, List.take_left']
    rfl
theorem sub_add {x n : Nat} (hx : x < Q256) (hn : n < Q256) : subN (addN x n) n = x := by
  unfold subN addN Q256 at *
  omega
theorem add_sub {x n : Nat} (hx : x < Q256) (hn : n < Q256) : addN (subN x n) n = x := by
  unfold subN addN Q256 at *
  omega

set_option maxHeartbeats 1000000 in
/-- A change is undone. -/
theorem undo_one {w : World} {F : Nat → Prop} {b N : Nat} {L : List Kw} {R : List Chg} {c : Chg} {un v : Value} (h : CRep w F b N L (c :: R) un) (hN : N ≤ 1000000) (hc : c.ok) (hk : c.kn L) (hw : c.new R) (hL : ∀ K ∈ L, K.ba < Q256) (hv : unAt w F b R c v) :
    ∃ f bs, (f = 59 ∨ f = 55 ∨ f = 41 ∨ f = 42 ∨ f = 39) ∧ v = .func (.func f) #[] bs ∧ Calls Tryd.prog f bs w fun e w' => e = .returned (.tuple #[]) ∧ CRep w' F b (N + 2) L R un ∧ Fr (fun j => b ≤ j ∧ j ≤ b + 6) w w' := by
  obtain ⟨lg, s1, hrl, hlgF⟩ := h.st
  have hlt := s1.lt
  cases c with
  | save p x =>
    obtain ⟨bs, hv, hcall⟩ := undo_set h.m2 hN hc.1 hv
    refine ⟨_, bs, by decide, hv, hcall.mono ?_⟩
    rintro e w' ⟨rfl, hm, hf⟩
    have hj := fun j (h1 : j ≤ 6) (h2 : j ≠ 2) => hf.block (b + j) (by omega) (by omega)
    have st' : stA w' b lg un := (hj 6 (by omega) (by omega)).trans s1
    obtain ⟨es4, cl4, hm4⟩ := h.m2.isMap
    have hrl' : w'.ownsRow 0 43 3 lg (lgF R).length (lgC (lgF R)) := ownsRow_same hrl fun k hk => by
      obtain ⟨cs, h3⟩ := row_block hrl hk
      exact hf.block k (h.flt k (hlgF k hk)) (map_ne h3 hm4)
    have fl : ∀ k, F k → k < w'.heap.size := fun k hk => Nat.lt_of_lt_of_le (h.flt k hk) hf.size
    have fr : Fr (fun j => b ≤ j ∧ j ≤ b + 6) w w' := hf.mono fun j hj => by omega
    refine ⟨rfl, ⟨fl, h.fb, ⟨lg, st', hrl', hlgF⟩, (h.m0.at_block (hj 0 (by omega) (by omega))).mono (by omega), (h.m1.at_block (hj 1 (by omega) (by omega))).mono (by omega), ?_, (h.m3.at_block (hj 3 (by omega) (by omega))).mono (by omega), (h.m4.at_block (hj 4 (by omega) (by omega))).mono (by omega), (h.m5.at_block (hj 5 (by omega) (by omega))).mono (by omega)⟩, fr⟩
    refine (hm.mono (by omega)).ext fun q _ => ?_
    by_cases e : q = p
    · simp [e]
    · simp [svF, e]
  | brief p x =>
    obtain ⟨bs, hv, hcall⟩ := undo_set h.m3 hN hc.1 hv
    refine ⟨_, bs, by decide, hv, hcall.mono ?_⟩
    rintro e w' ⟨rfl, hm, hf⟩
    have hj := fun j (h1 : j ≤ 6) (h2 : j ≠ 3) => hf.block (b + j) (by omega) (by omega)
    have st' : stA w' b lg un := (hj 6 (by omega) (by omega)).trans s1
    obtain ⟨es4, cl4, hm4⟩ := h.m3.isMap
    have hrl' : w'.ownsRow 0 43 3 lg (lgF R).length (lgC (lgF R)) := ownsRow_same hrl fun k hk => by
      obtain ⟨cs, h3⟩ := row_block hrl hk
      exact hf.block k (h.flt k (hlgF k hk)) (map_ne h3 hm4)
    have fl : ∀ k, F k → k < w'.heap.size := fun k hk => Nat.lt_of_lt_of_le (h.flt k hk) hf.size
    have fr : Fr (fun j => b ≤ j ∧ j ≤ b + 6) w w' := hf.mono fun j hj => by omega
    refine ⟨rfl, ⟨fl, h.fb, ⟨lg, st', hrl', hlgF⟩, (h.m0.at_block (hj 0 (by omega) (by omega))).mono (by omega), (h.m1.at_block (hj 1 (by omega) (by omega))).mono (by omega), (h.m2.at_block (hj 2 (by omega) (by omega))).mono (by omega), ?_, (h.m4.at_block (hj 4 (by omega) (by omega))).mono (by omega), (h.m5.at_block (hj 5 (by omega) (by omega))).mono (by omega)⟩, fr⟩
    refine (hm.mono (by omega)).ext fun q _ => ?_
    by_cases e : q = p
    · simp [e]
    · simp [brF, e]
  | move f t n =>
    obtain ⟨⟨Kf, hKf⟩, ⟨Kt, hKt⟩⟩ := hk
    obtain ⟨qs, qt, qn, qf, hv, ⟨_, h1⟩, ⟨_, h2⟩, ⟨_, h3⟩, ⟨_, h4⟩⟩ := hv
    have hlf := baF_lt hL R f
    have hlt2 := baF_lt hL R t
    have hmv := h.m1
    have hcall := undo_move (x := if f = t then subN (baF L (.move f t n :: R) t) n else baF L (.move f t n :: R) f) (y := baF L (.move f t n :: R) t) s1 h.m1 hN hc.1 hc.2.1 hc.2.2 (by
      split
      · exact subN_lt _ _
      · exact baF_lt hL _ _) (baF_lt hL _ _) (by rw [hKt]; rfl) (by
      split
      · rfl
      · rw [hKf]; rfl) h1 h2 h3 h4
    refine ⟨_, _, (by decide), hv, hcall.mono ?_⟩
    rintro e w' ⟨rfl, hm, hf⟩
    have hj := fun j (h1 : j ≤ 6) (h2 : j ≠ 1) => hf.block (b + j) (by omega) (by omega)
    have st' : stA w' b lg un := (hj 6 (by omega) (by omega)).trans s1
    obtain ⟨es4, cl4, hm4⟩ := h.m1.isMap
    have hrl' : w'.ownsRow 0 43 3 lg (lgF R).length (lgC (lgF R)) := ownsRow_same hrl fun k hk => by
      obtain ⟨cs, h3⟩ := row_block hrl hk
      exact hf.block k (h.flt k (hlgF k hk)) (map_ne h3 hm4)
    have fl : ∀ k, F k → k < w'.heap.size := fun k hk => Nat.lt_of_lt_of_le (h.flt k hk) hf.size
    have fr : Fr (fun j => b ≤ j ∧ j ≤ b + 6) w w' := hf.mono fun j hj => by omega
    refine ⟨rfl, ⟨fl, h.fb, ⟨lg, st', hrl', hlgF⟩, (h.m0.at_block (hj 0 (by omega) (by omega))).mono (by omega), ?_, (h.m2.at_block (hj 2 (by omega) (by omega))).mono (by omega), (h.m3.at_block (hj 3 (by omega) (by omega))).mono (by omega), (h.m4.at_block (hj 4 (by omega) (by omega))).mono (by omega), (h.m5.at_block (hj 5 (by omega) (by omega))).mono (by omega)⟩, fr⟩
    refine hm.ext fun q _ => ?_
    have eb : ∀ a, baF L (.move f t n :: R) a = mvF f t n (baF L R) a := fun _ => rfl
    simp only [eb]
    unfold mvF
    dsimp only
    have hx := baF_lt hL R
    have a1 := fun a => sub_add (hx a) hc.2.2
    have a2 := fun a => add_sub (hx a) hc.2.2
    have a3 := sub_add (subN_lt (baF L R t) n) hc.2.2
    by_cases e1 : q = f
    · subst e1
      by_cases e2 : q = t
      · subst e2
        rw [hKf]
        simp [a3, a2]
      · rw [hKf]
        simp [e2, a2]
    · by_cases e2 : q = t
      · subst e2
        rw [hKt]
        simp [e1, a1]
      · simp [e1, e2]
  | warm a =>
    obtain ⟨qs, qa, hv, ⟨_, h1⟩, ⟨_, h2⟩⟩ := hv
    refine ⟨_, _, (by decide), hv, (undo_warm s1 h.m4 hc h1 h2).mono ?_⟩
    rintro e w' ⟨rfl, hm, hf⟩
    have hj := fun j (h1 : j ≤ 6) (h2 : j ≠ 4) => hf.block (b + j) (by omega) (by omega)
    have st' : stA w' b lg un := (hj 6 (by omega) (by omega)).trans s1
    obtain ⟨es4, cl4, hm4⟩ := h.m4.isMap
    have hrl' : w'.ownsRow 0 43 3 lg (lgF R).length (lgC (lgF R)) := ownsRow_same hrl fun k hk => by
      obtain ⟨cs, h3⟩ := row_block hrl hk
      exact hf.block k (h.flt k (hlgF k hk)) (map_ne h3 hm4)
    have fl : ∀ k, F k → k < w'.heap.size := fun k hk => Nat.lt_of_lt_of_le (h.flt k hk) hf.size
    have fr : Fr (fun j => b ≤ j ∧ j ≤ b + 6) w w' := hf.mono fun j hj => by omega
    refine ⟨rfl, ⟨fl, h.fb, ⟨lg, st', hrl', hlgF⟩, (h.m0.at_block (hj 0 (by omega) (by omega))).mono (by omega), (h.m1.at_block (hj 1 (by omega) (by omega))).mono (by omega), (h.m2.at_block (hj 2 (by omega) (by omega))).mono (by omega), (h.m3.at_block (hj 3 (by omega) (by omega))).mono (by omega), ?_, (h.m5.at_block (hj 5 (by omega) (by omega))).mono (by omega)⟩, fr⟩
    refine (hm.mono (by omega)).ext fun q _ => ?_
    have hw : wmF R a = false := hw
    by_cases e : q = a
    · simp [e, hw]
    · simp [wmF, e]
  | cell p =>
    obtain ⟨qs, qa, hv, ⟨_, h1⟩, ⟨_, h2⟩⟩ := hv
    refine ⟨_, _, (by decide), hv, (undo_cell s1 h.m5 hc h1 h2).mono ?_⟩
    rintro e w' ⟨rfl, hm, hf⟩
    have hj := fun j (h1 : j ≤ 6) (h2 : j ≠ 5) => hf.block (b + j) (by omega) (by omega)
    have st' : stA w' b lg un := (hj 6 (by omega) (by omega)).trans s1
    obtain ⟨es4, cl4, hm4⟩ := h.m5.isMap
    have hrl' : w'.ownsRow 0 43 3 lg (lgF R).length (lgC (lgF R)) := ownsRow_same hrl fun k hk => by
      obtain ⟨cs, h3⟩ := row_block hrl hk
      exact hf.block k (h.flt k (hlgF k hk)) (map_ne h3 hm4)
    have fl : ∀ k, F k → k < w'.heap.size := fun k hk => Nat.lt_of_lt_of_le (h.flt k hk) hf.size
    have fr : Fr (fun j => b ≤ j ∧ j ≤ b + 6) w w' := hf.mono fun j hj => by omega
    refine ⟨rfl, ⟨fl, h.fb, ⟨lg, st', hrl', hlgF⟩, (h.m0.at_block (hj 0 (by omega) (by omega))).mono (by omega), (h.m1.at_block (hj 1 (by omega) (by omega))).mono (by omega), (h.m2.at_block (hj 2 (by omega) (by omega))).mono (by omega), (h.m3.at_block (hj 3 (by omega) (by omega))).mono (by omega), (h.m4.at_block (hj 4 (by omega) (by omega))).mono (by omega), ?_⟩, fr⟩
    refine (hm.mono (by omega)).ext fun q _ => ?_
    have hw : ceF R p = false := hw
    by_cases e : q = p
    · simp [e, hw]
    · simp [ceF, e]
  | note l =>
    obtain ⟨qs, qa, hv, ⟨_, h1⟩, ⟨_, h2⟩⟩ := hv
    have hlen : (lgF (.note l :: R)).length = (lgF R).length + 1 := by
      show (lgF R ++ [l]).length = _
      simp
    have hxs : lgC (lgF (.note l :: R)) = lgC (lgF R) ++ l.c := by
      show (lgF R ++ [l]).flatMap Lg.c = _
      rw [List.flatMap_append]
      simp [lgC]
    rw [hlen, hxs] at hrl
    obtain ⟨g, cap, rfl⟩ : ∃ g cap, lg = .slice (some ⟨g, 0, none⟩) ((lgF R).length + 1) cap := by
      rcases hrl.2 with ⟨_, h0⟩ | ⟨g, cap, _, h0, _⟩
      · omega
      · exact ⟨g, cap, h0⟩
    have hcap : (lgF R).length ≤ cap := by
      rcases hrl.2 with ⟨_, h0⟩ | ⟨g2, cap2, _, h0, _, _, h3, _⟩
      · omega
      · simp only [Value.slice.injEq] at h0
        omega
    refine ⟨_, _, (by decide), hv, (undo_log s1 hcap h1 h2).mono ?_⟩
    rintro e w' ⟨rfl, st', hf⟩
    have hj := fun j (h1 : j ≤ 5) => hf.block (b + j) (by omega) (by omega)
    have fl : ∀ k, F k → k < w'.heap.size := fun k hk => Nat.lt_of_lt_of_le (h.flt k hk) hf.size
    refine ⟨rfl, ⟨fl, h.fb, ⟨_, st', ?_, fun k hk => hlgF k hk⟩, (h.m0.at_block (hj 0 (by omega))).mono (by omega), (h.m1.at_block (hj 1 (by omega))).mono (by omega), (h.m2.at_block (hj 2 (by omega))).mono (by omega), (h.m3.at_block (hj 3 (by omega))).mono (by omega), (h.m4.at_block (hj 4 (by omega))).mono (by omega), (h.m5.at_block (hj 5 (by omega))).mono (by omega)⟩, hf.mono fun j hj => by omega⟩
    have h6 : w.heap[b + 6]? = _ := s1
    refine ownsRow_same (ownsRow_take hrl (lgC_length _) (by omega)) fun k hk => ?_
    obtain ⟨cs, h3⟩ := row_block hrl hk
    exact hf.block k (Array.getElem?_eq_some_iff.1 h3).1 (block_ne h3 h6 (by decide))
end Go.Proofs.YtcdjdnbdblpofaaDoor

/- Back: its contract. Conditions: the state is one. -/
namespace Go.Proofs.YtcdjdnbdblpofaaDoor
open Go.RowKit Go.Maps
attribute [local go_sem] leftBy leaves Oper.semAt_some
set_option linter.unusedSimpArgs false
set_option linter.unusedVariables false

/-- A list of functions vs stands behind a. -/
def fnL (W : World) (a : Option Addr) (vs : List Value) : Prop := ∀ i v, vs[i]? = some v → ∃ bl o, a = some ⟨bl, o, none⟩ ∧ W.cell? ⟨bl, o + i, none⟩ = some v

set_option maxRecDepth 100000 in
set_option maxHeartbeats 8000000 in
/-- The iterator over a list of functions, from behind. -/
theorem back_fs (n : Nat) (hn : 1 ≤ n) (l Bx : Nat) (a : Option Addr) (c : Nat) (vs : List Value) (hlen : vs.length ≤ 1000000) (J : Nat → World → Prop) (W : World)
    (hY : ∀ k W1 v, J k W1 → k < vs.length → vs[vs.length - 1 - k]? = some v → YieldAt (FW none) (n - 1) Tryd.prog l #[.int .i64 (vs.length - 1 - k : Nat), v] W1 fun e W' => e = .returned (.bool true) ∧ J (k + 1) W' ∧ True)
    (hB : ∀ k W1, J k W1 → W1.cell? ⟨Bx, 0, none⟩ = some (.slice a vs.length c) ∧ fnL W1 a vs) (h0 : J 0 W) :
    CallsIn (FW none) n Tryd.prog 69 #[.func (.yield l) #[] #[], ptr Bx] W fun e W' => (∃ v, e = .returned v) ∧ J vs.length W' := by
  obtain ⟨hB0, _⟩ := hB 0 W h0
  have hc3 : vs.length ≤ 9223372036854775807 := by omega
  unfold ptr
  refine callsIn_of_wp Tryd.func69 rfl trivial ?_ rfl
  simp only [Tryd.ntmps69, List.size_toArray, List.length_cons, List.length_nil, Nat.reduceAdd, Nat.reduceSub, Array.replicate_succ, Array.replicate_zero, List.push_toArray, List.append_toArray, List.nil_append, List.cons_append]
  gi_wp2
  gi_loopw [3] (fun x wr => (∃ k i : Nat, k + i + 1 = vs.length ∧ x = .int .i64 (i : Nat) ∧ J k wr) ∨ (x = .int .i64 (-1) ∧ J vs.length wr)) (fun x _ => (intOf x + 1).toNat)
  case atStart =>
    by_cases hz : vs.length = 0
    · exact .inr ⟨by rw [hz]; go_num, hz ▸ h0⟩
    · exact .inl ⟨0, vs.length - 1, by omega, by go_num, h0⟩
  case round =>
    rcases hrel with ⟨k, i, hki, rfl, hJ⟩ | ⟨rfl, hJ⟩
    · obtain ⟨hBk, hK⟩ := hB k wr hJ
      have hLi : vs[i]? = some vs[i] := List.getElem?_eq_getElem (by omega)
      obtain ⟨bl, o, rfl, g0⟩ := hK i _ hLi
      clear hK
      obtain ⟨fn, tmps, assign, body, hy, hR⟩ := hY k wr vs[i] hJ (by omega) (by rw [show vs.length - 1 - k = i by omega]; exact hLi)
      rw [show vs.length - 1 - k = i by omega] at hy
      clear hLi
      generalize vs[i] = u at *
      gi_wp2
      refine hR.mono ?_
      rintro e W3 ⟨rfl, hJ3, _⟩
      gi_wp2
      go_roundw
      case rel =>
        rcases i with _ | i
        · exact .inr ⟨by go_num, by rw [← hki]; exact hJ3⟩
        · exact .inl ⟨k + 1, i, by omega, by go_num, hJ3⟩
      case measure => simp [intOf]
    · gi_wp2
      go_end0
      exact ⟨⟨_, rfl⟩, hJ⟩

/-- Every change is one that a call has made. -/
def Rok (L : List Kw) : List Chg → Prop
  | [] => True
  | c :: R => c.ok ∧ c.kn L ∧ c.new R ∧ Rok L R
theorem Rok.drop {L : List Kw} : ∀ {R : List Chg} (k : Nat), Rok L R → Rok L (R.drop k)
  | _, 0, h => h
  | [], k + 1, h => h
  | c :: R, k + 1, h => Rok.drop k h.2.2.2
theorem unL.drop {W : World} {F : Nat → Prop} {b : Nat} : ∀ {R : List Chg} {xs : List Value} (k : Nat), unL W F b R xs → unL W F b (R.drop k) (xs.take (xs.length - k))
  | R, xs, 0, h => by simpa using h
  | [], xs, k + 1, h => by cases h; simp [unL]
  | c :: R, xs, k + 1, ⟨ys, v, hx, h1, h2⟩ => by
    subst hx
    have := unL.drop k h2
    rw [List.drop_succ_cons, List.length_append, List.length_singleton, show ys.length + 1 - (k + 1) = ys.length - k by omega, List.take_append_of_le_length (by omega)]
    exact this
/-- Between two rounds of Back. -/
structure bkJ (w0 : World) (F : Nat → Prop) (b N : Nat) (L : List Kw) (R : List Chg) (un : Value) (xs : List Value) (k : Nat) (X : World) : Prop where
  fr : Fr (fun j => b ≤ j ∧ j ≤ b + 6) w0 X
  rep : CRep X F b (N + 2 * k) L (R.drop k) un
  und : unL X F b (R.drop k) (xs.take (xs.length - k))
theorem Boxes.back {F : Nat → Prop} {b N : Nat} {L : List Kw} {R : List Chg} {un : Value} {w w' : World} (h : CRep w F b N L R un) (hf : Fr (fun j => b ≤ j ∧ j ≤ b + 6) w w') : Boxes F w w' := fun q cs t ht hq he => by
  refine (hf.block q (h.flt q hq) fun hj => ?_).trans he
  obtain ⟨lg, s1, _⟩ := h.st
  have h6 : w.heap[b + 6]? = _ := s1
  have hm : ∀ j, j ≤ 5 → q ≠ b + j := fun j hj => by
    have : ∃ es cl, w.heap[b + j]? = some (.map es cl) := by
      rcases (by omega : j = 0 ∨ j = 1 ∨ j = 2 ∨ j = 3 ∨ j = 4 ∨ j = 5) with rfl | rfl | rfl | rfl | rfl | rfl
      · exact h.m0.isMap
      · exact h.m1.isMap
      · exact h.m2.isMap
      · exact h.m3.isMap
      · exact h.m4.isMap
      · exact h.m5.isMap
    obtain ⟨es, cl, hm⟩ := this
    exact map_ne he hm
  have h66 : q ≠ b + 6 := block_ne he h6 (fun e => by subst e; exact absurd ht (by decide))
  have := hm (q - b)
  omega
/-- One round. -/
theorem bkJ.round {w0 X : World} {F : Nat → Prop} {b N : Nat} {L : List Kw} {R : List Chg} {un v : Value} {xs : List Value} {k : Nat} (h : bkJ w0 F b N L R un xs k X) (hN : N + 2 * R.length ≤ 1000000) (hok : Rok L R) (hL : ∀ K ∈ L, K.ba < Q256) (hk : k < R.length) (hxs : xs.length = R.length) (hv : xs[xs.length - 1 - k]? = some v) :
    ∃ f bs, (f = 59 ∨ f = 55 ∨ f = 41 ∨ f = 42 ∨ f = 39) ∧ v = .func (.func f) #[] bs ∧ Calls Tryd.prog f bs X fun e X' => e = .returned (.tuple #[]) ∧ Fr (fun j => b ≤ j ∧ j ≤ b + 6) X X' ∧ bkJ w0 F b N L R un xs (k + 1) X' := by
  obtain ⟨hf, hC, hu⟩ := h
  have hokd := hok.drop k
  have hd : R.drop k = R[k] :: R.drop (k + 1) := List.drop_eq_getElem_cons hk
  have hu1 := unL.drop 1 hu
  rw [hd] at hC hu hokd
  obtain ⟨ys, v', he, h1, h2⟩ := hu
  obtain rfl : v' = v := by
    have : (xs.take (xs.length - k))[xs.length - 1 - k]? = some v := by
      rw [List.getElem?_take, if_pos (by omega)]
      exact hv
    have hyl : ys.length = xs.length - 1 - k := by
      have := congrArg List.length he
      simp at this
      omega
    rw [he, List.getElem?_append_right (by omega), hyl, Nat.sub_self] at this
    simpa using this
  obtain ⟨f, bs, hfs, hv', hcall⟩ := undo_one hC (by omega) hokd.1 hokd.2.1 hokd.2.2.1 hL h1
  refine ⟨f, bs, hfs, hv', hcall.mono ?_⟩
  rintro e X' ⟨rfl, hC', hf'⟩
  refine ⟨rfl, hf', hf.trans hf', hC'.mono (fun _ h => h) (fun j hj => hC'.flt j hj) (by omega), ?_⟩
  have hys : xs.take (xs.length - (k + 1)) = ys := by
    have hyl : ys.length = xs.length - (k + 1) := by
      have := congrArg List.length he
      simp at this
      omega
    have e2 : xs.take (xs.length - (k + 1)) = (xs.take (xs.length - k)).take (xs.length - (k + 1)) := by
      rw [List.take_take, Nat.min_eq_left (by omega)]
    rw [e2, he, ← hyl, List.take_left']
    rfl
  rw [hys]
  exact h2.stays (Boxes.back hC hf') fun _ h => h
end Go.Proofs.YtcdjdnbdblpofaaDoor

/- Back: its contract. Conditions: the state is one. -/
namespace Go.Proofs.YtcdjdnbdblpofaaDoor
open Go.RowKit Go.Maps
attribute [local go_sem] leftBy leaves Oper.semAt_some
set_option linter.unusedSimpArgs false
set_option linter.unusedVariables false

section
variable {W : World} {F : Nat → Prop} {b N : Nat} {L : List Kw} {R : List Chg}

/-- What is undone, behind m. -/
theorem fnL_drop {w : World} {g cap n m : Nat} {xs : List Value} (h : w.ownsRow 0 1 1 (.slice (some ⟨g, 0, none⟩) n cap) n xs) : fnL w (some ⟨g, m, none⟩) (xs.drop m) := by
  intro i v hi
  rw [List.getElem?_drop] at hi
  have hlt := (List.getElem?_eq_some_iff.1 hi).1
  have hl := h.1
  refine ⟨g, m, rfl, ?_⟩
  rw [h.cellAt (m + i) (by omega)]
  exact hi

theorem CRep.off {F : Nat → Prop} {b N : Nat} {L : List Kw} {R : List Chg} {un : Value} {w : World} (h : CRep w F b N L R un) {q : Nat} {cs : Array Value} {t : TypeId} {f : Nat × Nat} (he : w.heap[q]? = some (.cells cs t f)) (ht : t ≠ 73) : ¬ (b ≤ q ∧ q ≤ b + 6) := fun hj => by
  obtain ⟨lg, s1, _⟩ := h.st
  have h6 : w.heap[b + 6]? = _ := s1
  have hm : ∀ j, j ≤ 5 → q ≠ b + j := fun j hj => by
    have : ∃ es cl, w.heap[b + j]? = some (.map es cl) := by
      rcases (by omega : j = 0 ∨ j = 1 ∨ j = 2 ∨ j = 3 ∨ j = 4 ∨ j = 5) with rfl | rfl | rfl | rfl | rfl | rfl
      · exact h.m0.isMap
      · exact h.m1.isMap
      · exact h.m2.isMap
      · exact h.m3.isMap
      · exact h.m4.isMap
      · exact h.m5.isMap
    obtain ⟨es, cl, hm⟩ := this
    exact map_ne he hm
  have h66 : q ≠ b + 6 := block_ne he h6 ht
  have := hm (q - b)
  omega
theorem bkJ.same {w0 X Y : World} {F : Nat → Prop} {b N : Nat} {L : List Kw} {R : List Chg} {un : Value} {xs : List Value} {k : Nat} (h : bkJ w0 F b N L R un xs k X) (hs : X.heap.size ≤ Y.heap.size) (hf : Fr (fun j => b ≤ j ∧ j ≤ b + 6) w0 Y) (hb : ∀ q, F q → Y.heap[q]? = X.heap[q]?) : bkJ w0 F b N L R un xs k Y :=
  ⟨hf, h.rep.same hs hb, h.und.stays (.of hb) fun _ h => h⟩
theorem bkJ.below {w0 X Y : World} {F : Nat → Prop} {b N : Nat} {L : List Kw} {R : List Chg} {un : Value} {xs : List Value} {k : Nat} (h : bkJ w0 F b N L R un xs k X) (hb : Below X.heap.size X Y) : bkJ w0 F b N L R un xs k Y :=
  h.same hb.size (h.fr.below hb) fun q hq => hb.block q (h.rep.flt q hq)
theorem bkJ.turned {w0 X Y : World} {F : Nat → Prop} {b N l : Nat} {L : List Kw} {R : List Chg} {un : Value} {xs : List Value} {k : Nat} (h : bkJ w0 F b N L R un xs k X) (hF : ∀ q, F q → q < w0.heap.size) (hl : w0.heap.size ≤ l) (ht : recTurned l X Y) : bkJ w0 F b N L R un xs k Y :=
  h.same (by
    obtain ⟨o, o', h1, h2, rfl⟩ := ht
    exact (grownBy_putObj' X l o').size) (h.fr.turned hl ht) fun q hq => ht.other (by have := hF q hq; omega)

/-- The state behind Back. -/
theorem back_done {w0 X X' : World} {F : Nat → Prop} {b N g m cap D1 : Nat} {L : List Kw} {R : List Chg} {xs : List Value} (hJ : bkJ w0 F b N L R (.slice (some ⟨g, 0, none⟩) R.length cap) xs (R.length - m) X) (hrow : W.ownsRow 0 1 1 (.slice (some ⟨g, 0, none⟩) R.length cap) R.length xs) (hgF : F g)
    (hgn : ¬ (b ≤ g ∧ g ≤ b + 6)) (hfl : ∀ k, F k → k < W.heap.size) (hb : Below W.heap.size W w0) (hxl : xs.length = R.length) (hm : m ≤ R.length) (hD : w0.heap.size ≤ D1) (ht : recTurned D1 (X.setCell ⟨b + 6, 7, none⟩ (.slice (some ⟨g, 0, none⟩) m cap)) X') :
    ∃ F', SRep X' F' b (N + 2 * R.length) L (R.drop (R.length - m)) ∧ Fr F W X' ∧ (∀ k, F k → F' k) ∧ ∀ k, F' k → F k ∨ W.heap.size ≤ k := by
  have hC := hJ.rep
  obtain ⟨lg2, t1, t2, t3⟩ := hC.st
  have h6 : X.heap[b + 6]? = _ := t1
  have hbs := hb.size
  have hsz : X.heap.size ≤ X'.heap.size := by
    obtain ⟨o, o', h1, h2, rfl⟩ := ht
    exact Nat.le_trans (by simp) (grownBy_putObj' _ D1 o').size
  have same : ∀ k, F k → k ≠ b + 6 → X'.heap[k]? = X.heap[k]? := fun k hk hn => (ht.other (by have := hfl k hk; omega)).trans (Below.heap_setCell _ _ _ _ (by simpa using hn))
  have hB : Boxes F X X' := fun q cs t ht' hq he => (same q hq (block_ne he h6 (fun e => by subst e; exact absurd ht' (by decide)))).trans he
  have hj := fun j (h : j ≤ 5) => same (b + j) (hC.fb j (by omega)) (by omega)
  have hgl := hfl g hgF
  have hg : X'.heap[g]? = W.heap[g]? := (same g hgF (by omega)).trans ((hJ.fr.block g (by omega) hgn).trans (hb.block g hgl))
  refine ⟨F, ⟨.slice (some ⟨g, 0, none⟩) m cap, ⟨fun k hk => Nat.lt_of_lt_of_le (hC.flt k hk) hsz, hC.fb, ⟨lg2, ?_, ownsRow_same t2 fun k hk => ?_, t3⟩, (hC.m0.at_block (hj 0 (by omega))).mono (by omega), (hC.m1.at_block (hj 1 (by omega))).mono (by omega), (hC.m2.at_block (hj 2 (by omega))).mono (by omega), (hC.m3.at_block (hj 3 (by omega))).mono (by omega), (hC.m4.at_block (hj 4 (by omega))).mono (by omega), (hC.m5.at_block (hj 5 (by omega))).mono (by omega)⟩, xs.take m, ?_, fun k hk => ?_, ?_⟩, ?_, fun _ h => h, fun _ h => .inl h⟩
  · exact (ht.other (by have := hfl _ (hC.fb 6 (by omega)); omega)).trans (t1.set _)
  · obtain ⟨cs, h3⟩ := row_block t2 hk
    exact same k (t3 k hk) (block_ne h3 h6 (by decide))
  · rw [List.length_drop, show R.length - (R.length - m) = m by omega]
    refine ownsRow_take (n := R.length) (ys := xs.drop m) ?_ (by rw [List.length_take]; omega) hm
    rw [List.take_append_drop]
    refine ownsRow_same hrow fun k hk => ?_
    obtain rfl : g = k := Option.some.inj hk
    exact hg
  · obtain rfl : g = k := Option.some.inj hk
    exact hgF
  · have := hJ.und
    rw [show xs.length - (R.length - m) = m by omega] at this
    exact this.stays hB fun _ h => h
  · have h1 : Fr F W X := ((Fr.refl F W).below hb).trans (hJ.fr.mono fun j hj => by
      have := hC.fb (j - b) (by omega)
      rwa [show b + (j - b) = j by omega] at this)
    exact (h1.setCell (p := ⟨b + 6, 7, none⟩) (.inl (hC.fb 6 (by omega))) _).turned (by omega) ht

set_option maxRecDepth 100000 in
set_option maxHeartbeats 16000000 in
theorem Back_own {g cap : Nat} {xs : List Value} (hC : CRep W F b N L R (.slice (some ⟨g, 0, none⟩) R.length cap)) (hrow : W.ownsRow 0 1 1 (.slice (some ⟨g, 0, none⟩) R.length cap) R.length xs) (hunF : ∀ k, (Value.slice (some ⟨g, 0, none⟩) R.length cap).ownBlock = some k → F k) (hxs : unL W F b R xs)
    (hN : N + 2 * R.length ≤ 1000000) (hok : Rok L R) (hL : ∀ K ∈ L, K.ba < Q256) (m : Nat) (hm : m ≤ R.length) :
    Calls Tryd.prog 31 #[ptr (b + 6), .int .i64 m] W (muPost W F b (N + 2 * R.length) L (R.drop (R.length - m)) (.int .i64 0)) := by
  have hfl := hC.flt
  obtain ⟨lg, s1, hrl, hlgF⟩ := hC.st
  have hxl := hxs.length
  have hcap : R.length ≤ cap ∧ cap ≤ maxLen := by
    rcases hrow.2 with ⟨h0, _⟩ | ⟨g2, cap2, _, h0, _, _, h3, h4, _⟩
    · cases h0
    · simp only [Value.slice.injEq] at h0
      omega
  have hlt := s1.lt
  obtain ⟨hgl, hgne⟩ : g < W.heap.size ∧ ¬ (b ≤ g ∧ g ≤ b + 6) := by
    obtain ⟨cs, h3⟩ := row_block hrow (k := g) rfl
    exact ⟨(Array.getElem?_eq_some_iff.1 h3).1, hC.off h3 (by decide)⟩
  obtain ⟨_, _, _, _, _, _, _, d7, ff⟩ := s1.cells
  unfold maxLen at hcap
  unfold ptr
  refine calls_FW (n := 9) ?_
  refine callsIn_of_wp_marks Tryd.func31 rfl trivial ?_ rfl
  simp only [Tryd.ntmps31, List.size_toArray, List.length_cons, List.length_nil, Nat.reduceAdd, Nat.reduceSub, Array.replicate_succ, Array.replicate_zero, List.push_toArray, List.append_toArray, List.nil_append, List.cons_append]
  gi_wp2_with (gi_at_call 52; refine (callsIn_FW (Backward_func _ _ ⟨_, _, _, rfl⟩)).mono ?_; rintro e w' ⟨rfl, rfl⟩)
  · have z0 : (W.alloc (.cells #[.slice (some ⟨g, 0, none⟩) (R.length - m) 0] 71)).heap.size = W.heap.size + 1 := by simp
    have bB : Below W.heap.size W (W.alloc (.cells #[.slice (some ⟨g, 0, none⟩) (R.length - m) 0] 71)) := (Below.refl _ W).alloc (Nat.le_refl _) _
    have h1 : (W.alloc (.cells #[.slice (some ⟨g, 0, none⟩) (R.length - m) 0] 71)).heap[W.heap.size]? = some (.cells #[.slice (some ⟨g, 0, none⟩) (R.length - m) 0] 71 (0, 0)) := heap_new rfl
    have hfn : fnL W (some ⟨g, 0, none⟩) (xs.drop m) := (by rw [List.drop_eq_nil_of_le (by omega)]; intro i v hi; simp at hi)
    have hJ0 : bkJ (W.alloc (.cells #[.slice (some ⟨g, 0, none⟩) (R.length - m) 0] 71)) F b N L R (.slice (some ⟨g, 0, none⟩) R.length cap) xs 0 (W.alloc (.cells #[.slice (some ⟨g, 0, none⟩) (R.length - m) 0] 71)) :=
      ⟨Fr.refl _ _, hC.same (by simp) (fun k hk => bB.block k (hfl k hk)), by
        rw [Nat.sub_zero, List.take_length]
        exact hxs.stays (.of fun k hk => bB.block k (hfl k hk)) fun _ h => h⟩
    generalize W.alloc (.cells #[.slice (some ⟨g, 0, none⟩) (R.length - m) 0] 71) = w0 at *
    replace z0 := Nat.le_of_eq z0.symm
    have hvl : (xs.drop m).length = R.length - m := by rw [List.length_drop, hxl]
    refine wpIn_rangeFunc_list (by omega) (gf := 69) (lb := #[.pointer (some ⟨W.heap.size, 0, none⟩)]) rfl trivial (enters_of Tryd.func69 (by kernel_rfl) rfl)
      (R.length - m) (fun k => #[.int .i64 (R.length - m - 1 - k : Nat), (xs.drop m).getD (R.length - m - 1 - k) .nilFunc]) (fun _ => rfl) (fun _ _ => True) (bkJ w0 F b N L R (.slice (some ⟨g, 0, none⟩) R.length cap) xs) ?_ ?_ (fun _ _ _ _ _ => trivial) (fun _ _ _ => trivial) (fun _ _ _ _ _ => trivial) hJ0 ?hiter ?hround ?hdone
    · exact fun k X Y h hb => h.below hb
    · exact fun k l X Y h hl ht => h.turned (fun q hq => Nat.lt_of_lt_of_le (hfl q hq) bB.size) hl ht
    case hiter =>
      intro l J X hJI hJb hY hJ0 hbX
      have := back_fs 8 (by omega) l W.heap.size (some ⟨g, 0, none⟩) 0 (xs.drop m) (by omega) J X (fun k Y v hJ hk hv => by
        have := hY k Y hJ (by omega)
        rw [hvl] at hv ⊢
        rw [List.getD_eq_getElem?_getD, hv] at this
        exact this) (fun k Y hJ => by
        have hI := hJI k Y hJ
        have h1' := (hI.fr.block W.heap.size (by omega) (by omega)).trans h1
        refine ⟨by simp [World.cell?, h1', hvl], fun i v hi => ?_⟩
        obtain ⟨bl, o, e, hc⟩ := hfn i v hi
        cases e
        exact ⟨_, _, rfl, hI.fr.cell ((bB.cell (p := ⟨g, _, none⟩) hgl).trans hc) hgne (by omega)⟩) hJ0
      rw [hvl] at this
      exact this
    case hround =>
      intro l k X hl hI hk
      omega
    case hdone =>
      obtain rfl : m = cap := by omega
      have edr : R.drop (R.length - m) = R := by rw [show R.length - m = 0 by omega]; rfl
      intro D1 X hD hI hd
      have hXs := hI.fr.size
      obtain ⟨lg2, t1, t2, t3⟩ := hI.rep.st
      obtain ⟨_, _, _, _, _, _, _, e7, ee⟩ := t1.cells
      have hbs := bB.size
      have hd' : (X.setCell ⟨b + 6, 7, none⟩ (.slice (some ⟨g, 0, none⟩) m m)).heap[D1]? = some (.deferred (some [])) := (Below.heap_setCell _ _ _ _ (by simp; omega)).trans hd
      clear t2 t3
      gi_wp2
      refine ⟨by simp, .inl ⟨_, _, rfl, run_takeDeferred hd', ?_⟩⟩
      have fin := back_done (D1 := D1) (X' := (X.setCell ⟨b + 6, 7, none⟩ (.slice (some ⟨g, 0, none⟩) m m)).putObj D1 (.deferred none)) hI hrow (hunF g rfl) hgne hfl bB hxl hm (by omega) ⟨_, _, hd', rfl, rfl⟩
      rw [edr] at fin
      exact ⟨_, results_tmp rfl _ _ _, rfl, fin⟩
  · have z0 : (W.alloc (.cells #[.slice (some ⟨g, m, none⟩) (R.length - m) (cap - m)] 71)).heap.size = W.heap.size + 1 := by simp
    have bB : Below W.heap.size W (W.alloc (.cells #[.slice (some ⟨g, m, none⟩) (R.length - m) (cap - m)] 71)) := (Below.refl _ W).alloc (Nat.le_refl _) _
    have h1 : (W.alloc (.cells #[.slice (some ⟨g, m, none⟩) (R.length - m) (cap - m)] 71)).heap[W.heap.size]? = some (.cells #[.slice (some ⟨g, m, none⟩) (R.length - m) (cap - m)] 71 (0, 0)) := heap_new rfl
    have hfn : fnL W (some ⟨g, m, none⟩) (xs.drop m) := fnL_drop hrow
    have hJ0 : bkJ (W.alloc (.cells #[.slice (some ⟨g, m, none⟩) (R.length - m) (cap - m)] 71)) F b N L R (.slice (some ⟨g, 0, none⟩) R.length cap) xs 0 (W.alloc (.cells #[.slice (some ⟨g, m, none⟩) (R.length - m) (cap - m)] 71)) :=
      ⟨Fr.refl _ _, hC.same (by simp) (fun k hk => bB.block k (hfl k hk)), by
        rw [Nat.sub_zero, List.take_length]
        exact hxs.stays (.of fun k hk => bB.block k (hfl k hk)) fun _ h => h⟩
    generalize W.alloc (.cells #[.slice (some ⟨g, m, none⟩) (R.length - m) (cap - m)] 71) = w0 at *
    replace z0 := Nat.le_of_eq z0.symm
    have hvl : (xs.drop m).length = R.length - m := by rw [List.length_drop, hxl]
    refine wpIn_rangeFunc_list (by omega) (gf := 69) (lb := #[.pointer (some ⟨W.heap.size, 0, none⟩)]) rfl trivial (enters_of Tryd.func69 (by kernel_rfl) rfl)
      (R.length - m) (fun k => #[.int .i64 (R.length - m - 1 - k : Nat), (xs.drop m).getD (R.length - m - 1 - k) .nilFunc]) (fun _ => rfl) (fun _ _ => True) (bkJ w0 F b N L R (.slice (some ⟨g, 0, none⟩) R.length cap) xs) ?_ ?_ (fun _ _ _ _ _ => trivial) (fun _ _ _ => trivial) (fun _ _ _ _ _ => trivial) hJ0 ?hiter ?hround ?hdone
    · exact fun k X Y h hb => h.below hb
    · exact fun k l X Y h hl ht => h.turned (fun q hq => Nat.lt_of_lt_of_le (hfl q hq) bB.size) hl ht
    case hiter =>
      intro l J X hJI hJb hY hJ0 hbX
      have := back_fs 8 (by omega) l W.heap.size (some ⟨g, m, none⟩) (cap - m) (xs.drop m) (by omega) J X (fun k Y v hJ hk hv => by
        have := hY k Y hJ (by omega)
        rw [hvl] at hv ⊢
        rw [List.getD_eq_getElem?_getD, hv] at this
        exact this) (fun k Y hJ => by
        have hI := hJI k Y hJ
        have h1' := (hI.fr.block W.heap.size (by omega) (by omega)).trans h1
        refine ⟨by simp [World.cell?, h1', hvl], fun i v hi => ?_⟩
        obtain ⟨bl, o, e, hc⟩ := hfn i v hi
        cases e
        exact ⟨_, _, rfl, hI.fr.cell ((bB.cell (p := ⟨g, _, none⟩) hgl).trans hc) hgne (by omega)⟩) hJ0
      rw [hvl] at this
      exact this
    case hround =>
      intro l k X hl hI hk
      obtain ⟨v, hv⟩ : ∃ v, xs[xs.length - 1 - k]? = some v := ⟨_, List.getElem?_eq_getElem (by omega)⟩
      have hgd : (xs.drop m).getD (R.length - m - 1 - k) .nilFunc = v := by
        rw [List.getD_eq_getElem?_getD, List.getElem?_drop, show m + (R.length - m - 1 - k) = xs.length - 1 - k by omega, hv]
        rfl
      rw [hgd]
      clear hgd
      gi_wp2
      refine ⟨Below.refl _ _, fun W2 ht => ?_⟩
      have hI2 := hI.turned (fun q hq => Nat.lt_of_lt_of_le (hfl q hq) bB.size) hl ht
      obtain ⟨f, bs, hfs, rfl, hcall⟩ := hI2.round hN hok hL (by omega) hxl hv
      have hs2 := hI2.fr.size
      rcases hfs with rfl | rfl | rfl | rfl | rfl
      · gi_wp2_with (gi_at_call 59; refine (callsIn_FW hcall).mono ?_; rintro e w' ⟨rfl, hf', hJ'⟩)
        first | exact ⟨⟨hf'.size, fun j o hj1 hj2 _ => (hf'.block j (Array.getElem?_eq_some_iff.1 hj2).1 (by omega)).trans hj2⟩, hJ'⟩ | exact ⟨hf'.size, fun j o hj1 hj2 _ => (hf'.block j (Array.getElem?_eq_some_iff.1 hj2).1 (by omega)).trans hj2⟩
      · gi_wp2_with (gi_at_call 55; refine (callsIn_FW hcall).mono ?_; rintro e w' ⟨rfl, hf', hJ'⟩)
        first | exact ⟨⟨hf'.size, fun j o hj1 hj2 _ => (hf'.block j (Array.getElem?_eq_some_iff.1 hj2).1 (by omega)).trans hj2⟩, hJ'⟩ | exact ⟨hf'.size, fun j o hj1 hj2 _ => (hf'.block j (Array.getElem?_eq_some_iff.1 hj2).1 (by omega)).trans hj2⟩
      · gi_wp2_with (gi_at_call 41; refine (callsIn_FW hcall).mono ?_; rintro e w' ⟨rfl, hf', hJ'⟩)
        first | exact ⟨⟨hf'.size, fun j o hj1 hj2 _ => (hf'.block j (Array.getElem?_eq_some_iff.1 hj2).1 (by omega)).trans hj2⟩, hJ'⟩ | exact ⟨hf'.size, fun j o hj1 hj2 _ => (hf'.block j (Array.getElem?_eq_some_iff.1 hj2).1 (by omega)).trans hj2⟩
      · gi_wp2_with (gi_at_call 42; refine (callsIn_FW hcall).mono ?_; rintro e w' ⟨rfl, hf', hJ'⟩)
        first | exact ⟨⟨hf'.size, fun j o hj1 hj2 _ => (hf'.block j (Array.getElem?_eq_some_iff.1 hj2).1 (by omega)).trans hj2⟩, hJ'⟩ | exact ⟨hf'.size, fun j o hj1 hj2 _ => (hf'.block j (Array.getElem?_eq_some_iff.1 hj2).1 (by omega)).trans hj2⟩
      · gi_wp2_with (gi_at_call 39; refine (callsIn_FW hcall).mono ?_; rintro e w' ⟨rfl, hf', hJ'⟩)
        first | exact ⟨⟨hf'.size, fun j o hj1 hj2 _ => (hf'.block j (Array.getElem?_eq_some_iff.1 hj2).1 (by omega)).trans hj2⟩, hJ'⟩ | exact ⟨hf'.size, fun j o hj1 hj2 _ => (hf'.block j (Array.getElem?_eq_some_iff.1 hj2).1 (by omega)).trans hj2⟩
    case hdone =>
      intro D1 X hD hI hd
      have hXs := hI.fr.size
      obtain ⟨lg2, t1, t2, t3⟩ := hI.rep.st
      obtain ⟨_, _, _, _, _, _, _, e7, ee⟩ := t1.cells
      have hbs := bB.size
      have hd' : (X.setCell ⟨b + 6, 7, none⟩ (.slice (some ⟨g, 0, none⟩) m cap)).heap[D1]? = some (.deferred (some [])) := (Below.heap_setCell _ _ _ _ (by simp; omega)).trans hd
      clear t2 t3
      gi_wp2
      refine ⟨by simp, .inl ⟨_, _, rfl, run_takeDeferred hd', ?_⟩⟩
      exact ⟨_, results_tmp rfl _ _ _, rfl, back_done hI hrow (hunF g rfl) hgne hfl bB hxl hm (by omega) ⟨_, _, hd', rfl, rfl⟩⟩
end
end Go.Proofs.YtcdjdnbdblpofaaDoor

/- Back, at any mark: its contract. Conditions: the state is one. -/
namespace Go.Proofs.YtcdjdnbdblpofaaDoor
open Go.RowKit Go.Maps
attribute [local go_sem] leftBy leaves Oper.semAt_some
set_option linter.unusedSimpArgs false
set_option linter.unusedVariables false

section
variable {W : World} {F : Nat → Prop} {b N : Nat} {L : List Kw} {R : List Chg}

set_option maxRecDepth 100000 in
set_option maxHeartbeats 8000000 in
theorem Back_err (h : SRep W F b N L R) (hR : R.length ≤ 1000000) (m : Int) (hm : m < 0 ∨ (R.length : Int) < m) (hm2 : -9223372036854775808 ≤ m ∧ m ≤ 9223372036854775807) :
    Calls Tryd.prog 31 #[ptr (b + 6), .int .i64 m] W fun e w' => e = .returned (.int .i64 2) ∧ Below W.heap.size W w' := by
  obtain ⟨un, hC, xs, hr, _⟩ := h
  obtain ⟨lg, s1, _⟩ := hC.st
  obtain ⟨g, cap, rfl⟩ : ∃ g cap, un = .slice g R.length cap := by
    rcases hr.2 with ⟨rfl, h0⟩ | ⟨g, cap, cur, rfl, _⟩
    · exact ⟨none, 0, by rw [h0]⟩
    · exact ⟨_, _, rfl⟩
  obtain ⟨_, _, _, _, _, _, _, c7, _⟩ := s1.cells
  have hlt := s1.lt
  have hR2 : R.length ≤ 9223372036854775807 := by omega
  unfold ptr
  by_cases h0 : m < 0
  · go_enter Tryd.func31, Tryd.ntmps31
    go_wp2
    go_ret
    exact ⟨rfl, Below.refl _ _⟩
  · have h1 : (R.length : Int) < m := by omega
    go_enter Tryd.func31, Tryd.ntmps31
    go_wp2
    go_ret
    exact ⟨rfl, Below.refl _ _⟩

set_option maxRecDepth 100000 in
set_option maxHeartbeats 16000000 in
theorem Back_zero (hC : CRep W F b N L [] (.slice none 0 0)) :
    Calls Tryd.prog 31 #[ptr (b + 6), .int .i64 0] W (muPost W F b N L [] (.int .i64 0)) := by
  have hfl := hC.flt
  obtain ⟨lg, s1, hrl, hlgF⟩ := hC.st
  have hlt := s1.lt
  obtain ⟨_, _, _, _, _, _, _, d7, ff⟩ := s1.cells
  unfold ptr
  refine calls_FW (n := 9) ?_
  refine callsIn_of_wp_marks Tryd.func31 rfl trivial ?_ rfl
  simp only [Tryd.ntmps31, List.size_toArray, List.length_cons, List.length_nil, Nat.reduceAdd, Nat.reduceSub, Array.replicate_succ, Array.replicate_zero, List.push_toArray, List.append_toArray, List.nil_append, List.cons_append]
  gi_wp2_with (gi_at_call 52; refine (callsIn_FW (Backward_func _ _ ⟨_, _, _, rfl⟩)).mono ?_; rintro e w' ⟨rfl, rfl⟩)
  have z0 : (W.alloc (.cells #[.slice none 0 0] 71)).heap.size = W.heap.size + 1 := by simp
  have bB : Below W.heap.size W (W.alloc (.cells #[.slice none 0 0] 71)) := (Below.refl _ W).alloc (Nat.le_refl _) _
  have h1 : (W.alloc (.cells #[.slice none 0 0] 71)).heap[W.heap.size]? = some (.cells #[.slice none 0 0] 71 (0, 0)) := heap_new rfl
  generalize W.alloc (.cells #[.slice none 0 0] 71) = w0 at *
  replace z0 := Nat.le_of_eq z0.symm
  refine wpIn_rangeFunc_list (by omega) (gf := 69) (lb := #[.pointer (some ⟨W.heap.size, 0, none⟩)]) rfl trivial (enters_of Tryd.func69 (by kernel_rfl) rfl)
    0 (fun k => #[.int .i64 (0 - 1 - k : Nat), .nilFunc]) (fun _ => rfl) (fun _ _ => True) (fun _ X => Fr (fun _ => False) w0 X) ?_ ?_ (fun _ _ _ _ _ => trivial) (fun _ _ _ => trivial) (fun _ _ _ _ _ => trivial) (Fr.refl _ _) ?hiter ?hround ?hdone
  · exact fun k X Y h hb => h.below hb
  · exact fun k l X Y h hl ht => h.turned hl ht
  case hiter =>
    intro l J X hJI hJb hY hJ0 hbX
    exact back_fs 8 (by omega) l W.heap.size none 0 [] (by simp) J X (fun k Y v hJ hk hv => absurd hk (by simp)) (fun k Y hJ => by
      have hI := hJI k Y hJ
      have h1' := (hI.block W.heap.size (by omega) id).trans h1
      exact ⟨by simp [World.cell?, h1'], fun i v hi => by simp at hi⟩) hJ0
  case hround =>
    intro l k X hl hI hk
    omega
  case hdone =>
    intro D1 X hD hI hd
    have hXs := hI.size
    have hbs := bB.size
    have t1 : stA X b lg (.slice none 0 0) := (hI.block _ (by omega) id).trans ((bB.block _ hlt).trans s1)
    obtain ⟨_, _, _, _, _, _, _, e7, ee⟩ := t1.cells
    have hd' : (X.setCell ⟨b + 6, 7, none⟩ (.slice none 0 0)).heap[D1]? = some (.deferred (some [])) := (Below.heap_setCell _ _ _ _ (by simp; omega)).trans hd
    gi_wp2
    refine ⟨by simp, .inl ⟨_, _, rfl, run_takeDeferred hd', ?_⟩⟩
    have ht : recTurned D1 (X.setCell ⟨b + 6, 7, none⟩ (.slice none 0 0)) ((X.setCell ⟨b + 6, 7, none⟩ (.slice none 0 0)).putObj D1 (.deferred none)) := ⟨_, _, hd', rfl, rfl⟩
    have hX : Fr F W X := ((Fr.refl F W).below bB).trans (hI.mono fun j hj => hj.elim)
    have hF : Fr F W ((X.setCell ⟨b + 6, 7, none⟩ (.slice none 0 0)).putObj D1 (.deferred none)) := (hX.setCell (p := ⟨b + 6, 7, none⟩) (.inl (hC.fb 6 (by omega))) _).turned (by omega) ht
    have same : ∀ k, F k → ((X.setCell ⟨b + 6, 7, none⟩ (.slice none 0 0)).putObj D1 (.deferred none)).heap[k]? = W.heap[k]? := fun k hk => by
      have hkl := hfl k hk
      by_cases e : k = b + 6
      · subst e
        exact (ht.other (by omega)).trans ((t1.set _).trans (show W.heap[b + 6]? = _ from s1).symm)
      · exact (ht.other (by omega)).trans ((Below.heap_setCell _ _ _ _ (by simpa using e)).trans ((hI.block k (by omega) id).trans (bB.block k hkl)))
    exact ⟨_, results_tmp rfl _ _ _, rfl, F, ⟨_, hC.same hF.size same, [], World.ownsRow_nil _ _ _ _, fun k hk => (by cases hk), rfl⟩, hF, fun _ h => h, fun _ h => .inl h⟩

/-- What Back leaves of the changes. -/
def bkR (R : List Chg) (m : Int) : List Chg := if 0 ≤ m ∧ m ≤ R.length then R.drop (R.length - m.toNat) else R
def bkE (R : List Chg) (m : Int) : Int := if 0 ≤ m ∧ m ≤ R.length then 0 else 2
theorem SRep.keep {w' : World} {v : Value} {e : Ending} (h : SRep W F b N L R) (hb : e = .returned v ∧ Below W.heap.size W w') : muPost W F b N L R v e w' :=
  ⟨hb.1, F, h.below hb.2, (Fr.refl F W).below hb.2, fun _ h => h, fun _ h => .inl h⟩
theorem muPost.monoN {N' : Nat} {v : Value} {e : Ending} {w' : World} (h : muPost W F b N L R v e w') (hN : N ≤ N') : muPost W F b N' L R v e w' := by
  obtain ⟨h1, F', h2, h3, h4, h5⟩ := h
  exact ⟨h1, F', h2.mono (fun _ h => h) hN h2.flt, h3, h4, h5⟩
theorem Back_S (h : SRep W F b N L R) (hN : N + 2 * R.length ≤ 1000000) (hok : Rok L R) (hL : ∀ K ∈ L, K.ba < Q256) (m : Int) (hm2 : -9223372036854775808 ≤ m ∧ m ≤ 9223372036854775807) :
    Calls Tryd.prog 31 #[ptr (b + 6), .int .i64 m] W (muPost W F b (N + 2 * R.length) L (bkR R m) (.int .i64 (bkE R m))) := by
  unfold bkR bkE
  by_cases hm : 0 ≤ m ∧ m ≤ R.length
  · rw [if_pos hm, if_pos hm]
    obtain ⟨n, rfl⟩ : ∃ n : Nat, m = n := ⟨m.toNat, by omega⟩
    rw [Int.toNat_natCast]
    obtain ⟨un, hC, xs, hr, hF, hx⟩ := h
    rcases hr.2 with ⟨rfl, h0⟩ | ⟨g, cap, cur, rfl, _⟩
    · obtain rfl : n = 0 := by omega
      obtain rfl : R = [] := List.eq_nil_of_length_eq_zero h0
      exact Back_zero hC
    · exact Back_own hC hr hF hx hN hok hL n (by omega)
  · rw [if_neg hm, if_neg hm]
    exact (Back_err h (by omega) m (by omega) hm2).mono fun e w' hb => (h.keep hb).monoN (by omega)
end
end Go.Proofs.YtcdjdnbdblpofaaDoor
