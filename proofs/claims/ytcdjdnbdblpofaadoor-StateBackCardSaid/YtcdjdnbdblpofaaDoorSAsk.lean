/-
  What a state answers: the contracts of Origin, Load, Balance at accounts that are known, but not there, at unknown ones, and of a nil state. Conditions: none.
-/
import Derived.Test.YtcdjdnbdblpofaaDoorSMap
import Derived.Test.YtcdjdnbdblpofaaDoorScope
import Derived.WalkMore
namespace Go.Proofs.YtcdjdnbdblpofaaDoor
open Go.RowKit Go.Maps
attribute [local go_sem] leftBy
set_option linter.unusedSimpArgs false
set_option linter.unusedVariables false


set_option maxRecDepth 100000 in
set_option maxHeartbeats 4000000 in
/-- Origin, of an account that is known, but not there. -/
theorem Origin_empty {W : World} {b : Nat} {lg un : Value} (hst : stA W b lg un) (a : ByteArray) (K : Kn) (k0 k1 k2 k3 : Int) (hth : K.th = false)
    (hl : ∀ W' : World, W'.heap[b]? = W.heap[b]? → (Instr.lookup 66 (.map (some b)) (.string a) true).run Tryd.prog W' = .ok (.tuple #[K.v, .bool true]) W') :
    Calls Tryd.prog 15 #[.pointer (some ⟨b + 6, 0, none⟩), .string a, .agg #[.int .u64 k0, .int .u64 k1, .int .u64 k2, .int .u64 k3]] W fun e w' => e = .returned (.tuple #[.agg #[.int .u64 0, .int .u64 0, .int .u64 0, .int .u64 0], .int .i64 0]) ∧ Below W.heap.size W w' := by
  have hlt := hst.lt
  have cF : ∀ o1 o2, Calls Tryd.prog 34 #[.pointer (some ⟨b + 6, 0, none⟩), .string a] ((W.alloc o1).alloc o2) fun e w' => e = .returned (.tuple #[K.v, .int .i64 0]) ∧ Below ((W.alloc o1).alloc o2).heap.size ((W.alloc o1).alloc o2) w' := fun o1 o2 => by
    refine find_hit (lg := lg) (un := un) ?_ a K fun W' e => hl W' ?_
    · exact (Below.heap_alloc _ _ _ (by simp; omega)).trans ((Below.heap_alloc _ _ _ hlt).trans hst)
    · exact e.trans ((Below.heap_alloc _ _ _ (by simp; omega)).trans (Below.heap_alloc _ _ _ (by omega)))
  obtain ⟨ad, th, no, b0, b1, b2, b3, rt, cd, hs, co, cp, cn, cc⟩ := K
  unfold Kn.v at *
  clear hl
  dsimp only at cF hth
  subst hth
  go_enter Tryd.func15, Tryd.ntmps15
  go_wp2
  go_step3
  go_wp2_with (go_at_call 34; refine (cF _ _).mono ?_; rintro e wa ⟨rfl, hb_wa⟩; have hc_wa := (bcell hb_wa).1; have hf_wa := (bcell hb_wa).2; have hz_wa : _ ≤ wa.heap.size := hb_wa.size; (try simp only [World.size_alloc, World.heap_drewN, World.size_setCell, heap_drew] at hc_wa hf_wa hz_wa); have hz_wa_W_0 : W.heap.size < wa.heap.size := (by omega); have hz_wa_W_1 : W.heap.size + 1 < wa.heap.size := (by omega))
  first | refine wp_flow (fun k => ([1, 1, 1, 1, 1, 1, 1, 1, 1, 1, 1, 1, 1, 1, 1] : List Nat).getD k 1) Dr _ (Dr.next _ _) (by kernel_rfl) (by kernel_rfl) ?_ | refine wp_flow (fun k => ([1, 1, 1, 1, 1, 1, 1, 1, 1, 1, 1, 1, 1, 1, 1] : List Nat).getD k 1) Dr _ (Dr.one _) (by kernel_rfl) (by kernel_rfl) ?_
  iterate 3 ((refine flow_quiet rfl rfl (fun K hK => ?_); apply Exists.intro; apply And.intro; (focus (rintro w' ⟨nn, rfl⟩; go_simp; (try go_bits); exact ⟨rfl, Dr.of _ _⟩)); go_simp; (try go_bits); refine hK _ ?_; clear hK K))
  iterate 3 (first | (refine flow_skip rfl (fun K hK => ?_); go_simp; (try go_bits); refine hK _ ?_; clear hK K) | (refine flow_quiet rfl rfl (fun K hK => ?_); apply Exists.intro; apply And.intro; (focus (rintro w' ⟨nn, rfl⟩; go_simp; (try go_bits); exact ⟨rfl, Dr.of _ _⟩)); go_simp; (try go_bits); refine hK _ ?_; clear hK K))
  iterate 2 ((refine flow_quiet rfl rfl (fun K hK => ?_); apply Exists.intro; apply And.intro; (focus (rintro w' ⟨nn, rfl⟩; go_simp; (try go_bits); exact ⟨rfl, Dr.of _ _⟩)); go_simp; (try go_bits); refine hK _ ?_; clear hK K))
  iterate 6 (first | (refine flow_skip rfl (fun K hK => ?_); go_simp; (try go_bits); refine hK _ ?_; clear hK K) | (refine flow_quiet rfl rfl (fun K hK => ?_); apply Exists.intro; apply And.intro; (focus (rintro w' ⟨nn, rfl⟩; go_simp; (try go_bits); exact ⟨rfl, Dr.of _ _⟩)); go_simp; (try go_bits); refine hK _ ?_; clear hK K))
  (refine flow_quiet rfl rfl (fun K hK => ?_); apply Exists.intro; apply And.intro; (focus (rintro w' ⟨nn, rfl⟩; go_simp; (try go_bits); exact ⟨rfl, Dr.of _ _⟩)); go_simp; (try go_bits); refine hK _ ?_; clear hK K)
  refine flow_nil ?_
  rintro w' ⟨nq, rfl⟩
  go_wp2
  first | refine wp_flow (fun k => ([1, 0, 2, 1] : List Nat).getD k 1) (DrC (fun X => X.cell? ⟨wa.heap.size + 1, 0, none⟩ = some (.int .i64 0))) _ ⟨Dr.next _ _, ?_⟩ (by kernel_rfl) (by kernel_rfl) ?_ | refine wp_flow (fun k => ([1, 0, 2, 1] : List Nat).getD k 1) (DrC (fun X => X.cell? ⟨wa.heap.size + 1, 0, none⟩ = some (.int .i64 0))) _ ⟨Dr.one _, ?_⟩ (by kernel_rfl) (by kernel_rfl) ?_
  focus ( go_simp)
  (refine flow_quiet rfl rfl (fun K hK => ?_); apply Exists.intro; apply And.intro; (focus (rintro w' ⟨⟨nn, rfl⟩, hC⟩; go_simp; (try go_bits); exact ⟨rfl, Dr.of _ _, hC⟩)); go_simp; (try go_bits); refine hK _ ?_; clear hK K)
  (refine flow_late rfl rfl (fun K hK => ?_); apply Exists.intro; apply And.intro; (focus (rintro w0 w' ⟨hd0, hC⟩; clear hd0;  skip ; go_simp; (try go_bits); exact rfl)); go_simp; (try go_bits); refine hK _ ?_; clear hK K)
  (refine flow_eff rfl rfl (fun K hK => ?_); apply Exists.intro; apply Exists.intro; apply And.intro; (focus (rintro w' ⟨⟨nn, rfl⟩, hC⟩;  skip ; go_simp; (try go_bits); refine ⟨rfl, ?_, ?_⟩; (with_reducible first | exact Dr.store _ _ _ _ | exact Dr.store4 _ _ _ _ _ _ _ _ _ _); ( go_simp ))); go_simp; (try go_bits); refine hK _ _ ?_; clear hK K)
  (refine flow_quiet rfl rfl (fun K hK => ?_); apply Exists.intro; apply And.intro; (focus (rintro w' ⟨⟨nn, rfl⟩, hC⟩; go_simp; (try go_bits); exact ⟨rfl, Dr.of _ _, hC⟩)); go_simp; (try go_bits); refine hK _ ?_; clear hK K)
  refine flow_nil ?_
  rintro w' ⟨⟨nq, rfl⟩, hC⟩
  go_wp2
  rw [Exit.noGoto_ret]
  refine bodyPost_ret (by simp only [results, Tryd.results15]; go_simp; try rfl) rfl ⟨rfl, ?_⟩
  repeat (with_reducible first | exact Below.refl _ _ | assumption | refine below_drewN ?_ _ | refine Below.drew ?_ | refine Below.setCell ?_ (by first | omega | (simp; done) | (simp; omega)) _ | refine Below.alloc ?_ (by first | omega | (simp; done) | (simp; omega)) _ | refine Below.trans ?_ (Below.mono (by assumption) (by first | omega | (simp; done) | (simp; omega))))

def wordV (k0 k1 k2 k3 : Int) : Value := .agg #[.int .u64 k0, .int .u64 k1, .int .u64 k2, .int .u64 k3]
def spotV (a : ByteArray) (k0 k1 k2 k3 : Int) : Value := .agg #[.string a, .int .u64 k0, .int .u64 k1, .int .u64 k2, .int .u64 k3]

set_option maxRecDepth 100000 in
set_option maxHeartbeats 8000000 in
/-- Load, where nothing was saved. -/
theorem Load_miss {W : World} {b : Nat} {lg un : Value} (hst : stA W b lg un) (a : ByteArray) (k0 k1 k2 k3 o0 o1 o2 o3 e0 : Int)
    (hl : ∀ W' : World, W'.heap[b + 2]? = W.heap[b + 2]? → (Instr.lookup 68 (.map (some (b + 2))) (.agg #[.string a, .int .u64 k0, .int .u64 k1, .int .u64 k2, .int .u64 k3]) true).run Tryd.prog W' = .ok (.tuple #[.agg #[.int .u64 0, .int .u64 0, .int .u64 0, .int .u64 0], .bool false]) W')
    (cO : ∀ W' : World, Below W.heap.size W W' → Calls Tryd.prog 15 #[.pointer (some ⟨b + 6, 0, none⟩), .string a, .agg #[.int .u64 k0, .int .u64 k1, .int .u64 k2, .int .u64 k3]] W' fun e w' => e = .returned (.tuple #[.agg #[.int .u64 o0, .int .u64 o1, .int .u64 o2, .int .u64 o3], .int .i64 e0]) ∧ Below W'.heap.size W' w') :
    Calls Tryd.prog 14 #[.pointer (some ⟨b + 6, 0, none⟩), .string a, .agg #[.int .u64 k0, .int .u64 k1, .int .u64 k2, .int .u64 k3]] W fun e w' => e = .returned (.tuple #[.agg #[.int .u64 o0, .int .u64 o1, .int .u64 o2, .int .u64 o3], .int .i64 e0]) ∧ Below W.heap.size W w' := by
  have hlt := hst.lt
  obtain ⟨_, _, c2, _⟩ := hst.cells
  go_enter Tryd.func14, Tryd.ntmps14
  go_wp2
  have hlw : ∀ w' : World, Below (W.heap.size + 1 + 1) ((W.alloc (.cells #[.int .u64 k0, .int .u64 k1, .int .u64 k2, .int .u64 k3] 25)).alloc (.cells #[.int .u64 0, .int .u64 0, .int .u64 0, .int .u64 0] 25)) w' → (Instr.lookup 68 (.map (some (b + 2))) (.agg #[.string a, .int .u64 k0, .int .u64 k1, .int .u64 k2, .int .u64 k3]) true).run Tryd.prog w' = .ok (.tuple #[.agg #[.int .u64 0, .int .u64 0, .int .u64 0, .int .u64 0], .bool false]) w' :=
    fun w' hb => hl w' ((hb.block _ (by omega)).trans ((Below.heap_alloc _ _ _ (by simp; omega)).trans (Below.heap_alloc _ _ _ (by omega))))
  have hlt2 : b + 6 < W.heap.size + 1 + 1 := by omega
  clear hl
  refine wp_flowN (fun k => ([1, 1, 1, 1, 1, 1, 1, 1, 1, 1, 0, 3, 2, 1] : List Nat).getD k 1) [8] (fun _ => 25) (fun k => ([.pointer (some ⟨b + 6, 0, none⟩), .pointer (some ⟨b + 6, 0, none⟩), .pointer (some ⟨b + 6, 2, none⟩), .map (some (b + 2)), .string a, .agg #[.int .u64 k0, .int .u64 k1, .int .u64 k2, .int .u64 k3], .agg #[.string a, .int .u64 k0, .int .u64 k1, .int .u64 k2, .int .u64 k3], .tuple #[.agg #[.int .u64 0, .int .u64 0, .int .u64 0, .int .u64 0], .bool false], .tuple #[.agg #[.int .u64 0, .int .u64 0, .int .u64 0, .int .u64 0], .bool false], .agg #[.int .u64 0, .int .u64 0, .int .u64 0, .int .u64 0], .bool false, undef, undef, .bool false] : List Value).getD k undef) (fun _ => #[.int .u64 0, .int .u64 0, .int .u64 0, .int .u64 0]) (W.heap.size + 1 + 1) ?_ (by kernel_rfl) (by kernel_rfl) ?_
  focus (intro d hd; simp only [List.mem_cons, List.not_mem_nil, or_false] at hd; rcases hd with rfl <;> rfl)
  iterate 10 ((refine flowN_quiet rfl (by first | exact Nat.le_refl _ | (simp only [World.size_alloc]; omega) | omega) rfl rfl (fun K hK => ⟨?_, ?_⟩); (focus (intro w' hw'; have hc := (bcell hw').1; go_simp; (try go_bits); all_goals (first | exact ⟨rfl, Below.refl _ _⟩ | exact Below.refl _ _))); go_simp; (try go_bits); refine hK _ ?_; clear hK K))
  (refine flowN_late rfl rfl (fun K hK => ⟨?_, ?_⟩); (focus (intro w' hw'; have hc := (bcell hw').1; go_simp; done)); go_simp; (try go_bits); refine hK _ ?_; clear hK K)
  (refine flowN_new rfl (by first | exact Nat.le_refl _ | (simp only [World.size_alloc]; omega) | omega) (fun a w' => ?_) (fun K hK bx hbx => ?_); (focus (go_simp; done)); go_simp; (try go_bits); refine hK _ ?_; clear hK K)
  (refine flowN_store _ _ rfl rfl (by simp) rfl rfl (by kernel_rfl) rfl (by first | rfl | simp [Value.oneCell']) ?_; (try simp only [Act.put]))
  (refine flowN_quiet rfl (by first | exact Nat.le_refl _ | (simp only [World.size_alloc]; omega) | omega) rfl rfl (fun K hK => ⟨?_, ?_⟩); (focus (intro w' hw'; have hc := (bcell hw').1; go_simp; (try go_bits); all_goals (first | exact ⟨rfl, Below.refl _ _⟩ | exact Below.refl _ _))); go_simp; (try go_bits); refine hK _ ?_; clear hK K)
  refine flowN_nil ?_
  intro w' hw'
  obtain ⟨hb1, _⟩ := hw'
  have hbW : Below W.heap.size W w' := ((Below.refl _ W).alloc (Nat.le_refl _) _).alloc (by simp) _ |>.trans (hb1.mono (by omega))
  have hc_w' := (bcell hb1).1; have hf_w' := (bcell hb1).2; have hz_w' : _ ≤ w'.heap.size := hb1.size; (try simp only [World.size_alloc, World.heap_drewN, World.size_setCell, heap_drew] at hc_w' hf_w' hz_w'); have hz_w'_W_0 : W.heap.size < w'.heap.size := (by omega); have hz_w'_W_1 : W.heap.size + 1 < w'.heap.size := (by omega)
  clear hlw
  go_wp2_with (go_at_call 15; refine (cO _ hbW).mono ?_; rintro e wa ⟨rfl, hb_wa⟩; have hc_wa := (bcell hb_wa).1; have hf_wa := (bcell hb_wa).2; have hz_wa : _ ≤ wa.heap.size := hb_wa.size; (try simp only [World.size_alloc, World.heap_drewN, World.size_setCell, heap_drew] at hc_wa hf_wa hz_wa); have hz_wa_W_0 : W.heap.size < wa.heap.size := (by omega); have hz_wa_W_1 : W.heap.size + 1 < wa.heap.size := (by omega))
  refine bodyPost_ret (by simp only [results, Tryd.results14]; go_simp; try rfl) rfl ⟨rfl, ?_⟩
  repeat (with_reducible first | exact Below.refl _ _ | assumption | refine below_drewN ?_ _ | refine Below.drew ?_ | refine Below.setCell ?_ (by first | omega | (simp; done) | (simp; omega)) _ | refine Below.alloc ?_ (by first | omega | (simp; done) | (simp; omega)) _ | refine Below.trans ?_ (Below.mono (by assumption) (by first | omega | (simp; done) | (simp; omega))))
set_option maxRecDepth 100000 in
set_option maxHeartbeats 8000000 in
/-- Load, where something was saved. -/
theorem Load_hit {W : World} {b : Nat} {lg un : Value} (hst : stA W b lg un) (a : ByteArray) (k0 k1 k2 k3 o0 o1 o2 o3 : Int)
    (hl : ∀ W' : World, W'.heap[b + 2]? = W.heap[b + 2]? → (Instr.lookup 68 (.map (some (b + 2))) (.agg #[.string a, .int .u64 k0, .int .u64 k1, .int .u64 k2, .int .u64 k3]) true).run Tryd.prog W' = .ok (.tuple #[.agg #[.int .u64 o0, .int .u64 o1, .int .u64 o2, .int .u64 o3], .bool true]) W') :
    Calls Tryd.prog 14 #[.pointer (some ⟨b + 6, 0, none⟩), .string a, .agg #[.int .u64 k0, .int .u64 k1, .int .u64 k2, .int .u64 k3]] W fun e w' => e = .returned (.tuple #[.agg #[.int .u64 o0, .int .u64 o1, .int .u64 o2, .int .u64 o3], .int .i64 0]) ∧ Below W.heap.size W w' := by
  have hlt := hst.lt
  obtain ⟨_, _, c2, _⟩ := hst.cells
  go_enter Tryd.func14, Tryd.ntmps14
  go_wp2
  have hlw : ∀ w' : World, Below (W.heap.size + 1 + 1) ((W.alloc (.cells #[.int .u64 k0, .int .u64 k1, .int .u64 k2, .int .u64 k3] 25)).alloc (.cells #[.int .u64 0, .int .u64 0, .int .u64 0, .int .u64 0] 25)) w' → (Instr.lookup 68 (.map (some (b + 2))) (.agg #[.string a, .int .u64 k0, .int .u64 k1, .int .u64 k2, .int .u64 k3]) true).run Tryd.prog w' = .ok (.tuple #[.agg #[.int .u64 o0, .int .u64 o1, .int .u64 o2, .int .u64 o3], .bool true]) w' :=
    fun w' hb => hl w' ((hb.block _ (by omega)).trans ((Below.heap_alloc _ _ _ (by simp; omega)).trans (Below.heap_alloc _ _ _ (by omega))))
  have hlt2 : b + 6 < W.heap.size + 1 + 1 := by omega
  clear hl
  refine wp_flowN (fun k => ([1, 1, 1, 1, 1, 1, 1, 1, 1, 1, 0, 3, 2, 1] : List Nat).getD k 1) [8] (fun _ => 25) (fun k => ([.pointer (some ⟨b + 6, 0, none⟩), .pointer (some ⟨b + 6, 0, none⟩), .pointer (some ⟨b + 6, 2, none⟩), .map (some (b + 2)), .string a, .agg #[.int .u64 k0, .int .u64 k1, .int .u64 k2, .int .u64 k3], .agg #[.string a, .int .u64 k0, .int .u64 k1, .int .u64 k2, .int .u64 k3], .tuple #[.agg #[.int .u64 o0, .int .u64 o1, .int .u64 o2, .int .u64 o3], .bool true], .tuple #[.agg #[.int .u64 o0, .int .u64 o1, .int .u64 o2, .int .u64 o3], .bool true], .agg #[.int .u64 o0, .int .u64 o1, .int .u64 o2, .int .u64 o3], .bool true, undef, undef, .bool true] : List Value).getD k undef) (fun _ => #[.int .u64 0, .int .u64 0, .int .u64 0, .int .u64 0]) (W.heap.size + 1 + 1) ?_ (by kernel_rfl) (by kernel_rfl) ?_
  focus (intro d hd; simp only [List.mem_cons, List.not_mem_nil, or_false] at hd; rcases hd with rfl <;> rfl)
  iterate 10 ((refine flowN_quiet rfl (by first | exact Nat.le_refl _ | (simp only [World.size_alloc]; omega) | omega) rfl rfl (fun K hK => ⟨?_, ?_⟩); (focus (intro w' hw'; have hc := (bcell hw').1; go_simp; (try go_bits); all_goals (first | exact ⟨rfl, Below.refl _ _⟩ | exact Below.refl _ _))); go_simp; (try go_bits); refine hK _ ?_; clear hK K))
  (refine flowN_late rfl rfl (fun K hK => ⟨?_, ?_⟩); (focus (intro w' hw'; have hc := (bcell hw').1; go_simp; done)); go_simp; (try go_bits); refine hK _ ?_; clear hK K)
  (refine flowN_new rfl (by first | exact Nat.le_refl _ | (simp only [World.size_alloc]; omega) | omega) (fun a w' => ?_) (fun K hK bx hbx => ?_); (focus (go_simp; done)); go_simp; (try go_bits); refine hK _ ?_; clear hK K)
  (refine flowN_store _ _ rfl rfl (by simp) rfl rfl (by kernel_rfl) rfl (by first | rfl | simp [Value.oneCell']) ?_; (try simp only [Act.put]))
  (refine flowN_quiet rfl (by first | exact Nat.le_refl _ | (simp only [World.size_alloc]; omega) | omega) rfl rfl (fun K hK => ⟨?_, ?_⟩); (focus (intro w' hw'; have hc := (bcell hw').1; go_simp; (try go_bits); all_goals (first | exact ⟨rfl, Below.refl _ _⟩ | exact Below.refl _ _))); go_simp; (try go_bits); refine hK _ ?_; clear hK K)
  refine flowN_nil ?_
  intro w' hw'
  have hat := RF_at (d := 8) (b := bx) hw' (by simp) rfl
  obtain ⟨hb1, _⟩ := hw'
  have hbW : Below W.heap.size W w' := ((Below.refl _ W).alloc (Nat.le_refl _) _).alloc (by simp) _ |>.trans (hb1.mono (by omega))
  have hc_w' := (bcell hb1).1; have hf_w' := (bcell hb1).2; have hz_w' : _ ≤ w'.heap.size := hb1.size; (try simp only [World.size_alloc, World.heap_drewN, World.size_setCell, heap_drew] at hc_w' hf_w' hz_w'); have hz_w'_W_0 : W.heap.size < w'.heap.size := (by omega); have hz_w'_W_1 : W.heap.size + 1 < w'.heap.size := (by omega)
  clear hlw
  have hbxh : w'.heap[bx]? = some (.cells #[.int .u64 o0, .int .u64 o1, .int .u64 o2, .int .u64 o3] 25 (0, 0)) := hat.2
  have x0 : w'.cell? ⟨bx, 0, none⟩ = some (.int .u64 o0) := by simp [World.cell?, hbxh]
  have x1 : w'.cell? ⟨bx, 1, none⟩ = some (.int .u64 o1) := by simp [World.cell?, hbxh]
  have x2 : w'.cell? ⟨bx, 2, none⟩ = some (.int .u64 o2) := by simp [World.cell?, hbxh]
  have x3 : w'.cell? ⟨bx, 3, none⟩ = some (.int .u64 o3) := by simp [World.cell?, hbxh]
  clear hat
  go_wp2
  refine bodyPost_ret (by simp only [results, Tryd.results14]; go_simp; try rfl) rfl ⟨rfl, ?_⟩
  repeat (with_reducible first | exact Below.refl _ _ | assumption | refine below_drewN ?_ _ | refine Below.drew ?_ | refine Below.setCell ?_ (by first | omega | (simp; done) | (simp; omega)) _ | refine Below.alloc ?_ (by first | omega | (simp; done) | (simp; omega)) _ | refine Below.trans ?_ (Below.mono (by assumption) (by first | omega | (simp; done) | (simp; omega))))

end Go.Proofs.YtcdjdnbdblpofaaDoor
