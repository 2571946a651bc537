/-
  Texts of one proof, one behind the other. Conditions: each text's own line says them.
-/
import Derived.Test.YtijidnhaijdfaaaGreatDoorPR10
import Derived.Test.YtijidnhaijdfaaaGreatDoorPR31
import Derived.Laws.StructEq

/- An account's bytes: acct.short, acct.Bytes. Conditions: none. -/
namespace Go.Proofs.YtijidnhaijdfaaaGreatDoor
open Go.RowKit
attribute [local go_sem] leftBy leaves Oper.semAt_some
set_option linter.unusedSimpArgs false
set_option linter.unusedVariables false

theorem Trim_any (a : Nat) (w : World) : Calls Tryz.prog 34 #[.string (bytesS a), .string ⟨#[0]⟩] w fun e w' => e = .returned (.string (bsS (wordS a))) ∧ w' = w := by
  have h := strings_TrimLeft_one (bytesS a) 0 (by decide) w
  rw [bytesS_be] at h
  exact h
set_option maxRecDepth 100000 in
set_option maxHeartbeats 8000000 in
theorem short_any (a : Nat) (ha : a < Q256) (W : World) : Calls Tryz.prog 19 #[W4 a] W fun e w' => e = .returned (.string (bsS (wordS a))) ∧ Below W.heap.size W w' := by
  have cB := fun w => Bytes_any a ha w
  have cT := fun w => Trim_any a w
  have h0 := heap_new (w := W) (o := .cells #[.int .u64 (lb a 0 : Nat), .int .u64 (lb a 1 : Nat), .int .u64 (lb a 2 : Nat), .int .u64 (lb a 3 : Nat)] 31) rfl
  have x0 := Lib.cell_of_heap h0 0
  have x1 := Lib.cell_of_heap h0 1
  have x2 := Lib.cell_of_heap h0 2
  have x3 := Lib.cell_of_heap h0 3
  simp only [List.getElem?_toArray, List.getElem?_cons_zero, List.getElem?_cons_succ] at x0 x1 x2 x3
  generalize bytesS a = S at cB cT
  generalize bsS (wordS a) = R at cT ⊢
  clear h0
  go_enter Tryz.func19, Tryz.ntmps19
  go_wp2_with (first | (go_at_call 37; (with_reducible refine (cB _).mono ?_); rintro e w2 ⟨rfl, hb2⟩) | (go_at_call 34; (with_reducible refine (cT _).mono ?_); rintro e _ ⟨rfl, hww⟩; obtain rfl := hww.symm))
  refine bodyPost_ret (by simp only [results, Tryz.results19]; go_simp; try rfl) rfl ⟨rfl, ?_⟩
  exact ((Below.refl _ W).alloc (Nat.le_refl _) _).trans (hb2.mono (by simp))
/-- An account. -/
structure Ac where
  n : Nat
  b : Nat
  r : Bs
  c : Bs
def Ac.v (x : Ac) : Value := .agg #[.int .u64 (x.n : Nat), .int .u64 (lb x.b 0 : Nat), .int .u64 (lb x.b 1 : Nat), .int .u64 (lb x.b 2 : Nat), .int .u64 (lb x.b 3 : Nat), .string (bsS x.r), .string (bsS x.c)]
def Ac.wf (x : Ac) : Prop := x.n < 18446744073709551616 ∧ x.b < Q256
def Ac.right (x : Ac) : Prop := x.r.length = 32 ∧ x.c.length = 32
instance (x : Ac) : Decidable x.right := inferInstanceAs (Decidable (_ ∧ _))
def Ac.item (x : Ac) : It := .list [.text (num x.n), .text (wordS x.b), .text x.r, .text x.c]
/-- Where a region stands that lays a list's things. -/
structure axR (W1 : World) (cs : Array Value) (g : Option Nat) (w' : World) : Prop where
  bel : Below W1.heap.size W1 w'
  one : ∀ q, g = some q → w'.heap[q]? = some (.cells cs 51 (0, 0))
theorem axR.below {W1 w' w2 : World} {cs : Array Value} {g : Option Nat} (h : axR W1 cs g w') (hb : Below w'.heap.size w' w2) : axR W1 cs g w2 :=
  ⟨h.bel.trans (hb.mono h.bel.size), fun q hq => (hb.block q (Array.getElem?_eq_some_iff.1 (h.one q hq)).1).trans (h.one q hq)⟩
theorem num_len8 (n : Nat) : (num n).length ≤ 8 := num_len n
theorem Ac.enc_le (x : Ac) (hr : x.right) : (enc x.item).length ≤ 1000 := by
  obtain ⟨h1, h2⟩ := hr
  have h3 := list_le [.text (num x.n), .text (wordS x.b), .text x.r, .text x.c]
  have e1 := text_le (num x.n)
  have e2 := text_le (wordS x.b)
  have e3 := text_le x.r
  have e4 := text_le x.c
  have n1 := num_len x.n
  have n2 := wordS_len x.b
  unfold Ac.item
  simp only [encs, List.length_append, List.length_nil] at h3
  omega
theorem acct_itV {W : World} {g : Nat} {x : Ac} (h : W.heap[g]? = some (.cells #[.bool false, .string (bsS (num x.n)), .slice none 0 0, .bool false, .string (bsS (wordS x.b)), .slice none 0 0, .bool false, .string (bsS x.r), .slice none 0 0, .bool false, .string (bsS x.c), .slice none 0 0] 51 (0, 0))) :
    itF (fun _ => True) W x.item (.agg #[.bool true, .string ⟨#[]⟩, .slice (some ⟨g, 0, none⟩) 4 4]) :=
  itF_arr (F := fun _ => False) (l := [.text (num x.n), .text (wordS x.b), .text x.r, .text x.c]) h ⟨_, _, _, _, rfl, rfl, _, _, _, _, rfl, rfl, _, _, _, _, rfl, rfl, _, _, _, _, rfl, rfl, rfl⟩ (fun _ h => h.elim) trivial (show 4 ≤ maxLen by decide)
set_option maxRecDepth 100000 in
set_option maxHeartbeats 8000000 in
theorem acct_Bytes (x : Ac) (hw : x.wf) (hr : x.right) (W : World) : Calls Tryz.prog 6 #[x.v] W fun e w' => e = .returned (.tuple #[.string (bsS (enc x.item)), .int .i64 0]) ∧ Below W.heap.size W w' := by
  have cN := fun w => Number_any x.n hw.1 w
  have cS := fun w => short_any x.b hw.2 w
  have cT := fun s w => Text_any s w
  have cE : ∀ (w : World) (g : Nat), w.heap[g]? = _ → Calls Tryz.prog 12 #[.agg #[.bool true, .string ⟨#[]⟩, .slice (some ⟨g, 0, none⟩) 4 4]] w _ := fun w g h => Encode_any x.item (by unfold Ac.item; simp [dep, deps]) (Nat.le_trans (x.enc_le hr) (by decide)) _ w (acct_itV h).v
  obtain ⟨h1, h2⟩ := hr
  have z1 := bsS_size x.r
  have z2 := bsS_size x.c
  rw [h1] at z1
  rw [h2] at z2
  unfold Ac.v
  generalize bsS (enc x.item) = E at *
  generalize bsS (num x.n) = S0 at *
  generalize bsS (wordS x.b) = S1 at *
  generalize bsS x.r = S2 at *
  generalize bsS x.c = S3 at *
  have cEh := Lib.hid cE
  have h0 := heap_new (w := W) (o := .cells #[.int .u64 (x.n : Nat), .int .u64 (lb x.b 0 : Nat), .int .u64 (lb x.b 1 : Nat), .int .u64 (lb x.b 2 : Nat), .int .u64 (lb x.b 3 : Nat), .string S2, .string S3] 33) rfl
  have x0 := Lib.cell_of_heap h0 0
  have x1 := Lib.cell_of_heap h0 1
  have x2 := Lib.cell_of_heap h0 2
  have x3 := Lib.cell_of_heap h0 3
  have x4 := Lib.cell_of_heap h0 4
  have x5 := Lib.cell_of_heap h0 5
  have x6 := Lib.cell_of_heap h0 6
  simp only [List.getElem?_toArray, List.getElem?_cons_zero, List.getElem?_cons_succ] at x0 x1 x2 x3 x4 x5 x6
  have b1 : Below W.heap.size W (W.alloc (.cells #[.int .u64 (x.n : Nat), .int .u64 (lb x.b 0 : Nat), .int .u64 (lb x.b 1 : Nat), .int .u64 (lb x.b 2 : Nat), .int .u64 (lb x.b 3 : Nat), .string S2, .string S3] 33)) := (Below.refl _ W).alloc (Nat.le_refl _) _
  have zz : (W.alloc (.cells #[.int .u64 (x.n : Nat), .int .u64 (lb x.b 0 : Nat), .int .u64 (lb x.b 1 : Nat), .int .u64 (lb x.b 2 : Nat), .int .u64 (lb x.b 3 : Nat), .string S2, .string S3] 33)).heap.size = W.heap.size + 1 := World.size_alloc _ _
  clear h0 cE hw h1 h2
  go_enter Tryz.func6, Tryz.ntmps6
  go_wp2
  generalize W.alloc (.cells #[.int .u64 (x.n : Nat), .int .u64 (lb x.b 0 : Nat), .int .u64 (lb x.b 1 : Nat), .int .u64 (lb x.b 2 : Nat), .int .u64 (lb x.b 3 : Nat), .string S2, .string S3] 33) = W1 at *
  have hlt : W.heap.size < W1.heap.size := by omega
  refine wp_flowU (fun k => ([1, 1, 2, 2, 0, 0, 2, 2, 0, 0, 2, 0, 0, 2, 2, 2, 2, 1, 1, 1, 1] : List Nat).getD k 1) (axR W1 #[.bool false, .string S0, .slice none 0 0, .bool false, .string S1, .slice none 0 0, .bool false, .string S2, .slice none 0 0, .bool false, .string S3, .slice none 0 0]) (fun _ => True) (none) (⟨below_drewN (Below.refl _ _) _, fun q h => (by cases h)⟩) trivial (by kernel_rfl) (by kernel_rfl) ?_
  iterate 2 ((refine flowU_readE rfl rfl (fun K hK => ?_); apply Exists.intro; apply And.intro; (focus (intro w' hR; have p0 := (hR.bel.cell (p := ⟨W.heap.size, 0, none⟩) hlt).trans x0; have p1 := (hR.bel.cell (p := ⟨W.heap.size, 1, none⟩) hlt).trans x1; have p2 := (hR.bel.cell (p := ⟨W.heap.size, 2, none⟩) hlt).trans x2; have p3 := (hR.bel.cell (p := ⟨W.heap.size, 3, none⟩) hlt).trans x3; have p4 := (hR.bel.cell (p := ⟨W.heap.size, 4, none⟩) hlt).trans x4; have p5 := (hR.bel.cell (p := ⟨W.heap.size, 5, none⟩) hlt).trans x5; have p6 := (hR.bel.cell (p := ⟨W.heap.size, 6, none⟩) hlt).trans x6; clear hR; go_simp; (try go_bits); exact rfl)); go_simp; (try go_bits); refine hK _ ?_; clear hK K))
  refine flowU_step (fun v s => v = .string S0 ∧ s = none) (by decide) rfl ⟨_, _, rfl, rfl⟩ (fun w' hR => ?_) (fun _ _ _ _ _ => trivial) (fun K hK v s2 hs2 => ?_)
  focus
    have cQ := cN w'
    go_simp
    exact cQ.mono (by rintro e w4 ⟨rfl, hb⟩; exact ⟨_, rfl, _, ⟨rfl, rfl⟩, hR.below hb⟩)
  obtain ⟨rfl, rfl⟩ := hs2
  (go_simp; refine hK _ _ ?_; clear hK K)
  refine flowU_step (fun v s => v = (.agg #[.bool false, .string S0, .slice none 0 0]) ∧ s = none) (by decide) rfl ⟨_, _, rfl, rfl⟩ (fun w' hR => ?_) (fun _ _ _ _ _ => trivial) (fun K hK v s2 hs2 => ?_)
  focus
    have cQ := cT S0 w'
    go_simp
    exact cQ.mono (by rintro e w4 ⟨rfl, hb⟩; exact ⟨_, rfl, _, ⟨rfl, rfl⟩, hR.below hb⟩)
  obtain ⟨rfl, rfl⟩ := hs2
  (go_simp; refine hK _ _ ?_; clear hK K)
  iterate 2 ((refine flowU_lateE rfl rfl (fun K hK => ?_); apply Exists.intro; apply And.intro; (focus (intro s0 w' hC hR; have p0 := (hR.bel.cell (p := ⟨W.heap.size, 0, none⟩) hlt).trans x0; have p1 := (hR.bel.cell (p := ⟨W.heap.size, 1, none⟩) hlt).trans x1; have p2 := (hR.bel.cell (p := ⟨W.heap.size, 2, none⟩) hlt).trans x2; have p3 := (hR.bel.cell (p := ⟨W.heap.size, 3, none⟩) hlt).trans x3; have p4 := (hR.bel.cell (p := ⟨W.heap.size, 4, none⟩) hlt).trans x4; have p5 := (hR.bel.cell (p := ⟨W.heap.size, 5, none⟩) hlt).trans x5; have p6 := (hR.bel.cell (p := ⟨W.heap.size, 6, none⟩) hlt).trans x6; clear hR; go_simp; (try go_bits); exact rfl)); go_simp; (try go_bits); refine hK _ ?_; clear hK K))
  refine flowU_step (fun v s => v = .string S1 ∧ s = none) (by decide) rfl ⟨_, _, rfl, rfl⟩ (fun w' hR => ?_) (fun _ _ _ _ _ => trivial) (fun K hK v s2 hs2 => ?_)
  focus
    have cQ := cS w'
    go_simp
    exact cQ.mono (by rintro e w4 ⟨rfl, hb⟩; exact ⟨_, rfl, _, ⟨rfl, rfl⟩, hR.below hb⟩)
  obtain ⟨rfl, rfl⟩ := hs2
  (go_simp; refine hK _ _ ?_; clear hK K)
  refine flowU_step (fun v s => v = (.agg #[.bool false, .string S1, .slice none 0 0]) ∧ s = none) (by decide) rfl ⟨_, _, rfl, rfl⟩ (fun w' hR => ?_) (fun _ _ _ _ _ => trivial) (fun K hK v s2 hs2 => ?_)
  focus
    have cQ := cT S1 w'
    go_simp
    exact cQ.mono (by rintro e w4 ⟨rfl, hb⟩; exact ⟨_, rfl, _, ⟨rfl, rfl⟩, hR.below hb⟩)
  obtain ⟨rfl, rfl⟩ := hs2
  (go_simp; refine hK _ _ ?_; clear hK K)
  iterate 2 ((refine flowU_lateE rfl rfl (fun K hK => ?_); apply Exists.intro; apply And.intro; (focus (intro s0 w' hC hR; have p0 := (hR.bel.cell (p := ⟨W.heap.size, 0, none⟩) hlt).trans x0; have p1 := (hR.bel.cell (p := ⟨W.heap.size, 1, none⟩) hlt).trans x1; have p2 := (hR.bel.cell (p := ⟨W.heap.size, 2, none⟩) hlt).trans x2; have p3 := (hR.bel.cell (p := ⟨W.heap.size, 3, none⟩) hlt).trans x3; have p4 := (hR.bel.cell (p := ⟨W.heap.size, 4, none⟩) hlt).trans x4; have p5 := (hR.bel.cell (p := ⟨W.heap.size, 5, none⟩) hlt).trans x5; have p6 := (hR.bel.cell (p := ⟨W.heap.size, 6, none⟩) hlt).trans x6; clear hR; go_simp; (try go_bits); exact rfl)); go_simp; (try go_bits); refine hK _ ?_; clear hK K))
  refine flowU_step (fun v s => v = (.agg #[.bool false, .string S2, .slice none 0 0]) ∧ s = none) (by decide) rfl ⟨_, _, rfl, rfl⟩ (fun w' hR => ?_) (fun _ _ _ _ _ => trivial) (fun K hK v s2 hs2 => ?_)
  focus
    have cQ := cT S2 w'
    go_simp
    exact cQ.mono (by rintro e w4 ⟨rfl, hb⟩; exact ⟨_, rfl, _, ⟨rfl, rfl⟩, hR.below hb⟩)
  obtain ⟨rfl, rfl⟩ := hs2
  (go_simp; refine hK _ _ ?_; clear hK K)
  iterate 2 ((refine flowU_lateE rfl rfl (fun K hK => ?_); apply Exists.intro; apply And.intro; (focus (intro s0 w' hC hR; have p0 := (hR.bel.cell (p := ⟨W.heap.size, 0, none⟩) hlt).trans x0; have p1 := (hR.bel.cell (p := ⟨W.heap.size, 1, none⟩) hlt).trans x1; have p2 := (hR.bel.cell (p := ⟨W.heap.size, 2, none⟩) hlt).trans x2; have p3 := (hR.bel.cell (p := ⟨W.heap.size, 3, none⟩) hlt).trans x3; have p4 := (hR.bel.cell (p := ⟨W.heap.size, 4, none⟩) hlt).trans x4; have p5 := (hR.bel.cell (p := ⟨W.heap.size, 5, none⟩) hlt).trans x5; have p6 := (hR.bel.cell (p := ⟨W.heap.size, 6, none⟩) hlt).trans x6; clear hR; go_simp; (try go_bits); exact rfl)); go_simp; (try go_bits); refine hK _ ?_; clear hK K))
  refine flowU_step (fun v s => v = (.agg #[.bool false, .string S3, .slice none 0 0]) ∧ s = none) (by decide) rfl ⟨_, _, rfl, rfl⟩ (fun w' hR => ?_) (fun _ _ _ _ _ => trivial) (fun K hK v s2 hs2 => ?_)
  focus
    have cQ := cT S3 w'
    go_simp
    exact cQ.mono (by rintro e w4 ⟨rfl, hb⟩; exact ⟨_, rfl, _, ⟨rfl, rfl⟩, hR.below hb⟩)
  obtain ⟨rfl, rfl⟩ := hs2
  (go_simp; refine hK _ _ ?_; clear hK K)
  refine flowU_step (fun v s => ∃ g, v = .slice (some ⟨g, 0, none⟩) 4 4 ∧ s = some g) (by decide) rfl ⟨_, _, 0, rfl, rfl⟩ (fun w' hR => ?_) (fun _ _ _ _ _ => trivial) (fun K hK v s2 hs2 => ?_)
  focus
    have hb := hR.bel
    clear hR
    go_simp
    exact ⟨hb.alloc hb.size _, fun q hq => by obtain rfl := Option.some.inj hq; exact heap_new rfl⟩
  obtain ⟨gz, rfl, rfl⟩ := hs2
  (go_simp; refine hK _ _ ?_; clear hK K)
  refine flowU_step (fun v s => v = .agg #[.bool true, .string ⟨#[]⟩, .slice (some ⟨gz, 0, none⟩) 4 4] ∧ s = some gz) (by decide) rfl ⟨_, _, rfl, rfl⟩ (fun w' hR => ?_) (fun _ _ _ _ _ => trivial) (fun K hK v s2 hs2 => ?_)
  focus
    go_simp
    exact (List_any (some ⟨gz, 0, none⟩) 4 4 w').mono (by rintro e w4 ⟨rfl, hb⟩; exact ⟨_, rfl, _, ⟨rfl, rfl⟩, hR.below hb⟩)
  obtain ⟨rfl, rfl⟩ := hs2
  (go_simp; refine hK _ _ ?_; clear hK K)
  refine flowU_step (fun v s => v = .tuple #[.string E, .int .i64 0] ∧ s = some gz) (by decide) rfl ⟨_, _, rfl, rfl⟩ (fun w' hR => ?_) (fun _ _ _ _ _ => trivial) (fun K hK v s2 hs2 => ?_)
  focus
    have cE := cEh.out w' gz (hR.one gz rfl)
    go_simp
    exact cE.mono (by rintro e w4 ⟨rfl, hb⟩; exact ⟨_, rfl, _, ⟨rfl, rfl⟩, hR.below hb⟩)
  obtain ⟨rfl, rfl⟩ := hs2
  (go_simp; refine hK _ _ ?_; clear hK K)
  iterate 4 ((refine flowU_readE rfl rfl (fun K hK => ?_); apply Exists.intro; apply And.intro; (focus (intro w' hR; have p0 := (hR.bel.cell (p := ⟨W.heap.size, 0, none⟩) hlt).trans x0; have p1 := (hR.bel.cell (p := ⟨W.heap.size, 1, none⟩) hlt).trans x1; have p2 := (hR.bel.cell (p := ⟨W.heap.size, 2, none⟩) hlt).trans x2; have p3 := (hR.bel.cell (p := ⟨W.heap.size, 3, none⟩) hlt).trans x3; have p4 := (hR.bel.cell (p := ⟨W.heap.size, 4, none⟩) hlt).trans x4; have p5 := (hR.bel.cell (p := ⟨W.heap.size, 5, none⟩) hlt).trans x5; have p6 := (hR.bel.cell (p := ⟨W.heap.size, 6, none⟩) hlt).trans x6; clear hR; go_simp; (try go_bits); exact rfl)); go_simp; (try go_bits); refine hK _ ?_; clear hK K))
  refine flowU_nil ?_
  intro W2 hR2
  have b2 := hR2.bel
  clear hR2
  go_wp2
  refine bodyPost_ret (by simp only [results, Tryz.results6]; go_simp; try rfl) rfl ⟨rfl, b1.trans (b2.mono (by omega))⟩
end Go.Proofs.YtijidnhaijdfaaaGreatDoor

/- An account that is not right has no bytes; texts, isShort. Conditions: none. -/
namespace Go.Proofs.YtijidnhaijdfaaaGreatDoor
open Go.RowKit
attribute [local go_sem] leftBy leaves Oper.semAt_some
set_option linter.unusedSimpArgs false
set_option linter.unusedVariables false

set_option maxRecDepth 100000 in
set_option maxHeartbeats 8000000 in
theorem acct_Bytes_no (x : Ac) (hr : ¬ x.right) (W : World) : Calls Tryz.prog 6 #[x.v] W fun e w' => e = .returned (.tuple #[.string ⟨#[]⟩, .int .i64 160]) ∧ Below W.heap.size W w' := by
  have z1 := bsS_size x.r
  have z2 := bsS_size x.c
  unfold Ac.v
  have hr2 : ¬ (x.r.length = 32 ∧ x.c.length = 32) := hr
  generalize x.r.length = n1 at *
  generalize x.c.length = n2 at *
  generalize bsS x.r = S2 at *
  generalize bsS x.c = S3 at *
  have h0 := heap_new (w := W) (o := .cells #[.int .u64 (x.n : Nat), .int .u64 (lb x.b 0 : Nat), .int .u64 (lb x.b 1 : Nat), .int .u64 (lb x.b 2 : Nat), .int .u64 (lb x.b 3 : Nat), .string S2, .string S3] 33) rfl
  have x5 := Lib.cell_of_heap h0 5
  have x6 := Lib.cell_of_heap h0 6
  simp only [List.getElem?_toArray, List.getElem?_cons_zero, List.getElem?_cons_succ] at x5 x6
  have b1 : Below W.heap.size W (W.alloc (.cells #[.int .u64 (x.n : Nat), .int .u64 (lb x.b 0 : Nat), .int .u64 (lb x.b 1 : Nat), .int .u64 (lb x.b 2 : Nat), .int .u64 (lb x.b 3 : Nat), .string S2, .string S3] 33)) := (Below.refl _ W).alloc (Nat.le_refl _) _
  clear h0
  by_cases h1 : n1 = 32
  · subst h1
    have hne : ((n2 : Int) == 32) = false := by
      rw [beq_eq_false_iff_ne]
      omega
    clear hr2 hr
    go_enter Tryz.func6, Tryz.ntmps6
    go_wp2
    refine bodyPost_ret (by simp only [results, Tryz.results6]; go_simp; try rfl) rfl ⟨rfl, b1⟩
  · have hne : ((n1 : Int) == 32) = false := by
      rw [beq_eq_false_iff_ne]
      omega
    clear hr2 hr h1
    go_enter Tryz.func6, Tryz.ntmps6
    go_wp2
    refine bodyPost_ret (by simp only [results, Tryz.results6]; go_simp; try rfl) rfl ⟨rfl, b1⟩
/-- Short bytes are short. -/
def okShort (s : Bs) : Prop := s.length ≤ 32 ∧ ∀ t, s ≠ 0 :: t
theorem isShort_any (s : Bs) (hs : okShort s) (W : World) : Calls Tryz.prog 29 #[.string (bsS s)] W fun e w' => e = .returned (.bool true) ∧ Below W.heap.size W w' := by
  have hz := bsS_size s
  have hl := hs.1
  have hli : (s.length : Int) ≤ 32 := by omega
  have cP : ∀ w, Calls Tryz.prog 49 #[.string (bsS s), .string ⟨#[0]⟩] w fun e w' => e = .returned (.bool false) ∧ w' = w := fun w => by
    have h := strings_HasPrefix (bsS s) ⟨#[0]⟩ w
    have e : Lib.hasPrefix (bsS s).data.toList [0] = false := by
      show ([0] : Bs).isPrefixOf s = false
      rw [one_prefix]
      cases hq : s with
      | nil => rfl
      | cons b t =>
        have h2 : b ≠ 0 := fun h => hs.2 t (by rw [hq, h])
        show ((0 : UInt8) == b) = false
        rw [beq_eq_false_iff_ne]
        exact fun h => h2 h.symm
    rw [show (⟨#[0]⟩ : ByteArray).data.toList = [0] from rfl, e] at h
    exact h
  go_enter Tryz.func29, Tryz.ntmps29
  go_wp2_with (go_at_call 49; refine (cP _).mono ?_; rintro e _ ⟨rfl, hww⟩; obtain rfl := hww.symm)
  refine bodyPost_ret (by simp only [results, Tryz.results29]; go_simp; try rfl) rfl ⟨rfl, Below.refl _ _⟩
theorem wordS_short (n : Nat) : okShort (wordS n) := ⟨wordS_len n, wordS_head n⟩
theorem From_word (n : Nat) (hn : n < Q256) (W : World) : Calls Tryz.prog 28 #[.string (bsS (wordS n))] W fun e w' => e = .returned (W4 n) ∧ Below W.heap.size W w' := by
  have hl := wordS_len n
  have hz := bsS_size (wordS n)
  have h := From_any (bsS (wordS n)) (by rw [hz]; unfold maxLen; omega) W
  rw [hz, Nat.min_eq_left hl, orF_valB, wordS_val hn] at h
  exact h
end Go.Proofs.YtijidnhaijdfaaaGreatDoor

/- The texts of a list: acct.texts. Conditions: they are texts. -/
namespace Go.Proofs.YtijidnhaijdfaaaGreatDoor
open Go.RowKit
attribute [local go_sem] leftBy leaves Oper.semAt_some
set_option linter.unusedSimpArgs false
set_option linter.unusedVariables false

set_option maxRecDepth 100000 in
set_option maxHeartbeats 8000000 in
theorem texts_any (L : List Bs) (hL : L.length ≤ 100000) (W : World) (v : Value) (hv : itF (fun _ => True) W (.list (L.map .text)) v) :
    Calls Tryz.prog 26 #[v] W fun e w' => ∃ u, e = .returned (.tuple #[u, .bool true]) ∧ rowF (fun g => W.heap.size ≤ g) w' u (L.map fun s => .string (bsS s)) ∧ Below W.heap.size W w' := by
  rw [itF] at hv
  obtain ⟨a, c, rfl, _, hits⟩ := hv
  rw [List.length_map]
  have hat := itsF_at 0 hits
  obtain ⟨i0, hi, hz0, hz1, hz2⟩ := info_parts infoS
  have h0 := heap_new (w := W) (o := .cells #[.bool true, .string ⟨#[]⟩, .slice a L.length c] 51) rfl
  have b1 : Below W.heap.size W (W.alloc (.cells #[.bool true, .string ⟨#[]⟩, .slice a L.length c] 51)) := (Below.refl _ W).alloc (Nat.le_refl _) _
  have zz : (W.alloc (.cells #[.bool true, .string ⟨#[]⟩, .slice a L.length c] 51)).heap.size = W.heap.size + 1 := World.size_alloc _ _
  obtain ⟨x0, x1, x2⟩ := cell3 h0
  clear hits
  go_enter Tryz.func26, Tryz.ntmps26
  go_wp2
  generalize W.alloc (.cells #[.bool true, .string ⟨#[]⟩, .slice a L.length c] 51) = W1 at *
  go_loopw [4, 10] (fun o x wr => ∃ i : Nat, i ≤ L.length ∧ x = .int .i64 (i : Nat) ∧ wr.ownsRow W1.heap.size 9 1 o i ((L.take i).map fun s => .string (bsS s)) ∧ Below W1.heap.size W1 wr) (fun o x _ => L.length - (intOf x).toNat)
  case atStart => exact ⟨0, Nat.zero_le _, rfl, World.ownsRow_nil _ _ _ _, Below.refl _ _⟩
  case round =>
    obtain ⟨i, hil, rfl, hrow, hbel⟩ := hrel
    obtain ⟨va, vc, rfl, hvc1, _⟩ := row_form hrow
    by_cases hlt : i < L.length
    · obtain ⟨s, hs⟩ : ∃ s, L[i]? = some s := ⟨_, List.getElem?_eq_getElem hlt⟩
      obtain ⟨bl, o, rfl, hbl, p, n, cc, c0, c1, c2, _⟩ := hat i (.text s) (by rw [List.getElem?_map, hs]; rfl)
      rw [Nat.zero_add] at c0 c1 c2
      simp only [isL, txt] at c0 c1
      have hb := b1.trans (hbel.mono (by omega))
      have d0 := (hb.cell (p := ⟨bl, o + i * 3, none⟩) hbl).trans c0
      have d1 := (hb.cell (p := ⟨bl, o + i * 3 + 1, none⟩) hbl).trans c1
      have d2 := (hb.cell (p := ⟨bl, o + i * 3 + 2, none⟩) hbl).trans c2
      have hlti : (i : Int) < (L.length : Int) := by omega
      have hz := hbel.size
      have y := heap_new (w := wr) (o := .cells #[.bool false, .string (bsS s), .slice p n cc] 51) rfl
      obtain ⟨y0, y1, y2⟩ := cell3 y
      have hrow5 := (hrow.alloc (.cells #[.bool false, .string (bsS s), .slice p n cc] 51)).alloc (.cells #[.string (bsS s)] 9)
      have hao := row_lt hrow
      have zr : (wr.alloc (.cells #[.bool false, .string (bsS s), .slice p n cc] 51)).heap.size = wr.heap.size + 1 := World.size_alloc _ _
      have hnew : ∀ j u, [Value.string (bsS s)][j]? = some u → ((wr.alloc (.cells #[.bool false, .string (bsS s), .slice p n cc] 51)).alloc (.cells #[.string (bsS s)] 9)).cell? ((⟨wr.heap.size + 1, 0, none⟩ : Addr).add j) = some u := by
        rw [← zr]
        exact cell_one_new _ _ _
      clear hat c0 c1 c2 y
      refine wp_hide fun QQ hQQ => ?_
      go_wp2_with (at_builtin; refine wpList_append_own_at _ rfl _ _ 23 rfl W1.heap.size 9 i0 (.string ⟨#[]⟩) 1 16 Tryz.underlying23 hi hz0 hz1 hz2 rfl (by decide) _ _ _ rfl hrow5 ⟨wr.heap.size + 1, 0, none⟩ 1 1 [.string (bsS s)] rfl rfl hnew (by simp [Value.oneCell']) (by unfold maxLen; omega) (by omega) (by simp; omega) ?_; intro o6 w6 hown6 hgrow6 _ hat6; obtain ⟨a6, c6, rfl, _, _⟩ := row_form hown6)
      have hg6 := hgrow6.size
      rw [World.size_alloc, World.size_alloc] at hg6
      have B6 : Below W1.heap.size W1 w6 := ((hbel.alloc hz _).alloc (by omega) _).trans ⟨hgrow6.os, hgrow6.tape, hgrow6.output, by rw [World.size_alloc, World.size_alloc]; exact hg6, fun g hg => hgrow6.block g (by rw [World.size_alloc, World.size_alloc]; omega) (fun e => by have := hao g e.symm; omega)⟩
      have e6 : (L.take (i + 1)).map (fun s => Value.string (bsS s)) = (L.take i).map (fun s => Value.string (bsS s)) ++ [.string (bsS s)] := by
        rw [List.take_succ_eq_append_getElem hlt, (List.getElem?_eq_some_iff.1 hs).2, List.map_append]
        rfl
      rw [← e6] at hown6
      clear hrow hrow5 hao hat6 hgrow6 hnew
      go_wp2
      refine hQQ.out _ _ _ ?_
      simp only [Exit.then, Exit.inBlock]
      go_roundw
      case rel => exact ⟨i + 1, by omega, by go_num, hown6, B6⟩
      case measure => simp [intOf]; omega
    · obtain rfl : i = L.length := by omega
      rw [List.take_length] at hrow
      have hfin := rowF_own (F := fun g => W.heap.size ≤ g) (xs := L.map fun s => .string (bsS s)) (by rw [List.length_map]; exact hrow) fun g hg => by have := row_lt hrow g hg; omega
      have hbf : Below W.heap.size W wr := b1.trans (hbel.mono (by omega))
      have hlx : W.heap.size < W1.heap.size := by omega
      have d0 := (hbel.cell (p := ⟨W.heap.size, 0, none⟩) hlx).trans x0
      clear hat
      go_wp2
      first | refine wp_flow (fun k => ([1, 1, 1, 1, 1] : List Nat).getD k 1) Dr _ (Dr.next _ _) (by kernel_rfl) (by kernel_rfl) ?_ | refine wp_flow (fun k => ([1, 1, 1, 1, 1] : List Nat).getD k 1) Dr _ (Dr.one _) (by kernel_rfl) (by kernel_rfl) ?_
      iterate 5 ((refine flow_quiet rfl rfl (fun K hK => ?_); apply Exists.intro; apply And.intro; (focus (rintro w' ⟨nn, rfl⟩; go_simp; (try go_bits); exact ⟨rfl, Dr.of _ _⟩)); go_simp; (try go_bits); refine hK _ ?_; clear hK K))
      refine flow_nil ?_
      rintro w' ⟨nq, rfl⟩
      go_wp2
      refine bodyPost_ret (by simp only [results, Tryz.results26]; go_simp; try rfl) rfl ⟨_, rfl, rowF.to (F := fun g => W.heap.size ≤ g) (F' := fun g => W.heap.size ≤ g) (W := wr) (W' := wr.drewN nq) (fun g hg _ => ⟨hg, rfl⟩) hfin, below_drewN hbf _⟩
end Go.Proofs.YtijidnhaijdfaaaGreatDoor

/- The account of bytes: acct.From. Conditions: they are a right account's. -/
namespace Go.Proofs.YtijidnhaijdfaaaGreatDoor
open Go.RowKit
attribute [local go_sem] leftBy leaves Oper.semAt_some
set_option linter.unusedSimpArgs false
set_option linter.unusedVariables false

def Ac.cs (x : Ac) : Array Value := #[.int .u64 (x.n : Nat), .int .u64 (lb x.b 0 : Nat), .int .u64 (lb x.b 1 : Nat), .int .u64 (lb x.b 2 : Nat), .int .u64 (lb x.b 3 : Nat), .string (bsS x.r), .string (bsS x.c)]
def ac0 : Array Value := #[.int .u64 0, .int .u64 0, .int .u64 0, .int .u64 0, .int .u64 0, .string ⟨#[]⟩, .string ⟨#[]⟩]
/-- Where the region stands that lays an account. -/
structure fmR (W1 : World) (x : Ac) (σ : Option Nat × Nat) (w' : World) : Prop where
  bel : Below W1.heap.size W1 w'
  one : ∀ q, σ.1 = some q → W1.heap.size ≤ q ∧ w'.heap[q]? = some (.cells (if σ.2 = 1 then x.cs else ac0) 33 (0, 0))
theorem fmR.below {W1 w' w2 : World} {x : Ac} {σ : Option Nat × Nat} (h : fmR W1 x σ w') (hb : Below w'.heap.size w' w2) : fmR W1 x σ w2 :=
  ⟨h.bel.trans (hb.mono h.bel.size), fun q hq => ⟨(h.one q hq).1, (hb.block q (Array.getElem?_eq_some_iff.1 (h.one q hq).2).1).trans (h.one q hq).2⟩⟩
def fmT (B : Value) (k : Nat) (σ : Option Nat × Nat) (v : Value) (σ2 : Option Nat × Nat) : Prop := match k with
  | 4 => v = B ∧ σ2 = σ
  | 12 => ∃ g, v = .pointer (some ⟨g, 0, none⟩) ∧ σ2 = (some g, σ.2)
  | 13 => v = undef ∧ σ2 = (σ.1, 1)
  | _ => False
def fmV (n : Nat) (B : Value) (lb lo lc : Nat) (S1 S2 S3 : ByteArray) (A : Value) (i : Nat) (_ : Option Nat × Nat) : Value := match i with
  | 0 => .int .u64 (n : Nat)
  | 1 => .slice (some ⟨lb, lo, none⟩) 4 lc
  | 2 => .pointer (some ⟨lb, lo + 1, none⟩)
  | 3 => .string S1
  | 5 => .slice (some ⟨lb, lo, none⟩) 4 lc
  | 6 => .pointer (some ⟨lb, lo + 2, none⟩)
  | 7 => .string S2
  | 8 => .slice (some ⟨lb, lo, none⟩) 4 lc
  | 9 => .pointer (some ⟨lb, lo + 3, none⟩)
  | 10 => .string S3
  | _ => A
theorem put7 {W : World} {q : Nat} {x0 x1 x2 x3 x4 x5 x6 : Value} {t : TypeId} (h : W.heap[q]? = some (.cells #[x0, x1, x2, x3, x4, x5, x6] t (0, 0))) (a b c d e f g : Value) : ((((((((W.setCell ⟨q, 0, none⟩ a).setCell ⟨q, 1, none⟩ b).setCell ⟨q, 2, none⟩ c).setCell ⟨q, 3, none⟩ d).setCell ⟨q, 4, none⟩ e).setCell ⟨q, 5, none⟩ f).setCell ⟨q, 6, none⟩ g)).heap[q]? = some (.cells #[a, b, c, d, e, f, g] t (0, 0)) := by
  rw [setCell_at (setCell_at (setCell_at (setCell_at (setCell_at (setCell_at (setCell_at h 0 _) 1 _) 2 _) 3 _) 4 _) 5 _) 6]
  rfl
theorem put7_below {N : Nat} {W0 W : World} {q : Nat} (h : Below N W0 W) (hq : N ≤ q) (a b c d e f g : Value) : Below N W0 (((((((W.setCell ⟨q, 0, none⟩ a).setCell ⟨q, 1, none⟩ b).setCell ⟨q, 2, none⟩ c).setCell ⟨q, 3, none⟩ d).setCell ⟨q, 4, none⟩ e).setCell ⟨q, 5, none⟩ f).setCell ⟨q, 6, none⟩ g) :=
  ((((((h.setCell (p := ⟨q, 0, none⟩) hq a).setCell (p := ⟨q, 1, none⟩) hq b).setCell (p := ⟨q, 2, none⟩) hq c).setCell (p := ⟨q, 3, none⟩) hq d).setCell (p := ⟨q, 4, none⟩) hq e).setCell (p := ⟨q, 5, none⟩) hq f).setCell (p := ⟨q, 6, none⟩) hq g
set_option maxRecDepth 100000 in
set_option maxHeartbeats 8000000 in
theorem acct_From (x : Ac) (hw : x.wf) (hr : x.right) (W : World) : Calls Tryz.prog 10 #[.string (bsS (enc x.item))] W fun e w' => e = .returned (.tuple #[x.v, .int .i64 0]) ∧ Below W.heap.size W w' := by
  have cD := fun w => Decode_any x.item (by unfold Ac.item; simp [dep, deps]) (Nat.le_trans (x.enc_le hr) (by decide)) w
  have cT := fun w v (h : itF (fun _ => True) w x.item v) => texts_any [num x.n, wordS x.b, x.r, x.c] (by show 4 ≤ 100000; decide) w v h
  have cV := fun w => Value_any (num x.n) (num_ok x.n) w
  rw [valB_num (by have := hw.1; omega)] at cV
  have cF := fun w => From_word x.b hw.2 w
  have cI := fun w => isShort_any (wordS x.b) (wordS_short x.b) w
  obtain ⟨h1, h2⟩ := hr
  have z1 := bsS_size x.r
  have z2 := bsS_size x.c
  rw [h1] at z1
  rw [h2] at z2
  have hL : isL x.item = true := rfl
  unfold Ac.v
  generalize bsS (enc x.item) = E at *
  have cTh := Lib.hid cT
  clear cT hw h1 h2
  go_enter Tryz.func10, Tryz.ntmps10
  go_wp2_with (first | (go_at_call 25; refine (cD _).mono ?_; rintro e w2 ⟨v, rfl, hit, hb2⟩; obtain ⟨va, vc, rfl, _⟩ := hit.form; rw [hL] at hit; have b3 := (Below.refl _ w2).alloc (Nat.le_refl _) (.cells #[.bool true, .string (bsS (txt x.item)), .slice va (subs x.item).length vc] 51); have hit3 := (hit.below b3).to (F' := fun _ => True) (W' := w2.alloc (.cells #[.bool true, .string (bsS (txt x.item)), .slice va (subs x.item).length vc] 51)) (fun q _ _ => ⟨trivial, rfl⟩); have z2' := hb2.size; have z3 : (w2.alloc (.cells #[.bool true, .string (bsS (txt x.item)), .slice va (subs x.item).length vc] 51)).heap.size = w2.heap.size + 1 := World.size_alloc _ _) | (go_at_call 26; refine (cTh.out _ _ hit3).mono ?_; rintro e w4 ⟨u, rfl, ⟨la, lc, rfl, _, hcell⟩, hb4⟩))
  obtain ⟨bl, o, ⟨rfl, hbl⟩, l0⟩ := hcell 0 _ rfl
  obtain ⟨b1', o1', ⟨e1, _⟩, l1⟩ := hcell 1 _ rfl
  obtain ⟨b2', o2', ⟨e2, _⟩, l2⟩ := hcell 2 _ rfl
  obtain ⟨b3', o3', ⟨e3, _⟩, l3⟩ := hcell 3 _ rfl
  simp only [Option.some.injEq, Addr.mk.injEq, and_true] at e1 e2 e3
  obtain ⟨rfl, rfl⟩ := e1
  obtain ⟨rfl, rfl⟩ := e2
  obtain ⟨rfl, rfl⟩ := e3
  rw [Nat.add_zero] at l0
  have hbl4 := lt_of_cell l0
  have z1' : (W.alloc (.cells #[.int .u64 0, .int .u64 0, .int .u64 0, .int .u64 0, .int .u64 0, .string ⟨#[]⟩, .string ⟨#[]⟩] 33)).heap.size = W.heap.size + 1 := World.size_alloc _ _
  have hz4 := hb4.size
  have r4 := (hb4.block W.heap.size (by omega)).trans ((b3.block W.heap.size (by omega)).trans ((hb2.block W.heap.size (by omega)).trans (heap_new (w := W) (o := .cells #[.int .u64 0, .int .u64 0, .int .u64 0, .int .u64 0, .int .u64 0, .string ⟨#[]⟩, .string ⟨#[]⟩] 33) rfl)))
  have B4 : Below W.heap.size W w4 := (((Below.refl _ W).alloc (Nat.le_refl _) _).trans (hb2.mono (by omega))).trans ((b3.mono (by omega)).trans (hb4.mono (by omega)))
  clear hcell hit hit3 cTh cD
  go_wp2_with (go_at_call 27; refine (cV _).mono ?_; rintro e w5 ⟨rfl, hb5⟩)
  have z5 := hb5.size
  have m1 := (hb5.cell (p := ⟨bl, o + 1, none⟩) hbl4).trans l1
  have m2 := (hb5.cell (p := ⟨bl, o + 2, none⟩) hbl4).trans l2
  have m3 := (hb5.cell (p := ⟨bl, o + 3, none⟩) hbl4).trans l3
  have r5 := (hb5.block W.heap.size (by omega)).trans r4
  have hbl5 : bl < w5.heap.size := by omega
  refine wp_flowW (fun k => ([0, 0, 0, 0, 2, 0, 0, 0, 0, 0, 0, 0, 2, 2] : List Nat).getD k 1) (fun i j => ([(0, 4), (0, 12), (1, 12), (2, 12), (3, 12), (4, 0), (4, 5), (4, 6), (4, 7), (4, 8), (4, 9), (4, 10), (4, 12), (5, 4), (5, 12), (6, 4), (6, 12), (7, 4), (7, 12), (8, 4), (8, 12), (9, 4), (9, 12), (10, 4), (10, 12), (11, 12), (12, 0), (12, 1), (12, 2), (12, 3), (12, 4), (12, 5), (12, 6), (12, 7), (12, 8), (12, 9), (12, 10), (12, 11)] : List (Nat × Nat)).contains (i, j)) (fmR w5 x) (fmT (W4 x.b)) (fmV x.n (W4 x.b) bl o lc (bsS (wordS x.b)) (bsS x.r) (bsS x.c) (.agg #[.int .u64 (x.n : Nat), .int .u64 (lb x.b 0 : Nat), .int .u64 (lb x.b 1 : Nat), .int .u64 (lb x.b 2 : Nat), .int .u64 (lb x.b 3 : Nat), .string (bsS x.r), .string (bsS x.c)])) ((none, 0)) (⟨below_drewN (Below.refl _ _) _, fun q h => (by cases h)⟩) (by kernel_rfl) (by intro i j hu hi hj; have hu : (i, j) ∈ ([(0, 4), (0, 12), (1, 12), (2, 12), (3, 12), (4, 0), (4, 5), (4, 6), (4, 7), (4, 8), (4, 9), (4, 10), (4, 12), (5, 4), (5, 12), (6, 4), (6, 12), (7, 4), (7, 12), (8, 4), (8, 12), (9, 4), (9, 12), (10, 4), (10, 12), (11, 12), (12, 0), (12, 1), (12, 2), (12, 3), (12, 4), (12, 5), (12, 6), (12, 7), (12, 8), (12, 9), (12, 10), (12, 11)] : List (Nat × Nat)) := mem_un hu; simp only [List.mem_cons, Prod.mk.injEq, List.not_mem_nil, or_false] at hu; rcases hu with ⟨rfl, rfl⟩ | ⟨rfl, rfl⟩ | ⟨rfl, rfl⟩ | ⟨rfl, rfl⟩ | ⟨rfl, rfl⟩ | ⟨rfl, rfl⟩ | ⟨rfl, rfl⟩ | ⟨rfl, rfl⟩ | ⟨rfl, rfl⟩ | ⟨rfl, rfl⟩ | ⟨rfl, rfl⟩ | ⟨rfl, rfl⟩ | ⟨rfl, rfl⟩ | ⟨rfl, rfl⟩ | ⟨rfl, rfl⟩ | ⟨rfl, rfl⟩ | ⟨rfl, rfl⟩ | ⟨rfl, rfl⟩ | ⟨rfl, rfl⟩ | ⟨rfl, rfl⟩ | ⟨rfl, rfl⟩ | ⟨rfl, rfl⟩ | ⟨rfl, rfl⟩ | ⟨rfl, rfl⟩ | ⟨rfl, rfl⟩ | ⟨rfl, rfl⟩ | ⟨rfl, rfl⟩ | ⟨rfl, rfl⟩ | ⟨rfl, rfl⟩ | ⟨rfl, rfl⟩ | ⟨rfl, rfl⟩ | ⟨rfl, rfl⟩ | ⟨rfl, rfl⟩ | ⟨rfl, rfl⟩ | ⟨rfl, rfl⟩ | ⟨rfl, rfl⟩ | ⟨rfl, rfl⟩ | ⟨rfl, rfl⟩ <;> first | exact absurd hi (by decide) | exact absurd hj (by decide) | (intro s u s1 v s2 h1 h2; (first | (obtain ⟨rfl, rfl⟩ := h1; obtain ⟨g, rfl, rfl⟩ := h2; exact ⟨_, ⟨g, rfl, rfl⟩, ⟨rfl, rfl⟩⟩) | (obtain ⟨g, rfl, rfl⟩ := h1; obtain ⟨rfl, rfl⟩ := h2; exact ⟨_, ⟨rfl, rfl⟩, ⟨g, rfl, rfl⟩⟩)))) (by intro i j hu hi hj; have hu : (i, j) ∈ ([(0, 4), (0, 12), (1, 12), (2, 12), (3, 12), (4, 0), (4, 5), (4, 6), (4, 7), (4, 8), (4, 9), (4, 10), (4, 12), (5, 4), (5, 12), (6, 4), (6, 12), (7, 4), (7, 12), (8, 4), (8, 12), (9, 4), (9, 12), (10, 4), (10, 12), (11, 12), (12, 0), (12, 1), (12, 2), (12, 3), (12, 4), (12, 5), (12, 6), (12, 7), (12, 8), (12, 9), (12, 10), (12, 11)] : List (Nat × Nat)) := mem_un hu; simp only [List.mem_cons, Prod.mk.injEq, List.not_mem_nil, or_false] at hu; rcases hu with ⟨rfl, rfl⟩ | ⟨rfl, rfl⟩ | ⟨rfl, rfl⟩ | ⟨rfl, rfl⟩ | ⟨rfl, rfl⟩ | ⟨rfl, rfl⟩ | ⟨rfl, rfl⟩ | ⟨rfl, rfl⟩ | ⟨rfl, rfl⟩ | ⟨rfl, rfl⟩ | ⟨rfl, rfl⟩ | ⟨rfl, rfl⟩ | ⟨rfl, rfl⟩ | ⟨rfl, rfl⟩ | ⟨rfl, rfl⟩ | ⟨rfl, rfl⟩ | ⟨rfl, rfl⟩ | ⟨rfl, rfl⟩ | ⟨rfl, rfl⟩ | ⟨rfl, rfl⟩ | ⟨rfl, rfl⟩ | ⟨rfl, rfl⟩ | ⟨rfl, rfl⟩ | ⟨rfl, rfl⟩ | ⟨rfl, rfl⟩ | ⟨rfl, rfl⟩ | ⟨rfl, rfl⟩ | ⟨rfl, rfl⟩ | ⟨rfl, rfl⟩ | ⟨rfl, rfl⟩ | ⟨rfl, rfl⟩ | ⟨rfl, rfl⟩ | ⟨rfl, rfl⟩ | ⟨rfl, rfl⟩ | ⟨rfl, rfl⟩ | ⟨rfl, rfl⟩ | ⟨rfl, rfl⟩ | ⟨rfl, rfl⟩ <;> first | exact absurd hi (by decide) | exact absurd hj (by decide) | (intro s u s1 v s2 h1 h2; (first | (obtain ⟨rfl, rfl⟩ := h2; exact ⟨_, _, ⟨rfl, rfl⟩⟩) | (obtain ⟨_, rfl, rfl⟩ := h2; exact ⟨_, _, ⟨0, rfl, rfl⟩⟩)))) (by intro i j hu hi hj; have hu : (i, j) ∈ ([(0, 4), (0, 12), (1, 12), (2, 12), (3, 12), (4, 0), (4, 5), (4, 6), (4, 7), (4, 8), (4, 9), (4, 10), (4, 12), (5, 4), (5, 12), (6, 4), (6, 12), (7, 4), (7, 12), (8, 4), (8, 12), (9, 4), (9, 12), (10, 4), (10, 12), (11, 12), (12, 0), (12, 1), (12, 2), (12, 3), (12, 4), (12, 5), (12, 6), (12, 7), (12, 8), (12, 9), (12, 10), (12, 11)] : List (Nat × Nat)) := mem_un hu; simp only [List.mem_cons, Prod.mk.injEq, List.not_mem_nil, or_false] at hu; rcases hu with ⟨rfl, rfl⟩ | ⟨rfl, rfl⟩ | ⟨rfl, rfl⟩ | ⟨rfl, rfl⟩ | ⟨rfl, rfl⟩ | ⟨rfl, rfl⟩ | ⟨rfl, rfl⟩ | ⟨rfl, rfl⟩ | ⟨rfl, rfl⟩ | ⟨rfl, rfl⟩ | ⟨rfl, rfl⟩ | ⟨rfl, rfl⟩ | ⟨rfl, rfl⟩ | ⟨rfl, rfl⟩ | ⟨rfl, rfl⟩ | ⟨rfl, rfl⟩ | ⟨rfl, rfl⟩ | ⟨rfl, rfl⟩ | ⟨rfl, rfl⟩ | ⟨rfl, rfl⟩ | ⟨rfl, rfl⟩ | ⟨rfl, rfl⟩ | ⟨rfl, rfl⟩ | ⟨rfl, rfl⟩ | ⟨rfl, rfl⟩ | ⟨rfl, rfl⟩ | ⟨rfl, rfl⟩ | ⟨rfl, rfl⟩ | ⟨rfl, rfl⟩ | ⟨rfl, rfl⟩ | ⟨rfl, rfl⟩ | ⟨rfl, rfl⟩ | ⟨rfl, rfl⟩ | ⟨rfl, rfl⟩ | ⟨rfl, rfl⟩ | ⟨rfl, rfl⟩ | ⟨rfl, rfl⟩ | ⟨rfl, rfl⟩ <;> first | exact absurd hi (by decide) | exact absurd hj (by decide) | (intro s v s1 h1; rfl)) (by kernel_rfl) ?_
  iterate 4 ((refine flowW_late (fun _ => True) rfl rfl trivial (fun _ _ _ _ _ _ _ => Iff.rfl) (fun s0 w' hE hR => ?_) (fun K hK => ?_); (focus (have p1 := (hR.bel.cell (p := ⟨bl, o + 1, none⟩) hbl5).trans m1; have p2 := (hR.bel.cell (p := ⟨bl, o + 2, none⟩) hbl5).trans m2; have p3 := (hR.bel.cell (p := ⟨bl, o + 3, none⟩) hbl5).trans m3; clear hR; go_simp; (try go_bits); first | done | exact rfl | (cases hE; rfl))); (try simp only [fmV]); go_simp; (try go_bits); refine hK _ ?_; clear hK K))
  refine flowW_step (fun _ => True) (by decide) rfl trivial (by intro j hu hj s v s1 hT; have hu : (4, j) ∈ ([(0, 4), (0, 12), (1, 12), (2, 12), (3, 12), (4, 0), (4, 5), (4, 6), (4, 7), (4, 8), (4, 9), (4, 10), (4, 12), (5, 4), (5, 12), (6, 4), (6, 12), (7, 4), (7, 12), (8, 4), (8, 12), (9, 4), (9, 12), (10, 4), (10, 12), (11, 12), (12, 0), (12, 1), (12, 2), (12, 3), (12, 4), (12, 5), (12, 6), (12, 7), (12, 8), (12, 9), (12, 10), (12, 11)] : List (Nat × Nat)) := mem_un hu; simp only [List.mem_cons, Prod.mk.injEq, List.not_mem_nil, or_false, Nat.reduceEqDiff, false_and, true_and, false_or] at hu; (try (rcases hu with rfl | rfl | rfl | rfl | rfl | rfl | rfl | rfl)) <;> first | exact absurd hj (by decide) | (first | (obtain ⟨rfl, rfl⟩ := hT; exact Iff.rfl) | (obtain ⟨_, rfl, rfl⟩ := hT; exact Iff.rfl))) ⟨_, _, rfl, rfl⟩ (fun s0 w' hE hR => ?_) (fun K hK v s2 hs2 => ?_)
  focus
    have cQ := cF w'
    go_simp
    exact cQ.mono (by rintro e w2 ⟨rfl, hb⟩; exact ⟨_, rfl, s0.1, s0.2, ⟨rfl, rfl⟩, hR.below hb⟩)
  obtain ⟨rfl, rfl⟩ := hs2
  (go_simp; refine hK _ _ ?_; clear hK K)
  iterate 7 ((refine flowW_late (fun _ => True) rfl rfl trivial (fun _ _ _ _ _ _ _ => Iff.rfl) (fun s0 w' hE hR => ?_) (fun K hK => ?_); (focus (have p1 := (hR.bel.cell (p := ⟨bl, o + 1, none⟩) hbl5).trans m1; have p2 := (hR.bel.cell (p := ⟨bl, o + 2, none⟩) hbl5).trans m2; have p3 := (hR.bel.cell (p := ⟨bl, o + 3, none⟩) hbl5).trans m3; clear hR; go_simp; (try go_bits); first | done | exact rfl | (cases hE; rfl))); (try simp only [fmV]); go_simp; (try go_bits); refine hK _ ?_; clear hK K))
  refine flowW_step (fun σ => σ.2 = 0) (by decide) rfl rfl (by intro j hu hj s v s1 hT; have hu : (12, j) ∈ ([(0, 4), (0, 12), (1, 12), (2, 12), (3, 12), (4, 0), (4, 5), (4, 6), (4, 7), (4, 8), (4, 9), (4, 10), (4, 12), (5, 4), (5, 12), (6, 4), (6, 12), (7, 4), (7, 12), (8, 4), (8, 12), (9, 4), (9, 12), (10, 4), (10, 12), (11, 12), (12, 0), (12, 1), (12, 2), (12, 3), (12, 4), (12, 5), (12, 6), (12, 7), (12, 8), (12, 9), (12, 10), (12, 11)] : List (Nat × Nat)) := mem_un hu; simp only [List.mem_cons, Prod.mk.injEq, List.not_mem_nil, or_false, Nat.reduceEqDiff, false_and, true_and, false_or] at hu; (try (rcases hu with rfl | rfl | rfl | rfl | rfl | rfl | rfl | rfl | rfl | rfl | rfl | rfl)) <;> first | exact absurd hj (by decide) | (first | (obtain ⟨rfl, rfl⟩ := hT; exact Iff.rfl) | (obtain ⟨_, rfl, rfl⟩ := hT; exact Iff.rfl))) ⟨_, _, 0, rfl, rfl⟩ (fun s0 w' hE hR => ?_) (fun K hK v s2 hs2 => ?_)
  focus
    have hb := hR.bel
    clear hR
    go_simp
    exact ⟨some w'.heap.size, s0.2, ⟨_, rfl, rfl⟩, hb.alloc hb.size _, fun q hq => by
      obtain rfl := Option.some.inj hq
      refine ⟨hb.size, ?_⟩
      rw [if_neg (by show ¬ s0.2 = 1; rw [show s0.2 = 0 from hE]; decide)]
      exact heap_new rfl⟩
  obtain ⟨gz, rfl, rfl⟩ := hs2
  (go_simp; refine hK _ _ ?_; clear hK K)
  refine flowW_step (fun σ => σ = (some gz, 0)) (by decide) rfl rfl (by intro j hu; exact absurd (mem_un (l := ([(0, 4), (0, 12), (1, 12), (2, 12), (3, 12), (4, 0), (4, 5), (4, 6), (4, 7), (4, 8), (4, 9), (4, 10), (4, 12), (5, 4), (5, 12), (6, 4), (6, 12), (7, 4), (7, 12), (8, 4), (8, 12), (9, 4), (9, 12), (10, 4), (10, 12), (11, 12), (12, 0), (12, 1), (12, 2), (12, 3), (12, 4), (12, 5), (12, 6), (12, 7), (12, 8), (12, 9), (12, 10), (12, 11)] : List (Nat × Nat))) hu) (by simp)) ⟨_, _, rfl, rfl⟩ (fun s0 w' hE hR => ?_) (fun K hK v s2 hs2 => ?_)
  focus
    subst hE
    obtain ⟨hg, hnow⟩ := hR.one gz rfl
    have hb := hR.bel
    rw [if_neg (show ¬ (some gz, 0).2 = 1 from (by decide : ¬ 0 = 1))] at hnow
    unfold ac0 at hnow
    have c0 := Lib.cell_of_heap hnow 0
    have c1 := Lib.cell_of_heap hnow 1
    have c2 := Lib.cell_of_heap hnow 2
    have c3 := Lib.cell_of_heap hnow 3
    have c4 := Lib.cell_of_heap hnow 4
    have c5 := Lib.cell_of_heap hnow 5
    have c6 := Lib.cell_of_heap hnow 6
    simp only [List.getElem?_toArray, List.getElem?_cons_zero, List.getElem?_cons_succ] at c0 c1 c2 c3 c4 c5 c6
    have f0 := Lib.frozen_of_heap hnow 0
    have f1 := Lib.frozen_of_heap hnow 1
    have f2 := Lib.frozen_of_heap hnow 2
    have f3 := Lib.frozen_of_heap hnow 3
    have f4 := Lib.frozen_of_heap hnow 4
    have f5 := Lib.frozen_of_heap hnow 5
    have f6 := Lib.frozen_of_heap hnow 6
    have hput := put7 hnow (.int .u64 (x.n : Nat)) (.int .u64 (lb x.b 0 : Nat)) (.int .u64 (lb x.b 1 : Nat)) (.int .u64 (lb x.b 2 : Nat)) (.int .u64 (lb x.b 3 : Nat)) (.string (bsS x.r)) (.string (bsS x.c))
    have hbel := put7_below hb hg (.int .u64 (x.n : Nat)) (.int .u64 (lb x.b 0 : Nat)) (.int .u64 (lb x.b 1 : Nat)) (.int .u64 (lb x.b 2 : Nat)) (.int .u64 (lb x.b 3 : Nat)) (.string (bsS x.r)) (.string (bsS x.c))
    clear hR hnow
    go_simp
    exact ⟨some gz, 1, ⟨rfl, rfl⟩, hbel, fun q hq => by
      obtain rfl := Option.some.inj hq
      exact ⟨hg, hput⟩⟩
  obtain ⟨rfl, rfl⟩ := hs2
  (go_simp; refine hK _ _ ?_; clear hK K)
  refine flowW_nil ?_
  intro w6 hR6
  have b6 := hR6.bel
  obtain ⟨hg6, n6⟩ := hR6.one gz rfl
  rw [if_pos rfl] at n6
  unfold Ac.cs at n6
  clear hR6
  have z6 := b6.size
  have m61 := (b6.cell (p := ⟨bl, o + 1, none⟩) hbl5).trans m1
  have r6 := (b6.block W.heap.size (by omega)).trans r5
  have hlg := (Array.getElem?_eq_some_iff.1 n6).1
  have B6 : Below W.heap.size W w6 := (B4.trans (hb5.mono (by omega))).trans (b6.mono (by omega))
  go_wp2_with (go_at_call 29; refine (cI _).mono ?_; rintro e w7 ⟨rfl, hb7⟩; have z7 := hb7.size; have n7 := (hb7.block gz hlg).trans n6; have r7 := (hb7.block W.heap.size (by omega)).trans r6; have q0 := Lib.cell_of_heap n7 0; have q1 := Lib.cell_of_heap n7 1; have q2 := Lib.cell_of_heap n7 2; have q3 := Lib.cell_of_heap n7 3; have q4 := Lib.cell_of_heap n7 4; have q5 := Lib.cell_of_heap n7 5; have q6 := Lib.cell_of_heap n7 6; simp only [List.getElem?_toArray, List.getElem?_cons_zero, List.getElem?_cons_succ] at q0 q1 q2 q3 q4 q5 q6; have t0 := Lib.cell_of_heap r7 0; have t1 := Lib.cell_of_heap r7 1; have t2 := Lib.cell_of_heap r7 2; have t3 := Lib.cell_of_heap r7 3; have t4 := Lib.cell_of_heap r7 4; have t5 := Lib.cell_of_heap r7 5; have t6 := Lib.cell_of_heap r7 6; simp only [List.getElem?_toArray, List.getElem?_cons_zero, List.getElem?_cons_succ] at t0 t1 t2 t3 t4 t5 t6; have f0 := Lib.frozen_of_heap r7 0; have f1 := Lib.frozen_of_heap r7 1; have f2 := Lib.frozen_of_heap r7 2; have f3 := Lib.frozen_of_heap r7 3; have f4 := Lib.frozen_of_heap r7 4; have f5 := Lib.frozen_of_heap r7 5; have f6 := Lib.frozen_of_heap r7 6)
  have hput := put7 r7 (.int .u64 (x.n : Nat)) (.int .u64 (lb x.b 0 : Nat)) (.int .u64 (lb x.b 1 : Nat)) (.int .u64 (lb x.b 2 : Nat)) (.int .u64 (lb x.b 3 : Nat)) (.string (bsS x.r)) (.string (bsS x.c))
  have u0 := Lib.cell_of_heap hput 0; have u1 := Lib.cell_of_heap hput 1; have u2 := Lib.cell_of_heap hput 2; have u3 := Lib.cell_of_heap hput 3; have u4 := Lib.cell_of_heap hput 4; have u5 := Lib.cell_of_heap hput 5; have u6 := Lib.cell_of_heap hput 6; simp only [List.getElem?_toArray, List.getElem?_cons_zero, List.getElem?_cons_succ] at u0 u1 u2 u3 u4 u5 u6
  refine bodyPost_ret (by simp only [results, Tryz.results10]; go_simp; try rfl) rfl ⟨rfl, ?_⟩
  exact put7_below (B6.trans (hb7.mono (by omega))) (Nat.le_refl _) _ _ _ _ _ _ _
end Go.Proofs.YtijidnhaijdfaaaGreatDoor

/- What one pair has proven: shownProof. Conditions: none. -/
namespace Go.Proofs.YtijidnhaijdfaaaGreatDoor
open Go.RowKit
attribute [local go_sem] leftBy leaves Oper.semAt_some
set_option linter.unusedSimpArgs false
set_option linter.unusedVariables false

set_option maxRecDepth 100000 in
set_option maxHeartbeats 8000000 in
theorem Slot_any (n : Nat) (hn : n < Q256) (W : World) : Calls Tryz.prog 17 #[W4 n] W fun e w' => e = .returned (.string (bsS (enc (.text (wordS n))))) ∧ Below W.heap.size W w' := by
  have cS := fun w => short_any n hn w
  have cT := fun w => Text_any (bsS (wordS n)) w
  have cE := fun w => Encode_any (.text (wordS n)) (by show 0 < 12; decide) (by have := text_le (wordS n); have := wordS_len n; omega) (.agg #[.bool false, .string (bsS (wordS n)), .slice none 0 0]) w (by rw [itV])
  have h0 := heap_new (w := W) (o := .cells #[.int .u64 (lb n 0 : Nat), .int .u64 (lb n 1 : Nat), .int .u64 (lb n 2 : Nat), .int .u64 (lb n 3 : Nat)] 31) rfl
  have x0 := Lib.cell_of_heap h0 0
  have x1 := Lib.cell_of_heap h0 1
  have x2 := Lib.cell_of_heap h0 2
  have x3 := Lib.cell_of_heap h0 3
  simp only [List.getElem?_toArray, List.getElem?_cons_zero, List.getElem?_cons_succ] at x0 x1 x2 x3
  generalize bsS (enc (.text (wordS n))) = E at *
  generalize bsS (wordS n) = S at *
  clear h0
  go_enter Tryz.func17, Tryz.ntmps17
  go_wp2_with (first | (go_at_call 19; (with_reducible refine (cS _).mono ?_); rintro e w2 ⟨rfl, hb2⟩) | (go_at_call 13; (with_reducible refine (cT _).mono ?_); rintro e w3 ⟨rfl, hb3⟩) | (go_at_call 12; (with_reducible refine (cE _).mono ?_); rintro e w4 ⟨rfl, hb4⟩))
  refine bodyPost_ret (by simp only [results, Tryz.results17]; go_simp; try rfl) rfl ⟨rfl, ?_⟩
  exact (((Below.refl _ W).alloc (Nat.le_refl _) _).trans (hb2.mono (by simp))).trans ((hb3.mono (by have := hb2.size; simp at this; omega)).trans (hb4.mono (by have := hb2.size; have := hb3.size; simp at *; omega)))
def kvL : List Lf := [([107], [118])]
theorem kv_ok : okP 1 kvL := ⟨Nat.le_refl 1, by decide, fun x hx => by
  rw [List.mem_singleton.1 hx]
  exact ⟨rfl, by decide, by decide⟩, by decide, by decide⟩
theorem kv_k : valOf 1 kvL [107] = [118] := (valOf_spec kv_ok (by decide) [107] rfl).1 [118] (List.mem_singleton.2 rfl)
theorem kv_l : valOf 1 kvL [108] = [] := (valOf_spec kv_ok (by decide) [108] rfl).2 fun v h => by
  have := List.mem_singleton.1 h
  simp at this
theorem kv_lv (W : World) : lvF (fun _ => True) (W.alloc (.cells #[.string ⟨#[107]⟩, .string ⟨#[118]⟩] 36)) (.slice (some ⟨W.heap.size, 0, none⟩) 1 1) kvL :=
  ⟨_, 1, rfl, ⟨Nat.le_refl 1, by decide⟩, fun i x hi => by
    cases i with
    | zero =>
      obtain rfl := Option.some.inj hi
      exact ⟨_, 0, ⟨rfl, trivial⟩, by rw [Lib.cell_of_heap (heap_new rfl)]; rfl, by rw [Lib.cell_of_heap (heap_new rfl)]; rfl⟩
    | succ i => cases hi⟩
theorem word_one : wordS 1 = [1] := by decide +kernel
theorem slot_one : enc (.text (wordS 1)) = [1] := by
  rw [word_one]
  rfl
set_option maxRecDepth 100000 in
set_option maxHeartbeats 8000000 in
theorem shown_any (W : World) (hT : KT W) (h3 : 3 ≤ W.heap.size) : Calls Tryz.prog 5 #[] W fun e w' => e = .returned (.bool true) ∧ Below W.heap.size W w' := by
  have b1 := fun w (hb : Below W.heap.size W w) => hb.alloc hb.size (.cells #[.string ⟨#[107]⟩, .string ⟨#[118]⟩] 36)
  have c1 : ∀ w, Below W.heap.size W w → Calls Tryz.prog 9 #[.slice (some ⟨w.heap.size, 0, none⟩) 1 1, .string ⟨#[107]⟩] (w.alloc (.cells #[.string ⟨#[107]⟩, .string ⟨#[118]⟩] 36)) fun e w' => e = .returned (.tuple #[.string ⟨#[118]⟩, .bool true, .bool true]) ∧ Below (w.heap.size + 1) (w.alloc (.cells #[.string ⟨#[107]⟩, .string ⟨#[118]⟩] 36)) w' := fun w hb => by
    have h := proven_any 1 _ kvL [107] _ kv_ok (by decide) rfl (kv_lv w) (hT.below (b1 w hb) h3) (by have := hb.size; simp; omega)
    rw [kv_k, World.size_alloc] at h
    exact h
  have c2 : ∀ w, Below W.heap.size W w → Calls Tryz.prog 9 #[.slice (some ⟨w.heap.size, 0, none⟩) 1 1, .string ⟨#[108]⟩] (w.alloc (.cells #[.string ⟨#[107]⟩, .string ⟨#[118]⟩] 36)) fun e w' => e = .returned (.tuple #[.string ⟨#[]⟩, .bool false, .bool true]) ∧ Below (w.heap.size + 1) (w.alloc (.cells #[.string ⟨#[107]⟩, .string ⟨#[118]⟩] 36)) w' := fun w hb => by
    have h := proven_any 1 _ kvL [108] _ kv_ok (by decide) rfl (kv_lv w) (hT.below (b1 w hb) h3) (by have := hb.size; simp; omega)
    rw [kv_l, World.size_alloc] at h
    exact h
  have c3 : ∀ w, Calls Tryz.prog 17 #[.agg #[.int .u64 1, .int .u64 0, .int .u64 0, .int .u64 0]] w fun e w' => e = .returned (.string ⟨#[1]⟩) ∧ Below w.heap.size w w' := fun w => by
    have h := Slot_any 1 (by decide) w
    rw [slot_one] at h
    exact h
  have c1h := Lib.hid c1
  have c2h := Lib.hid c2
  clear c1 c2
  go_enter Tryz.func5, Tryz.ntmps5
  go_wp2_with (go_at_call 9; with_reducible refine (c1h.out _ (Below.refl _ W)).mono ?_; rintro e w2 ⟨rfl, hb2⟩)
  have hb2' : Below W.heap.size W w2 := (b1 W (Below.refl _ W)).trans (hb2.mono (by omega))
  with_reducible refine (c2h.out _ hb2').mono ?_
  rintro e w3 ⟨rfl, hb3⟩
  have hb3' : Below W.heap.size W w3 := (b1 w2 hb2').trans (hb3.mono (by have := hb2'.size; omega))
  go_wp2_with (go_at_call 17; refine (c3 _).mono ?_; rintro e w4 ⟨rfl, hb4⟩)
  refine bodyPost_ret (by simp only [results, Tryz.results5]; go_simp; try rfl) rfl ⟨rfl, hb3'.trans (hb4.mono hb3'.size)⟩
end Go.Proofs.YtijidnhaijdfaaaGreatDoor

/- An account is equal to itself. Conditions: none. -/
namespace Go.Proofs.YtijidnhaijdfaaaGreatDoor
open Go.RowKit
attribute [local go_sem] leftBy leaves
set_option linter.unusedSimpArgs false
set_option linter.unusedVariables false

theorem eqW1 (a b c d : Int) (w : World) : (Op.equalIn 9999 31 (.agg #[.int .u64 a, .int .u64 b, .int .u64 c, .int .u64 d]) (.agg #[.int .u64 a, .int .u64 b, .int .u64 c, .int .u64 d])).run Tryz.prog w = .ok true w := by
  have u3 := Tryz.underlying29
  have a3 := Tryz.isAgg29
  have z3 := Tryz.sizeOf29
  rw [show (9999 : Nat) = 9998 + 1 from rfl, Op.equalIn]
  simp only [Sem.run_bind, run_underlying Tryz.underlying31, Result.andThen_ok]
  simp only [Std.Legacy.Range.forIn_eq_forIn_range', Std.Legacy.Range.size, Nat.sub_zero, Nat.add_sub_cancel, Nat.div_one, List.range'_succ, List.range'_zero, List.forIn_cons, List.forIn_nil]
  go_simp
set_option maxRecDepth 100000 in
theorem eqA (n a b c d : Int) (r s : ByteArray) (w : World) : (Op.equalIn 10000 33 (.agg #[.int .u64 n, .int .u64 a, .int .u64 b, .int .u64 c, .int .u64 d, .string r, .string s]) (.agg #[.int .u64 n, .int .u64 a, .int .u64 b, .int .u64 c, .int .u64 d, .string r, .string s])).run Tryz.prog w = .ok true w := by
  have u3 := Tryz.underlying29
  have a3 := Tryz.isAgg29
  have z3 := Tryz.sizeOf29
  have u9 := Tryz.underlying9
  have a9 := Tryz.isAgg9
  have z9 := Tryz.sizeOf9
  have aw := Tryz.isAgg31
  have zw := Tryz.sizeOf31
  have e1 := fun w => eqW1 a b c d w
  have hp : Tryz.prog.stoodInHeld 33 = false := by kernel_rfl
  have ht : Tryz.prog.underlying 33 = some (.struct (Tryz.prog.fieldsOf 33)) := by kernel_rfl
  rw [show (10000 : Nat) = 9999 + 1 from rfl, run_equalIn_struct _ 9999 _ _ _ ht hp]
  have hf : (Tryz.prog.fieldsOf 33).toList = [{ name := "Nonce", type := 29, offset := 0, embedded := false, tag := "", pkgPath := "", byteOffset := 0 }, { name := "Balance", type := 31, offset := 1, embedded := false, tag := "", pkgPath := "", byteOffset := 8 }, { name := "Root", type := 9, offset := 5, embedded := false, tag := "", pkgPath := "", byteOffset := 40 }, { name := "Code", type := 9, offset := 6, embedded := false, tag := "", pkgPath := "", byteOffset := 56 }] := by kernel_rfl
  rw [hf]
  simp only [Op.eqFields]
  go_simp
theorem guardA : Tryz.prog.eqGuardType Tryz.prog.depth 33 = false := by kernel_rfl
theorem neqA (n a b c d : Int) (r s : ByteArray) (w : World) : (binOp .neq 33 (.agg #[.int .u64 n, .int .u64 a, .int .u64 b, .int .u64 c, .int .u64 d, .string r, .string s]) (.agg #[.int .u64 n, .int .u64 a, .int .u64 b, .int .u64 c, .int .u64 d, .string r, .string s])).run Tryz.prog w = .ok (.bool false) w := by
  rw [run_neq_struct, eqA]
  rfl
end Go.Proofs.YtijidnhaijdfaaaGreatDoor
