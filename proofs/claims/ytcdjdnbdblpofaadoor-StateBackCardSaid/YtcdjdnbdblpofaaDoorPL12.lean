/-
  The contract of acct.Empty. Conditions: the three tables stand in their blocks.
-/
import Derived.Test.YtcdjdnbdblpofaaDoorPL9
import Derived.Test.YtcdjdnbdblpofaaDoorPL11
namespace Go.Proofs.YtcdjdnbdblpofaaDoor
open Go.RowKit
set_option linter.unusedSimpArgs false
set_option linter.unusedVariables false

theorem cells7 {W : World} {k : Nat} {a b c d e f g : Value} {t : TypeId} (h : W.heap[k]? = some (.cells #[a, b, c, d, e, f, g] t (0, 0))) :
    W.cell? ⟨k, 0, none⟩ = some a ∧ W.cell? ⟨k, 1, none⟩ = some b ∧ W.cell? ⟨k, 2, none⟩ = some c ∧ W.cell? ⟨k, 3, none⟩ = some d ∧ W.cell? ⟨k, 4, none⟩ = some e ∧ W.cell? ⟨k, 5, none⟩ = some f ∧ W.cell? ⟨k, 6, none⟩ = some g := by
  refine ⟨?_, ?_, ?_, ?_, ?_, ?_, ?_⟩ <;> simp [World.cell?, h]

/-- The roots of nothing. -/
def emR : ByteArray := digS ⟨#[128]⟩
def emC : ByteArray := digS ⟨#[]⟩

set_option maxRecDepth 100000 in
set_option maxHeartbeats 4000000 in
theorem Empty_any (W : World) (hw : 3 ≤ W.heap.size) (hT : KT W) :
    Calls Tryd.prog 35 #[] W fun e w' => e = .returned (.agg #[.int .u64 0, .int .u64 0, .int .u64 0, .int .u64 0, .int .u64 0, .string emR, .string emC]) ∧ Below W.heap.size W w' := by
  have b1 : ∀ o, Below W.heap.size W (W.alloc o) := fun o => (Below.refl _ W).alloc (Nat.le_refl _) _
  have b2 : ∀ o o', Below W.heap.size W ((W.alloc o).alloc o') := fun o o' => (b1 o).alloc (by simp) _
  have c1 : ∀ o, Calls Tryd.prog 57 #[.slice (some ⟨W.heap.size + 1, 0, none⟩) 1 1] ((W.alloc o).alloc (.cells #[.string ⟨#[128]⟩] 9)) fun e w' => e = .returned (.string emR) ∧ Below ((W.alloc o).alloc (.cells #[.string ⟨#[128]⟩] 9)).heap.size ((W.alloc o).alloc (.cells #[.string ⟨#[128]⟩] 9)) w' := fun o => by
    have h := Sum_strs (.slice (some ⟨W.heap.size + 1, 0, none⟩) 1 1) [⟨#[128]⟩] ((W.alloc o).alloc (.cells #[.string ⟨#[128]⟩] 9)) (.inr ⟨_, 0, 1, rfl, by simp, by simp, by simp, fun j x hj => ?_⟩) (by simp) (by decide) (by simp; omega) (hT.below (b2 _ _) hw)
    · rw [catB_one] at h
      exact h
    · cases j with
      | zero =>
        simp at hj
        subst hj
        have hh : ((W.alloc o).alloc (.cells #[.string ⟨#[128]⟩] 9)).heap[W.heap.size + 1]? = _ := heap_new (by simp)
        unfold World.cell?
        rw [hh]
        rfl
      | succ j => simp at hj
  have c2 : ∀ w, 3 ≤ w.heap.size → KT w → Calls Tryd.prog 57 #[.slice none 0 0] w fun e w' => e = .returned (.string emC) ∧ Below w.heap.size w w' := fun w h1 h2 => by
    have h := Sum_strs (.slice none 0 0) [] w (.inl ⟨none, 0, rfl, rfl⟩) (by simp) (by decide) h1 h2
    rw [catB_nil] at h
    exact h
  generalize emR = er at *
  generalize emC = ec at *
  go_enter Tryd.func35, Tryd.ntmps35
  go_wp2_with (go_at_call 57; with_reducible refine (c1 _).mono ?_; rintro e wa ⟨rfl, hb_wa⟩; have hc_wa := (bcell hb_wa).1; have hf_wa := (bcell hb_wa).2; have hz_wa : _ ≤ wa.heap.size := hb_wa.size; (try simp only [World.size_alloc, World.heap_drewN, World.size_setCell, heap_drew] at hc_wa hf_wa hz_wa); have hz_wa_W_0 : W.heap.size < wa.heap.size := (by omega); have hz_wa_W_1 : W.heap.size + 1 < wa.heap.size := (by omega))
  have hK := hT.below (b2 (.cells #[.int .u64 0, .int .u64 0, .int .u64 0, .int .u64 0, .int .u64 0, .string ⟨#[]⟩, .string ⟨#[]⟩] 62) (.cells #[.string ⟨#[128]⟩] 9)) hw
  have hKa := hK.below hb_wa (by simp; omega)
  have cB := c2 wa (by omega) hKa
  go_wp2_with (go_at_call 57; with_reducible refine cB.mono ?_; rintro e wb ⟨rfl, hb_wb⟩; have hc_wb := (bcell hb_wb).1; have hf_wb := (bcell hb_wb).2; have hz_wb : _ ≤ wb.heap.size := hb_wb.size; (try simp only [World.size_alloc, World.heap_drewN, World.size_setCell, heap_drew] at hc_wb hf_wb hz_wb); have hz_wb_W_0 : W.heap.size < wb.heap.size := (by omega))
  have bW : Below W.heap.size W wb := (b2 _ _).trans ((hb_wa.mono (by simp; omega)).trans (hb_wb.mono (by omega)))
  have h0 := (hb_wb.block W.heap.size (by omega)).trans ((hb_wa.block W.heap.size (by simp; omega)).trans ((Below.heap_alloc _ _ _ (by simp)).trans (heap_new rfl)))
  have h1 := store1 (store1 (store1 (store1 (store1 (store1 (store1 h0 0 (.int .u64 0)) 1 (.int .u64 0)) 2 (.int .u64 0)) 3 (.int .u64 0)) 4 (.int .u64 0)) 5 (.string er)) 6 (.string ec)
  have bF : Below W.heap.size W (((((((wb.setCell ⟨W.heap.size, 0, none⟩ (.int .u64 0)).setCell ⟨W.heap.size, 1, none⟩ (.int .u64 0)).setCell ⟨W.heap.size, 2, none⟩ (.int .u64 0)).setCell ⟨W.heap.size, 3, none⟩ (.int .u64 0)).setCell ⟨W.heap.size, 4, none⟩ (.int .u64 0)).setCell ⟨W.heap.size, 5, none⟩ (.string er)).setCell ⟨W.heap.size, 6, none⟩ (.string ec)) := by
    repeat (refine Below.setCell ?_ (by simp) _)
    exact bW
  clear hb_wa hb_wb c1 c2 hc_wa hf_wa hc_wb hf_wb cB hK hKa hT b1 b2 bW h0 hz_wa hz_wb hz_wa_W_0 hz_wa_W_1 hz_wb_W_0
  generalize (((((((wb.setCell ⟨W.heap.size, 0, none⟩ (.int .u64 0)).setCell ⟨W.heap.size, 1, none⟩ (.int .u64 0)).setCell ⟨W.heap.size, 2, none⟩ (.int .u64 0)).setCell ⟨W.heap.size, 3, none⟩ (.int .u64 0)).setCell ⟨W.heap.size, 4, none⟩ (.int .u64 0)).setCell ⟨W.heap.size, 5, none⟩ (.string er)).setCell ⟨W.heap.size, 6, none⟩ (.string ec)) = wf at *
  have hh : wf.heap[W.heap.size]? = some (.cells #[.int .u64 0, .int .u64 0, .int .u64 0, .int .u64 0, .int .u64 0, .string er, .string ec] 62 (0, 0)) := by
    simpa using h1
  obtain ⟨x0, x1, x2, x3, x4, x5, x6⟩ := cells7 hh
  refine bodyPost_ret (by simp only [results, Tryd.results35]; go_simp; try rfl) rfl ⟨rfl, bF⟩

set_option maxRecDepth 100000 in
set_option maxHeartbeats 4000000 in
theorem ref_Empty (W : World) :
    Calls Tryd.prog 77 #[] W fun e w' => e = .returned (.agg #[.int .u64 0, .int .u64 0, .int .u64 0, .int .u64 0, .int .u64 0, .string emR, .string emC]) ∧ Below W.heap.size W w' := by
  have c1 : ∀ w, Calls Tryd.prog 86 #[.string ⟨#[128]⟩] w fun e w' => e = .returned (.string emR) ∧ Below w.heap.size w w' := fun w => ref_Sum _ (by decide) w
  have c2 : ∀ w, Calls Tryd.prog 86 #[.string ⟨#[]⟩] w fun e w' => e = .returned (.string emC) ∧ Below w.heap.size w w' := fun w => ref_Sum _ (by decide) w
  have b1 : ∀ o, Below W.heap.size W (W.alloc o) := fun o => (Below.refl _ W).alloc (Nat.le_refl _) _
  generalize emR = er at *
  generalize emC = ec at *
  go_enter Tryd.func77, Tryd.ntmps77
  go_wp2_with (go_at_call 86; with_reducible refine (c1 _).mono ?_; rintro e wa ⟨rfl, hb_wa⟩; have hc_wa := (bcell hb_wa).1; have hf_wa := (bcell hb_wa).2; have hz_wa : _ ≤ wa.heap.size := hb_wa.size; (try simp only [World.size_alloc, World.heap_drewN, World.size_setCell, heap_drew] at hc_wa hf_wa hz_wa); have hz_wa_W_0 : W.heap.size < wa.heap.size := (by omega))
  go_wp2_with (go_at_call 86; with_reducible refine (c2 _).mono ?_; rintro e wb ⟨rfl, hb_wb⟩; have hc_wb := (bcell hb_wb).1; have hf_wb := (bcell hb_wb).2; have hz_wb : _ ≤ wb.heap.size := hb_wb.size; (try simp only [World.size_alloc, World.heap_drewN, World.size_setCell, heap_drew] at hc_wb hf_wb hz_wb); have hz_wb_W_0 : W.heap.size < wb.heap.size := (by omega))
  have bW : Below W.heap.size W wb := (b1 _).trans ((hb_wa.mono (by simp)).trans (hb_wb.mono (by omega)))
  have h0 := (hb_wb.block W.heap.size (by omega)).trans ((hb_wa.block W.heap.size (by simp)).trans (heap_new rfl))
  have h1 := store1 (store1 (store1 (store1 (store1 (store1 (store1 h0 0 (.int .u64 0)) 1 (.int .u64 0)) 2 (.int .u64 0)) 3 (.int .u64 0)) 4 (.int .u64 0)) 5 (.string er)) 6 (.string ec)
  have bF : Below W.heap.size W (((((((wb.setCell ⟨W.heap.size, 0, none⟩ (.int .u64 0)).setCell ⟨W.heap.size, 1, none⟩ (.int .u64 0)).setCell ⟨W.heap.size, 2, none⟩ (.int .u64 0)).setCell ⟨W.heap.size, 3, none⟩ (.int .u64 0)).setCell ⟨W.heap.size, 4, none⟩ (.int .u64 0)).setCell ⟨W.heap.size, 5, none⟩ (.string er)).setCell ⟨W.heap.size, 6, none⟩ (.string ec)) := by
    repeat (refine Below.setCell ?_ (by simp) _)
    exact bW
  clear hb_wa hb_wb c1 c2 hc_wa hf_wa hc_wb hf_wb b1 bW h0 hz_wa hz_wb hz_wa_W_0 hz_wb_W_0
  generalize (((((((wb.setCell ⟨W.heap.size, 0, none⟩ (.int .u64 0)).setCell ⟨W.heap.size, 1, none⟩ (.int .u64 0)).setCell ⟨W.heap.size, 2, none⟩ (.int .u64 0)).setCell ⟨W.heap.size, 3, none⟩ (.int .u64 0)).setCell ⟨W.heap.size, 4, none⟩ (.int .u64 0)).setCell ⟨W.heap.size, 5, none⟩ (.string er)).setCell ⟨W.heap.size, 6, none⟩ (.string ec)) = wf at *
  have hh : wf.heap[W.heap.size]? = some (.cells #[.int .u64 0, .int .u64 0, .int .u64 0, .int .u64 0, .int .u64 0, .string er, .string ec] 62 (0, 0)) := by
    simpa using h1
  obtain ⟨x0, x1, x2, x3, x4, x5, x6⟩ := cells7 hh
  refine bodyPost_ret (by simp only [results, Tryd.results77]; go_simp; try rfl) rfl ⟨rfl, bF⟩
end Go.Proofs.YtcdjdnbdblpofaaDoor
