/-
  Paths: Common, Form. Conditions: the path holds half bytes.
-/
import Derived.Test.YtijidnhaijdfaaaGreatDoorPR21
import Derived.Test.YtijidnhaijdfaaaGreatDoorNTrim
namespace Go.Proofs.YtijidnhaijdfaaaGreatDoor
open Go.RowKit
attribute [local go_sem] leftBy leaves
set_option linter.unusedSimpArgs false
set_option linter.unusedVariables false

set_option maxRecDepth 100000 in
set_option maxHeartbeats 8000000 in
theorem Common_any (s t : Bs) (hs : s.length ≤ 1000000) (ht : t.length ≤ 1000000) (W : World) : Calls Tryz.prog 82 #[.string (bsS s), .string (bsS t)] W fun e w' => e = .returned (.int .i64 (common s t : Nat)) ∧ Below W.heap.size W w' := by
  have hzs := bsS_size s
  have hzt := bsS_size t
  obtain ⟨m, hm⟩ : ∃ m, m = min s.length t.length := ⟨_, rfl⟩
  have hmi : min (s.length : Int) (t.length : Int) = (m : Int) := by omega
  have hms : m ≤ s.length := by omega
  have hmt : m ≤ t.length := by omega
  have hcl := common_le s t
  have hcm : common s t ≤ m := by omega
  clear hm
  go_enter Tryz.func82, Tryz.ntmps82
  go_wp2
  obtain ⟨wo, hwo⟩ : ∃ wo : World, wo = W := ⟨_, rfl⟩
  go_loopw [13] (fun v wr => ∃ i : Nat, i ≤ common s t ∧ v = .int .i64 (i : Nat) ∧ Below W.heap.size W wr) (fun v _ => common s t - (intOf v).toNat)
  case atStart => exact ⟨0, Nat.zero_le _, rfl, Below.refl _ _⟩
  case round =>
    obtain ⟨i, hi, rfl, hbel⟩ := hrel
    by_cases him : i < m
    · refine wp_hide fun QQ hQQ => ?_
      obtain ⟨a, ha⟩ : ∃ a, s[i]? = some a := ⟨_, List.getElem?_eq_getElem (by omega)⟩
      obtain ⟨b, hb⟩ : ∃ b, t[i]? = some b := ⟨_, List.getElem?_eq_getElem (by omega)⟩
      have hxa := fun w => index_bs s i a ha w
      have hxb := fun w => index_bs t i b hb w
      by_cases hab : a = b
      · subst hab
        have hic : i < common s t := by
          rcases Nat.lt_or_ge i (common s t) with h | h
          · exact h
          · obtain rfl : i = common s t := by omega
            exact absurd (by rw [ha, hb]) (common_stop s t (by omega) (by omega))
        go_wp2
        first | refine wp_flow (fun k => ([1, 1, 1, 1, 1, 1, 1] : List Nat).getD k 1) Dr _ (Dr.next _ _) (by kernel_rfl) (by kernel_rfl) ?_ | refine wp_flow (fun k => ([1, 1, 1, 1, 1, 1, 1] : List Nat).getD k 1) Dr _ (Dr.one _) (by kernel_rfl) (by kernel_rfl) ?_
        iterate 7 ((refine flow_quiet rfl rfl (fun K hK => ?_); apply Exists.intro; apply And.intro; (focus (rintro w' ⟨nn, rfl⟩; go_simp; (try go_bits); exact ⟨rfl, Dr.of _ _⟩)); go_simp; (try go_bits); refine hK _ ?_; clear hK K))
        refine flow_nil ?_
        rintro w' ⟨nq, rfl⟩
        go_wp2
        refine hQQ.out _ _ _ ?_
        simp only [Exit.then, Exit.inBlock]
        go_roundw
        case rel => exact ⟨i + 1, by omega, by go_num, below_drewN hbel _⟩
        case measure => simp [intOf]; omega
      · have hic : Hid (i = common s t) := Lib.hid (by
          rcases Nat.lt_or_ge i (common s t) with h | h
          · have := common_get s t i h
            rw [ha, hb] at this
            exact absurd (Option.some.inj this) hab
          · omega)
        have hne : ((a.toNat : Int) != (b.toNat : Int)) = true := by
          rw [bne_iff_ne]
          intro e
          exact hab (UInt8.toNat_inj.1 (by omega))
        go_wp2
        first | refine wp_flow (fun k => ([1, 1, 1, 1, 1, 1, 1] : List Nat).getD k 1) Dr _ (Dr.next _ _) (by kernel_rfl) (by kernel_rfl) ?_ | refine wp_flow (fun k => ([1, 1, 1, 1, 1, 1, 1] : List Nat).getD k 1) Dr _ (Dr.one _) (by kernel_rfl) (by kernel_rfl) ?_
        iterate 7 ((refine flow_quiet rfl rfl (fun K hK => ?_); apply Exists.intro; apply And.intro; (focus (rintro w' ⟨nn, rfl⟩; go_simp; (try go_bits); exact ⟨rfl, Dr.of _ _⟩)); go_simp; (try go_bits); refine hK _ ?_; clear hK K))
        refine flow_nil ?_
        rintro w' ⟨nq, rfl⟩
        go_wp2
        refine hQQ.out _ _ _ ?_
        simp only [Exit.then, Exit.inBlock]
        refine bodyPost_ret (by simp only [results, Tryz.results82]; go_simp; try rfl) rfl ⟨by rw [hic.out], below_drewN hbel _⟩
    · obtain rfl : i = m := by omega
      have hic : Hid (i = common s t) := Lib.hid (by omega)
      go_wp2
      refine bodyPost_ret (by simp only [results, Tryz.results82]; go_simp; try rfl) rfl ⟨by rw [hic.out], hbel⟩
theorem dropWhile_all {f : UInt8 → Bool} : ∀ {l : Bs}, (∀ x ∈ l, f x = true) → l.dropWhile f = []
  | [], _ => rfl
  | x :: l, h => by
    rw [List.dropWhile_cons, if_pos (h x (List.mem_cons_self ..))]
    exact dropWhile_all fun y hy => h y (List.mem_cons_of_mem _ hy)
theorem nib_in {b : UInt8} (h : b.toNat < 16) : ([0, 1, 2, 3, 4, 5, 6, 7, 8, 9, 10, 11, 12, 13, 14, 15] : Bs).contains b = true := by
  have : ∀ n, n < 16 → ([0, 1, 2, 3, 4, 5, 6, 7, 8, 9, 10, 11, 12, 13, 14, 15] : Bs).contains (UInt8.ofNat n) = true := by decide
  have := this b.toNat h
  rwa [UInt8.ofNat_toNat] at this
theorem Trim_nibs (p : Bs) (hn : nib p) (hs : p.length ≤ 1000000) (w : World) : Calls Tryz.prog 103 #[.string (bsS p), .string ⟨#[0, 1, 2, 3, 4, 5, 6, 7, 8, 9, 10, 11, 12, 13, 14, 15]⟩] w fun e w' => e = .returned (.string ⟨#[]⟩) ∧ Below w.heap.size w w' := by
  have h := strings_Trim (bsS p) ⟨#[0, 1, 2, 3, 4, 5, 6, 7, 8, 9, 10, 11, 12, 13, 14, 15]⟩ w (by rw [bsS_size]; omega) (by decide) (Go.Proofs.ascii_of_all (by decide))
  have e : Lib.trimS (bsS p).data.toList (⟨#[0, 1, 2, 3, 4, 5, 6, 7, 8, 9, 10, 11, 12, 13, 14, 15]⟩ : ByteArray).data.toList = [] := by
    show Lib.trimLeftS (Lib.trimRightS p [0, 1, 2, 3, 4, 5, 6, 7, 8, 9, 10, 11, 12, 13, 14, 15]) [0, 1, 2, 3, 4, 5, 6, 7, 8, 9, 10, 11, 12, 13, 14, 15] = []
    have e1 : Lib.trimRightS p [0, 1, 2, 3, 4, 5, 6, 7, 8, 9, 10, 11, 12, 13, 14, 15] = [] := by
      unfold Lib.trimRightS
      rw [dropWhile_all fun x hx => nib_in (hn x (List.mem_reverse.1 hx))]
      rfl
    rw [e1]
    rfl
  rw [e] at h
  exact h
def fF (leaf : Bool) (p : Bs) (j : Nat) : Nat := ((form leaf p).getD j 0).toNat
theorem infoU8 : (Tryz.prog.info? 5).map (fun i => (i.zero, i.size, i.bytes)) = some (some (.int .u8 0), 1, 1) := by kernel_rfl
theorem make_bytes (m : Nat) (hm : m ≤ 1000000) (w : World) : (Instr.makeSlice 60 (.int .i64 (m : Nat)) (.int .i64 (m : Nat))).run Tryz.prog w = .ok (.slice (some ⟨w.heap.size, 0, none⟩) m m) (w.alloc (.cells (numA .u8 m (fun _ => 0)) 5)) := by
  obtain ⟨i0, hi, hz0, hz1, hz2⟩ := info_parts infoU8
  have h := run_make (P := Tryz.prog) w 60 5 i0 (.int .u8 0) Tryz.underlying60 hi hz0 .i64 .i64 m m (by omega) (by omega) (by rw [hz2]; omega) (by omega)
  have e : madeCells (Value.int .u8 0).cells (((m : Nat) : Int).toNat * i0.size) = numA .u8 m (fun _ => 0) := by
    apply Array.ext
    · simp [hz1, numA_size, size_madeCells]
    · intro j h1 h2
      simp [madeCells, numA, Value.cells, Nat.mod_one]
  rw [e] at h
  simpa using h
theorem fF_pair {leaf : Bool} {p : Bs} {q o k : Nat} {a b : UInt8} (ho : o < 2) (hpq : p.length = 2 * q + o) (hn : nib p) (ha : p[o + 2 * k]? = some a) (hb : p[o + 2 * k + 1]? = some b) : fF leaf p (k + 1) = a.toNat * 16 + b.toNat := by
  have ha16 := hn a (List.mem_of_getElem? ha)
  have hb16 := hn b (List.mem_of_getElem? hb)
  unfold fF
  rw [List.getD_eq_getElem?_getD]
  have e : (form leaf p)[k + 1]? = some (UInt8.ofNat (a.toNat * 16 + b.toNat)) := by
    rcases Nat.lt_or_ge o 1 with h | h
    · obtain rfl : o = 0 := by omega
      rw [form_even (by omega)]
      rw [Nat.zero_add] at ha hb
      exact pairs_get p k a b ha hb
    · obtain rfl : o = 1 := by omega
      cases p with
      | nil => simp at hpq
      | cons x t =>
        rw [form_odd (by simp only [List.length_cons] at hpq; omega)]
        rw [show 1 + 2 * k = 2 * k + 1 by omega] at ha hb
        exact pairs_get t k a b (by simpa using ha) (by simpa using hb)
  rw [e, Option.getD_some, u8_of (by omega)]
theorem fF_head0 {leaf : Bool} {p : Bs} {q : Nat} (hpq : p.length = 2 * q + 0) : fF leaf p 0 = markN leaf 0 * 16 := by
  have : markN leaf 0 ≤ 2 := by unfold markN; split <;> omega
  unfold fF
  rw [form_even (by omega)]
  exact u8_of (by omega)
theorem fF_head1 {leaf : Bool} {p : Bs} {q : Nat} {x : UInt8} (hpq : p.length = 2 * q + 1) (hn : nib p) (hx : p[0]? = some x) : fF leaf p 0 = markN leaf 1 * 16 + x.toNat := by
  have : markN leaf 1 ≤ 3 := by unfold markN; split <;> omega
  have hx16 := hn x (List.mem_of_getElem? hx)
  cases p with
  | nil => simp at hx
  | cons y t =>
    obtain rfl : y = x := by simpa using hx
    unfold fF
    rw [form_odd (by simp only [List.length_cons] at hpq; omega)]
    exact u8_of (by omega)
theorem or_add {x b : Nat} (hb : b < 16) : x * 16 ||| b = x * 16 + b := by
  have := Nat.two_pow_add_eq_or_of_lt (i := 4) (b := b) (by omega) x
  rw [show 2 ^ 4 * x = x * 16 by omega] at this
  exact this.symm
set_option maxRecDepth 100000 in
set_option maxHeartbeats 8000000 in
theorem Form_true1 (p : Bs) (q : Nat) (hpq : p.length = 2 * q + 1) (hn : nib p) (hs : p.length ≤ 1000000) (W : World) : Calls Tryz.prog 81 #[.string (bsS p), .bool true] W fun e w' => e = .returned (.tuple #[.string (bsS (form true p)), .int .i64 0]) ∧ Below W.heap.size W w' := by
  have hz := bsS_size p
  have hfl := form_length true p
  have hdv : p.length / 2 = q := by omega
  rw [hdv] at hfl
  have cT := fun w => Trim_nibs p hn hs w
  have hmk : ∀ w : World, (Instr.makeSlice 60 (.int .i64 ((q : Int) + 1)) (.int .i64 ((q : Int) + 1))).run Tryz.prog w = .ok (.slice (some ⟨w.heap.size, 0, none⟩) (q + 1) (q + 1)) (w.alloc (.cells (numA .u8 (q + 1) (fun _ => 0)) 5)) := fun w => make_bytes (q + 1) (by omega) w
  have hm2 : ((p.length : Nat) : Int) % 2 = 1 := by omega
  have hm3 : ((p.length : Nat) : Int) / 2 = (q : Int) := by omega
  have hq0 : (0 : Int) < (q : Int) + 1 := by omega
  have hpq2 := Lib.hid hpq
  skip
  clear hpq hdv
  go_enter Tryz.func81, Tryz.ntmps81
  go_wp2_with (first | (go_at_call 103; refine (cT _).mono ?_; rintro e w1 ⟨rfl, hb1⟩; have hrow : rowN .u8 (q + 1) 5 (w1.alloc (.cells (numA .u8 (q + 1) (fun _ => 0)) 5)) w1.heap.size (fun _ => 0) := heap_new rfl; have c0 := hrow.cellAt (j := 0) (by omega); have f0 := hrow.free 0))
  have hb2 : Below W.heap.size W (w1.alloc (.cells ((numA .u8 (q + 1) (fun _ => 0)).setIfInBounds 0 (.int .u8 ((markN true 1 * 16 : Nat) : Int))) 5)) := hb1.alloc hb1.size _
  have hr2 : rowN .u8 (q + 1) 5 (w1.alloc (.cells ((numA .u8 (q + 1) (fun _ => 0)).setIfInBounds 0 (.int .u8 ((markN true 1 * 16 : Nat) : Int))) 5)) w1.heap.size (fun j => if j = 0 then markN true 1 * 16 else 0) := by
    rw [numA_set]
    exact heap_new rfl
  change Code.wp _ _ _ _ (w1.alloc (.cells ((numA .u8 (q + 1) (fun _ => 0)).setIfInBounds 0 (.int .u8 ((markN true 1 * 16 : Nat) : Int))) 5))
  generalize w1.alloc (.cells ((numA .u8 (q + 1) (fun _ => 0)).setIfInBounds 0 (.int .u8 ((markN true 1 * 16 : Nat) : Int))) 5) = W2 at *
  have hg := hb1.size
  generalize w1.heap.size = g at *
  clear hrow c0 f0 cT hmk
  obtain ⟨x, hx⟩ : ∃ x, p[0]? = some x := ⟨_, List.getElem?_eq_getElem (by have := hpq2.out; omega)⟩
  have hx16 := hn x (List.mem_of_getElem? hx)
  have hxi : ∀ w : World, (Instr.index 9 (.string (bsS p)) (.int .i64 0)).run Tryz.prog w = .ok (.int .u8 (x.toNat : Nat)) w := fun w => index_bs p 0 x hx w
  have c2 : W2.cell? ⟨g, 0, none⟩ = some (.int .u8 48) := hr2.cellAt (by omega)
  have f2 := hr2.free 0
  have hor : bits .or .u8 48 (x.toNat : Int) = ((48 + x.toNat : Nat) : Int) := by
    have := u8_or_nat 48 x.toNat (by omega) (by omega)
    rw [show 48 ||| x.toNat = 48 + x.toNat from or_add (x := 48 / 16) hx16] at this
    exact this
  first | refine wp_flow (fun k => ([1, 1, 1, 1, 1, 1, 1, 2] : List Nat).getD k 1) Dr _ (Dr.next _ _) (by kernel_rfl) (by kernel_rfl) ?_ | refine wp_flow (fun k => ([1, 1, 1, 1, 1, 1, 1, 2] : List Nat).getD k 1) Dr _ (Dr.one _) (by kernel_rfl) (by kernel_rfl) ?_
  iterate 7 ((refine flow_quiet rfl rfl (fun K hK => ?_); apply Exists.intro; apply And.intro; (focus (rintro w' ⟨nn, rfl⟩; go_simp; (try go_bits); exact ⟨rfl, Dr.of _ _⟩)); go_simp; (try go_bits); refine hK _ ?_; clear hK K))
  (refine flow_eff rfl rfl (fun K hK => ?_); apply Exists.intro; apply Exists.intro; apply And.intro; (focus (rintro w' ⟨nn, rfl⟩; go_simp; (try go_bits); refine ⟨rfl, ?_⟩; with_reducible first | exact Dr.store _ _ _ _ | exact Dr.store4 _ _ _ _ _ _ _ _ _ _)); go_simp; (try go_bits); refine hK _ _ ?_; clear hK K)
  refine flow_nil ?_
  rintro w' ⟨nq, rfl⟩
  go_wp2
  have hr3 : rowN .u8 (q + 1) 5 ((W2.setCell ⟨g, 0, none⟩ (.int .u8 ((48 + x.toNat : Nat) : Int))).drewN nq) g (fun j => if j = 0 then fF true p 0 else 0) := by
    refine ((hr2.store (j := 0) (b := 48 + x.toNat)).to fun j hj => ?_).drewN nq
    rw [fF_head1 hpq2.out hn hx]
    by_cases h : j = 0
    · rw [if_pos h, if_pos h]
      rfl
    · rw [if_neg h, if_neg h, if_neg h]
  have hb3 : Below W.heap.size W ((W2.setCell ⟨g, 0, none⟩ (.int .u8 ((48 + x.toNat : Nat) : Int))).drewN nq) := below_drewN (hb2.setCell (p := ⟨g, 0, none⟩) hg _) nq
  change Code.wp _ _ _ _ ((W2.setCell ⟨g, 0, none⟩ (.int .u8 ((48 + x.toNat : Nat) : Int))).drewN nq)
  generalize (W2.setCell ⟨g, 0, none⟩ (.int .u8 ((48 + x.toNat : Nat) : Int))).drewN nq = W3 at *
  clear hr2 c2 f2 hor hxi hb2
  obtain ⟨Wo, hWo⟩ : ∃ X : World, X = W := ⟨_, rfl⟩
  have hm4 : ((p.length : Nat) : Int) = 2 * (q : Int) + 1 := by have := hpq2.out; omega
  have hm4h := Lib.hid hm4
  clear hm4
  go_loopw [9] (fun v wr => ∃ k : Nat, k ≤ q ∧ v = .int .i64 (2 * (k : Int) + 1) ∧ rowN .u8 (q + 1) 5 wr g (fun j => if j ≤ k then fF true p j else 0) ∧ Below W.heap.size W wr) (fun v _ => p.length - (intOf v).toNat)
  case atStart =>
    refine ⟨0, Nat.zero_le _, by first | rfl | (rw [hm2]; rfl), hr3.to fun j hj => ?_, hb3⟩
    by_cases h : j = 0
    · rw [if_pos h, if_pos (by omega), h]
    · rw [if_neg h, if_neg (by omega)]
  case round =>
    obtain ⟨k, hk, rfl, hrow, hbel⟩ := hrel
    have hpq := hpq2.out
    by_cases hkq : k < q
    · obtain ⟨a, ha⟩ : ∃ a, p[1 + 2 * k]? = some a := ⟨_, List.getElem?_eq_getElem (by omega)⟩
      obtain ⟨b, hb⟩ : ∃ b, p[1 + 2 * k + 1]? = some b := ⟨_, List.getElem?_eq_getElem (by omega)⟩
      have hpr := Lib.hid (fF_pair (leaf := true) (by decide) hpq hn ha hb)
      have ha16 := hn a (List.mem_of_getElem? ha)
      have hb16 := hn b (List.mem_of_getElem? hb)
      have hxa : ∀ w : World, (Instr.index 9 (.string (bsS p)) (.int .i64 (2 * (k : Int) + 1))).run Tryz.prog w = .ok (.int .u8 (a.toNat : Nat)) w := fun w => by
        have := index_bs p (1 + 2 * k) a ha w
        rwa [show ((1 + 2 * k : Nat) : Int) = 2 * (k : Int) + 1 by omega] at this
      have hxb : ∀ w : World, (Instr.index 9 (.string (bsS p)) (.int .i64 (2 * (k : Int) + 1 + 1))).run Tryz.prog w = .ok (.int .u8 (b.toNat : Nat)) w := fun w => by
        have := index_bs p (1 + 2 * k + 1) b hb w
        rwa [show ((1 + 2 * k + 1 : Nat) : Int) = 2 * (k : Int) + 1 + 1 by omega] at this
      have hlt : 2 * (k : Int) + 1 < (p.length : Int) := by omega
      have hdi : (2 * (k : Int) + 1) / 2 = (k : Int) := by omega
      have hsm : (1 : Int) + (k : Int) < (q : Int) + 1 := by omega
      have hor : bits .or .u8 ((a.toNat : Int) * 16) (b.toNat : Int) = ((a.toNat * 16 + b.toNat : Nat) : Int) := by
        have := u8_or_nat (a.toNat * 16) b.toNat (by omega) (by omega)
        rw [or_add hb16] at this
        rw [← this]
        push_cast
        rfl
      have haw : ((a.toNat : Int) * 16) % 256 = (a.toNat : Int) * 16 := by omega
      refine wp_hide fun QQ hQQ => ?_
      have hpqh := Lib.hid hpq
      clear hpq
      go_wp2
      have ck := hrow.cellAt (j := 1 + k) (by omega)
      have fk := hrow.free (1 + k)
      first | refine wp_flow (fun k => ([1, 1, 1, 1, 1, 1, 1, 1, 1, 1, 1, 1, 1, 1, 2] : List Nat).getD k 1) Dr _ (Dr.next _ _) (by kernel_rfl) (by kernel_rfl) ?_ | refine wp_flow (fun k => ([1, 1, 1, 1, 1, 1, 1, 1, 1, 1, 1, 1, 1, 1, 2] : List Nat).getD k 1) Dr _ (Dr.one _) (by kernel_rfl) (by kernel_rfl) ?_
      iterate 14 ((refine flow_quiet rfl rfl (fun K hK => ?_); apply Exists.intro; apply And.intro; (focus (rintro w' ⟨nn, rfl⟩; go_simp; (try go_bits); exact ⟨rfl, Dr.of _ _⟩)); go_simp; (try go_bits); refine hK _ ?_; clear hK K))
      (refine flow_eff rfl rfl (fun K hK => ?_); apply Exists.intro; apply Exists.intro; apply And.intro; (focus (rintro w' ⟨nn, rfl⟩; go_simp; (try go_bits); refine ⟨rfl, ?_⟩; with_reducible first | exact Dr.store _ _ _ _ | exact Dr.store4 _ _ _ _ _ _ _ _ _ _)); go_simp; (try go_bits); refine hK _ _ ?_; clear hK K)
      refine flow_nil ?_
      rintro w' ⟨nq, rfl⟩
      go_wp2
      have hrow2 : rowN .u8 (q + 1) 5 ((wr.setCell ⟨g, 1 + k, none⟩ (.int .u8 ((a.toNat * 16 + b.toNat : Nat) : Int))).drewN nq) g (fun j => if j ≤ k + 1 then fF true p j else 0) := by
        refine ((hrow.store (j := 1 + k) (b := a.toNat * 16 + b.toNat)).to fun j hj => ?_).drewN nq
        by_cases h : j = 1 + k
        · rw [if_pos h, if_pos (by omega), h, show 1 + k = k + 1 by omega, hpr.out]
        · rw [if_neg h]
          by_cases h2 : j ≤ k
          · rw [if_pos h2, if_pos (by omega)]
          · rw [if_neg h2, if_neg (by omega)]
      have hbel2 : Below W.heap.size W ((wr.setCell ⟨g, 1 + k, none⟩ (.int .u8 ((a.toNat * 16 + b.toNat : Nat) : Int))).drewN nq) := below_drewN (hbel.setCell (p := ⟨g, 1 + k, none⟩) hg _) nq
      refine hQQ.out _ _ _ ?_
      simp only [Exit.then, Exit.inBlock]
      go_roundw
      case rel => exact ⟨k + 1, by omega, by congr 1; try (push_cast; omega), hrow2, hbel2⟩
      case measure => simp [intOf]; omega
    · obtain rfl : k = q := by omega
      have hge : ¬ (2 * (k : Int) + 1 < (p.length : Int)) := by omega
      have hcs := fun cap => string_bs (W := wr) (k := g) (o := 0) (cap := cap) (form true p) (fun j b hb => by
        have hj := (List.getElem?_eq_some_iff.1 hb).1
        rw [Nat.zero_add, hrow.cellAt (by omega), if_pos (by omega)]
        unfold fF
        rw [List.getD_eq_getElem?_getD, hb, Option.getD_some])
      rw [hfl] at hcs
      have hpqh := Lib.hid hpq
      clear hpq hrow
      go_wp2
      refine bodyPost_ret (by simp only [results, Tryz.results81]; go_simp; try rfl) rfl ⟨rfl, hbel⟩
set_option maxRecDepth 100000 in
set_option maxHeartbeats 8000000 in
theorem Form_true0 (p : Bs) (q : Nat) (hpq : p.length = 2 * q + 0) (hn : nib p) (hs : p.length ≤ 1000000) (W : World) : Calls Tryz.prog 81 #[.string (bsS p), .bool true] W fun e w' => e = .returned (.tuple #[.string (bsS (form true p)), .int .i64 0]) ∧ Below W.heap.size W w' := by
  have hz := bsS_size p
  have hfl := form_length true p
  have hdv : p.length / 2 = q := by omega
  rw [hdv] at hfl
  have cT := fun w => Trim_nibs p hn hs w
  have hmk : ∀ w : World, (Instr.makeSlice 60 (.int .i64 ((q : Int) + 1)) (.int .i64 ((q : Int) + 1))).run Tryz.prog w = .ok (.slice (some ⟨w.heap.size, 0, none⟩) (q + 1) (q + 1)) (w.alloc (.cells (numA .u8 (q + 1) (fun _ => 0)) 5)) := fun w => make_bytes (q + 1) (by omega) w
  have hm2 : ((p.length : Nat) : Int) % 2 = 0 := by omega
  have hm3 : ((p.length : Nat) : Int) / 2 = (q : Int) := by omega
  have hq0 : (0 : Int) < (q : Int) + 1 := by omega
  have hpq2 := Lib.hid hpq
  skip
  clear hpq hdv
  go_enter Tryz.func81, Tryz.ntmps81
  go_wp2_with (first | (go_at_call 103; refine (cT _).mono ?_; rintro e w1 ⟨rfl, hb1⟩; have hrow : rowN .u8 (q + 1) 5 (w1.alloc (.cells (numA .u8 (q + 1) (fun _ => 0)) 5)) w1.heap.size (fun _ => 0) := heap_new rfl; have c0 := hrow.cellAt (j := 0) (by omega); have f0 := hrow.free 0))
  have hb2 : Below W.heap.size W (w1.alloc (.cells ((numA .u8 (q + 1) (fun _ => 0)).setIfInBounds 0 (.int .u8 ((markN true 0 * 16 : Nat) : Int))) 5)) := hb1.alloc hb1.size _
  have hr2 : rowN .u8 (q + 1) 5 (w1.alloc (.cells ((numA .u8 (q + 1) (fun _ => 0)).setIfInBounds 0 (.int .u8 ((markN true 0 * 16 : Nat) : Int))) 5)) w1.heap.size (fun j => if j = 0 then markN true 0 * 16 else 0) := by
    rw [numA_set]
    exact heap_new rfl
  change Code.wp _ _ _ _ (w1.alloc (.cells ((numA .u8 (q + 1) (fun _ => 0)).setIfInBounds 0 (.int .u8 ((markN true 0 * 16 : Nat) : Int))) 5))
  generalize w1.alloc (.cells ((numA .u8 (q + 1) (fun _ => 0)).setIfInBounds 0 (.int .u8 ((markN true 0 * 16 : Nat) : Int))) 5) = W2 at *
  have hg := hb1.size
  generalize w1.heap.size = g at *
  clear hrow c0 f0 cT hmk
  have hr3 : rowN .u8 (q + 1) 5 W2 g (fun j => if j = 0 then fF true p 0 else 0) := hr2.to fun j hj => by
    rw [fF_head0 hpq2.out]
  have hb3 := hb2
  clear hr2 hb2
  simp only [hm2]
  obtain ⟨Wo, hWo⟩ : ∃ X : World, X = W := ⟨_, rfl⟩
  have hm4 : ((p.length : Nat) : Int) = 2 * (q : Int) + 0 := by have := hpq2.out; omega
  have hm4h := Lib.hid hm4
  clear hm4
  go_loopw [9] (fun v wr => ∃ k : Nat, k ≤ q ∧ v = .int .i64 (2 * (k : Int)) ∧ rowN .u8 (q + 1) 5 wr g (fun j => if j ≤ k then fF true p j else 0) ∧ Below W.heap.size W wr) (fun v _ => p.length - (intOf v).toNat)
  case atStart =>
    refine ⟨0, Nat.zero_le _, by first | rfl | (rw [hm2]; rfl), hr3.to fun j hj => ?_, hb3⟩
    by_cases h : j = 0
    · rw [if_pos h, if_pos (by omega), h]
    · rw [if_neg h, if_neg (by omega)]
  case round =>
    obtain ⟨k, hk, rfl, hrow, hbel⟩ := hrel
    have hpq := hpq2.out
    by_cases hkq : k < q
    · obtain ⟨a, ha⟩ : ∃ a, p[0 + 2 * k]? = some a := ⟨_, List.getElem?_eq_getElem (by omega)⟩
      obtain ⟨b, hb⟩ : ∃ b, p[0 + 2 * k + 1]? = some b := ⟨_, List.getElem?_eq_getElem (by omega)⟩
      have hpr := Lib.hid (fF_pair (leaf := true) (by decide) hpq hn ha hb)
      have ha16 := hn a (List.mem_of_getElem? ha)
      have hb16 := hn b (List.mem_of_getElem? hb)
      have hxa : ∀ w : World, (Instr.index 9 (.string (bsS p)) (.int .i64 (2 * (k : Int)))).run Tryz.prog w = .ok (.int .u8 (a.toNat : Nat)) w := fun w => by
        have := index_bs p (0 + 2 * k) a ha w
        rwa [show ((0 + 2 * k : Nat) : Int) = 2 * (k : Int) by omega] at this
      have hxb : ∀ w : World, (Instr.index 9 (.string (bsS p)) (.int .i64 (2 * (k : Int) + 1))).run Tryz.prog w = .ok (.int .u8 (b.toNat : Nat)) w := fun w => by
        have := index_bs p (0 + 2 * k + 1) b hb w
        rwa [show ((0 + 2 * k + 1 : Nat) : Int) = 2 * (k : Int) + 1 by omega] at this
      have hlt : 2 * (k : Int) < (p.length : Int) := by omega
      have hdi : (2 * (k : Int)) / 2 = (k : Int) := by omega
      have hsm : (1 : Int) + (k : Int) < (q : Int) + 1 := by omega
      have hor : bits .or .u8 ((a.toNat : Int) * 16) (b.toNat : Int) = ((a.toNat * 16 + b.toNat : Nat) : Int) := by
        have := u8_or_nat (a.toNat * 16) b.toNat (by omega) (by omega)
        rw [or_add hb16] at this
        rw [← this]
        push_cast
        rfl
      have haw : ((a.toNat : Int) * 16) % 256 = (a.toNat : Int) * 16 := by omega
      refine wp_hide fun QQ hQQ => ?_
      have hpqh := Lib.hid hpq
      clear hpq
      go_wp2
      have ck := hrow.cellAt (j := 1 + k) (by omega)
      have fk := hrow.free (1 + k)
      first | refine wp_flow (fun k => ([1, 1, 1, 1, 1, 1, 1, 1, 1, 1, 1, 1, 1, 1, 2] : List Nat).getD k 1) Dr _ (Dr.next _ _) (by kernel_rfl) (by kernel_rfl) ?_ | refine wp_flow (fun k => ([1, 1, 1, 1, 1, 1, 1, 1, 1, 1, 1, 1, 1, 1, 2] : List Nat).getD k 1) Dr _ (Dr.one _) (by kernel_rfl) (by kernel_rfl) ?_
      iterate 14 ((refine flow_quiet rfl rfl (fun K hK => ?_); apply Exists.intro; apply And.intro; (focus (rintro w' ⟨nn, rfl⟩; go_simp; (try go_bits); exact ⟨rfl, Dr.of _ _⟩)); go_simp; (try go_bits); refine hK _ ?_; clear hK K))
      (refine flow_eff rfl rfl (fun K hK => ?_); apply Exists.intro; apply Exists.intro; apply And.intro; (focus (rintro w' ⟨nn, rfl⟩; go_simp; (try go_bits); refine ⟨rfl, ?_⟩; with_reducible first | exact Dr.store _ _ _ _ | exact Dr.store4 _ _ _ _ _ _ _ _ _ _)); go_simp; (try go_bits); refine hK _ _ ?_; clear hK K)
      refine flow_nil ?_
      rintro w' ⟨nq, rfl⟩
      go_wp2
      have hrow2 : rowN .u8 (q + 1) 5 ((wr.setCell ⟨g, 1 + k, none⟩ (.int .u8 ((a.toNat * 16 + b.toNat : Nat) : Int))).drewN nq) g (fun j => if j ≤ k + 1 then fF true p j else 0) := by
        refine ((hrow.store (j := 1 + k) (b := a.toNat * 16 + b.toNat)).to fun j hj => ?_).drewN nq
        by_cases h : j = 1 + k
        · rw [if_pos h, if_pos (by omega), h, show 1 + k = k + 1 by omega, hpr.out]
        · rw [if_neg h]
          by_cases h2 : j ≤ k
          · rw [if_pos h2, if_pos (by omega)]
          · rw [if_neg h2, if_neg (by omega)]
      have hbel2 : Below W.heap.size W ((wr.setCell ⟨g, 1 + k, none⟩ (.int .u8 ((a.toNat * 16 + b.toNat : Nat) : Int))).drewN nq) := below_drewN (hbel.setCell (p := ⟨g, 1 + k, none⟩) hg _) nq
      refine hQQ.out _ _ _ ?_
      simp only [Exit.then, Exit.inBlock]
      go_roundw
      case rel => exact ⟨k + 1, by omega, by congr 1; try (push_cast; omega), hrow2, hbel2⟩
      case measure => simp [intOf]; omega
    · obtain rfl : k = q := by omega
      have hge : ¬ (2 * (k : Int) < (p.length : Int)) := by omega
      have hcs := fun cap => string_bs (W := wr) (k := g) (o := 0) (cap := cap) (form true p) (fun j b hb => by
        have hj := (List.getElem?_eq_some_iff.1 hb).1
        rw [Nat.zero_add, hrow.cellAt (by omega), if_pos (by omega)]
        unfold fF
        rw [List.getD_eq_getElem?_getD, hb, Option.getD_some])
      rw [hfl] at hcs
      have hpqh := Lib.hid hpq
      clear hpq hrow
      go_wp2
      refine bodyPost_ret (by simp only [results, Tryz.results81]; go_simp; try rfl) rfl ⟨rfl, hbel⟩
set_option maxRecDepth 100000 in
set_option maxHeartbeats 8000000 in
theorem Form_false1 (p : Bs) (q : Nat) (hpq : p.length = 2 * q + 1) (hn : nib p) (hs : p.length ≤ 1000000) (W : World) : Calls Tryz.prog 81 #[.string (bsS p), .bool false] W fun e w' => e = .returned (.tuple #[.string (bsS (form false p)), .int .i64 0]) ∧ Below W.heap.size W w' := by
  have hz := bsS_size p
  have hfl := form_length false p
  have hdv : p.length / 2 = q := by omega
  rw [hdv] at hfl
  have cT := fun w => Trim_nibs p hn hs w
  have hmk : ∀ w : World, (Instr.makeSlice 60 (.int .i64 ((q : Int) + 1)) (.int .i64 ((q : Int) + 1))).run Tryz.prog w = .ok (.slice (some ⟨w.heap.size, 0, none⟩) (q + 1) (q + 1)) (w.alloc (.cells (numA .u8 (q + 1) (fun _ => 0)) 5)) := fun w => make_bytes (q + 1) (by omega) w
  have hm2 : ((p.length : Nat) : Int) % 2 = 1 := by omega
  have hm3 : ((p.length : Nat) : Int) / 2 = (q : Int) := by omega
  have hq0 : (0 : Int) < (q : Int) + 1 := by omega
  have hpq2 := Lib.hid hpq
  skip
  clear hpq hdv
  go_enter Tryz.func81, Tryz.ntmps81
  go_wp2_with (first | (go_at_call 103; refine (cT _).mono ?_; rintro e w1 ⟨rfl, hb1⟩; have hrow : rowN .u8 (q + 1) 5 (w1.alloc (.cells (numA .u8 (q + 1) (fun _ => 0)) 5)) w1.heap.size (fun _ => 0) := heap_new rfl; have c0 := hrow.cellAt (j := 0) (by omega); have f0 := hrow.free 0))
  have hb2 : Below W.heap.size W (w1.alloc (.cells ((numA .u8 (q + 1) (fun _ => 0)).setIfInBounds 0 (.int .u8 ((markN false 1 * 16 : Nat) : Int))) 5)) := hb1.alloc hb1.size _
  have hr2 : rowN .u8 (q + 1) 5 (w1.alloc (.cells ((numA .u8 (q + 1) (fun _ => 0)).setIfInBounds 0 (.int .u8 ((markN false 1 * 16 : Nat) : Int))) 5)) w1.heap.size (fun j => if j = 0 then markN false 1 * 16 else 0) := by
    rw [numA_set]
    exact heap_new rfl
  change Code.wp _ _ _ _ (w1.alloc (.cells ((numA .u8 (q + 1) (fun _ => 0)).setIfInBounds 0 (.int .u8 ((markN false 1 * 16 : Nat) : Int))) 5))
  generalize w1.alloc (.cells ((numA .u8 (q + 1) (fun _ => 0)).setIfInBounds 0 (.int .u8 ((markN false 1 * 16 : Nat) : Int))) 5) = W2 at *
  have hg := hb1.size
  generalize w1.heap.size = g at *
  clear hrow c0 f0 cT hmk
  obtain ⟨x, hx⟩ : ∃ x, p[0]? = some x := ⟨_, List.getElem?_eq_getElem (by have := hpq2.out; omega)⟩
  have hx16 := hn x (List.mem_of_getElem? hx)
  have hxi : ∀ w : World, (Instr.index 9 (.string (bsS p)) (.int .i64 0)).run Tryz.prog w = .ok (.int .u8 (x.toNat : Nat)) w := fun w => index_bs p 0 x hx w
  have c2 : W2.cell? ⟨g, 0, none⟩ = some (.int .u8 16) := hr2.cellAt (by omega)
  have f2 := hr2.free 0
  have hor : bits .or .u8 16 (x.toNat : Int) = ((16 + x.toNat : Nat) : Int) := by
    have := u8_or_nat 16 x.toNat (by omega) (by omega)
    rw [show 16 ||| x.toNat = 16 + x.toNat from or_add (x := 16 / 16) hx16] at this
    exact this
  first | refine wp_flow (fun k => ([1, 1, 1, 1, 1, 1, 1, 2] : List Nat).getD k 1) Dr _ (Dr.next _ _) (by kernel_rfl) (by kernel_rfl) ?_ | refine wp_flow (fun k => ([1, 1, 1, 1, 1, 1, 1, 2] : List Nat).getD k 1) Dr _ (Dr.one _) (by kernel_rfl) (by kernel_rfl) ?_
  iterate 7 ((refine flow_quiet rfl rfl (fun K hK => ?_); apply Exists.intro; apply And.intro; (focus (rintro w' ⟨nn, rfl⟩; go_simp; (try go_bits); exact ⟨rfl, Dr.of _ _⟩)); go_simp; (try go_bits); refine hK _ ?_; clear hK K))
  (refine flow_eff rfl rfl (fun K hK => ?_); apply Exists.intro; apply Exists.intro; apply And.intro; (focus (rintro w' ⟨nn, rfl⟩; go_simp; (try go_bits); refine ⟨rfl, ?_⟩; with_reducible first | exact Dr.store _ _ _ _ | exact Dr.store4 _ _ _ _ _ _ _ _ _ _)); go_simp; (try go_bits); refine hK _ _ ?_; clear hK K)
  refine flow_nil ?_
  rintro w' ⟨nq, rfl⟩
  go_wp2
  have hr3 : rowN .u8 (q + 1) 5 ((W2.setCell ⟨g, 0, none⟩ (.int .u8 ((16 + x.toNat : Nat) : Int))).drewN nq) g (fun j => if j = 0 then fF false p 0 else 0) := by
    refine ((hr2.store (j := 0) (b := 16 + x.toNat)).to fun j hj => ?_).drewN nq
    rw [fF_head1 hpq2.out hn hx]
    by_cases h : j = 0
    · rw [if_pos h, if_pos h]
      rfl
    · rw [if_neg h, if_neg h, if_neg h]
  have hb3 : Below W.heap.size W ((W2.setCell ⟨g, 0, none⟩ (.int .u8 ((16 + x.toNat : Nat) : Int))).drewN nq) := below_drewN (hb2.setCell (p := ⟨g, 0, none⟩) hg _) nq
  change Code.wp _ _ _ _ ((W2.setCell ⟨g, 0, none⟩ (.int .u8 ((16 + x.toNat : Nat) : Int))).drewN nq)
  generalize (W2.setCell ⟨g, 0, none⟩ (.int .u8 ((16 + x.toNat : Nat) : Int))).drewN nq = W3 at *
  clear hr2 c2 f2 hor hxi hb2
  obtain ⟨Wo, hWo⟩ : ∃ X : World, X = W := ⟨_, rfl⟩
  have hm4 : ((p.length : Nat) : Int) = 2 * (q : Int) + 1 := by have := hpq2.out; omega
  have hm4h := Lib.hid hm4
  clear hm4
  go_loopw [9] (fun v wr => ∃ k : Nat, k ≤ q ∧ v = .int .i64 (2 * (k : Int) + 1) ∧ rowN .u8 (q + 1) 5 wr g (fun j => if j ≤ k then fF false p j else 0) ∧ Below W.heap.size W wr) (fun v _ => p.length - (intOf v).toNat)
  case atStart =>
    refine ⟨0, Nat.zero_le _, by first | rfl | (rw [hm2]; rfl), hr3.to fun j hj => ?_, hb3⟩
    by_cases h : j = 0
    · rw [if_pos h, if_pos (by omega), h]
    · rw [if_neg h, if_neg (by omega)]
  case round =>
    obtain ⟨k, hk, rfl, hrow, hbel⟩ := hrel
    have hpq := hpq2.out
    by_cases hkq : k < q
    · obtain ⟨a, ha⟩ : ∃ a, p[1 + 2 * k]? = some a := ⟨_, List.getElem?_eq_getElem (by omega)⟩
      obtain ⟨b, hb⟩ : ∃ b, p[1 + 2 * k + 1]? = some b := ⟨_, List.getElem?_eq_getElem (by omega)⟩
      have hpr := Lib.hid (fF_pair (leaf := false) (by decide) hpq hn ha hb)
      have ha16 := hn a (List.mem_of_getElem? ha)
      have hb16 := hn b (List.mem_of_getElem? hb)
      have hxa : ∀ w : World, (Instr.index 9 (.string (bsS p)) (.int .i64 (2 * (k : Int) + 1))).run Tryz.prog w = .ok (.int .u8 (a.toNat : Nat)) w := fun w => by
        have := index_bs p (1 + 2 * k) a ha w
        rwa [show ((1 + 2 * k : Nat) : Int) = 2 * (k : Int) + 1 by omega] at this
      have hxb : ∀ w : World, (Instr.index 9 (.string (bsS p)) (.int .i64 (2 * (k : Int) + 1 + 1))).run Tryz.prog w = .ok (.int .u8 (b.toNat : Nat)) w := fun w => by
        have := index_bs p (1 + 2 * k + 1) b hb w
        rwa [show ((1 + 2 * k + 1 : Nat) : Int) = 2 * (k : Int) + 1 + 1 by omega] at this
      have hlt : 2 * (k : Int) + 1 < (p.length : Int) := by omega
      have hdi : (2 * (k : Int) + 1) / 2 = (k : Int) := by omega
      have hsm : (1 : Int) + (k : Int) < (q : Int) + 1 := by omega
      have hor : bits .or .u8 ((a.toNat : Int) * 16) (b.toNat : Int) = ((a.toNat * 16 + b.toNat : Nat) : Int) := by
        have := u8_or_nat (a.toNat * 16) b.toNat (by omega) (by omega)
        rw [or_add hb16] at this
        rw [← this]
        push_cast
        rfl
      have haw : ((a.toNat : Int) * 16) % 256 = (a.toNat : Int) * 16 := by omega
      refine wp_hide fun QQ hQQ => ?_
      have hpqh := Lib.hid hpq
      clear hpq
      go_wp2
      have ck := hrow.cellAt (j := 1 + k) (by omega)
      have fk := hrow.free (1 + k)
      first | refine wp_flow (fun k => ([1, 1, 1, 1, 1, 1, 1, 1, 1, 1, 1, 1, 1, 1, 2] : List Nat).getD k 1) Dr _ (Dr.next _ _) (by kernel_rfl) (by kernel_rfl) ?_ | refine wp_flow (fun k => ([1, 1, 1, 1, 1, 1, 1, 1, 1, 1, 1, 1, 1, 1, 2] : List Nat).getD k 1) Dr _ (Dr.one _) (by kernel_rfl) (by kernel_rfl) ?_
      iterate 14 ((refine flow_quiet rfl rfl (fun K hK => ?_); apply Exists.intro; apply And.intro; (focus (rintro w' ⟨nn, rfl⟩; go_simp; (try go_bits); exact ⟨rfl, Dr.of _ _⟩)); go_simp; (try go_bits); refine hK _ ?_; clear hK K))
      (refine flow_eff rfl rfl (fun K hK => ?_); apply Exists.intro; apply Exists.intro; apply And.intro; (focus (rintro w' ⟨nn, rfl⟩; go_simp; (try go_bits); refine ⟨rfl, ?_⟩; with_reducible first | exact Dr.store _ _ _ _ | exact Dr.store4 _ _ _ _ _ _ _ _ _ _)); go_simp; (try go_bits); refine hK _ _ ?_; clear hK K)
      refine flow_nil ?_
      rintro w' ⟨nq, rfl⟩
      go_wp2
      have hrow2 : rowN .u8 (q + 1) 5 ((wr.setCell ⟨g, 1 + k, none⟩ (.int .u8 ((a.toNat * 16 + b.toNat : Nat) : Int))).drewN nq) g (fun j => if j ≤ k + 1 then fF false p j else 0) := by
        refine ((hrow.store (j := 1 + k) (b := a.toNat * 16 + b.toNat)).to fun j hj => ?_).drewN nq
        by_cases h : j = 1 + k
        · rw [if_pos h, if_pos (by omega), h, show 1 + k = k + 1 by omega, hpr.out]
        · rw [if_neg h]
          by_cases h2 : j ≤ k
          · rw [if_pos h2, if_pos (by omega)]
          · rw [if_neg h2, if_neg (by omega)]
      have hbel2 : Below W.heap.size W ((wr.setCell ⟨g, 1 + k, none⟩ (.int .u8 ((a.toNat * 16 + b.toNat : Nat) : Int))).drewN nq) := below_drewN (hbel.setCell (p := ⟨g, 1 + k, none⟩) hg _) nq
      refine hQQ.out _ _ _ ?_
      simp only [Exit.then, Exit.inBlock]
      go_roundw
      case rel => exact ⟨k + 1, by omega, by congr 1; try (push_cast; omega), hrow2, hbel2⟩
      case measure => simp [intOf]; omega
    · obtain rfl : k = q := by omega
      have hge : ¬ (2 * (k : Int) + 1 < (p.length : Int)) := by omega
      have hcs := fun cap => string_bs (W := wr) (k := g) (o := 0) (cap := cap) (form false p) (fun j b hb => by
        have hj := (List.getElem?_eq_some_iff.1 hb).1
        rw [Nat.zero_add, hrow.cellAt (by omega), if_pos (by omega)]
        unfold fF
        rw [List.getD_eq_getElem?_getD, hb, Option.getD_some])
      rw [hfl] at hcs
      have hpqh := Lib.hid hpq
      clear hpq hrow
      go_wp2
      refine bodyPost_ret (by simp only [results, Tryz.results81]; go_simp; try rfl) rfl ⟨rfl, hbel⟩
set_option maxRecDepth 100000 in
set_option maxHeartbeats 8000000 in
theorem Form_false0 (p : Bs) (q : Nat) (hpq : p.length = 2 * q + 0) (hn : nib p) (hs : p.length ≤ 1000000) (W : World) : Calls Tryz.prog 81 #[.string (bsS p), .bool false] W fun e w' => e = .returned (.tuple #[.string (bsS (form false p)), .int .i64 0]) ∧ Below W.heap.size W w' := by
  have hz := bsS_size p
  have hfl := form_length false p
  have hdv : p.length / 2 = q := by omega
  rw [hdv] at hfl
  have cT := fun w => Trim_nibs p hn hs w
  have hmk : ∀ w : World, (Instr.makeSlice 60 (.int .i64 ((q : Int) + 1)) (.int .i64 ((q : Int) + 1))).run Tryz.prog w = .ok (.slice (some ⟨w.heap.size, 0, none⟩) (q + 1) (q + 1)) (w.alloc (.cells (numA .u8 (q + 1) (fun _ => 0)) 5)) := fun w => make_bytes (q + 1) (by omega) w
  have hm2 : ((p.length : Nat) : Int) % 2 = 0 := by omega
  have hm3 : ((p.length : Nat) : Int) / 2 = (q : Int) := by omega
  have hq0 : (0 : Int) < (q : Int) + 1 := by omega
  have hpq2 := Lib.hid hpq
  skip
  clear hpq hdv
  go_enter Tryz.func81, Tryz.ntmps81
  go_wp2_with (first | (go_at_call 103; refine (cT _).mono ?_; rintro e w1 ⟨rfl, hb1⟩; have hrow : rowN .u8 (q + 1) 5 (w1.alloc (.cells (numA .u8 (q + 1) (fun _ => 0)) 5)) w1.heap.size (fun _ => 0) := heap_new rfl; have c0 := hrow.cellAt (j := 0) (by omega); have f0 := hrow.free 0))
  have hb2 : Below W.heap.size W (w1.alloc (.cells ((numA .u8 (q + 1) (fun _ => 0)).setIfInBounds 0 (.int .u8 ((markN false 0 * 16 : Nat) : Int))) 5)) := hb1.alloc hb1.size _
  have hr2 : rowN .u8 (q + 1) 5 (w1.alloc (.cells ((numA .u8 (q + 1) (fun _ => 0)).setIfInBounds 0 (.int .u8 ((markN false 0 * 16 : Nat) : Int))) 5)) w1.heap.size (fun j => if j = 0 then markN false 0 * 16 else 0) := by
    rw [numA_set]
    exact heap_new rfl
  change Code.wp _ _ _ _ (w1.alloc (.cells ((numA .u8 (q + 1) (fun _ => 0)).setIfInBounds 0 (.int .u8 ((markN false 0 * 16 : Nat) : Int))) 5))
  generalize w1.alloc (.cells ((numA .u8 (q + 1) (fun _ => 0)).setIfInBounds 0 (.int .u8 ((markN false 0 * 16 : Nat) : Int))) 5) = W2 at *
  have hg := hb1.size
  generalize w1.heap.size = g at *
  clear hrow c0 f0 cT hmk
  have hr3 : rowN .u8 (q + 1) 5 W2 g (fun j => if j = 0 then fF false p 0 else 0) := hr2.to fun j hj => by
    rw [fF_head0 hpq2.out]
  have hb3 := hb2
  clear hr2 hb2
  simp only [hm2]
  obtain ⟨Wo, hWo⟩ : ∃ X : World, X = W := ⟨_, rfl⟩
  have hm4 : ((p.length : Nat) : Int) = 2 * (q : Int) + 0 := by have := hpq2.out; omega
  have hm4h := Lib.hid hm4
  clear hm4
  go_loopw [9] (fun v wr => ∃ k : Nat, k ≤ q ∧ v = .int .i64 (2 * (k : Int)) ∧ rowN .u8 (q + 1) 5 wr g (fun j => if j ≤ k then fF false p j else 0) ∧ Below W.heap.size W wr) (fun v _ => p.length - (intOf v).toNat)
  case atStart =>
    refine ⟨0, Nat.zero_le _, by first | rfl | (rw [hm2]; rfl), hr3.to fun j hj => ?_, hb3⟩
    by_cases h : j = 0
    · rw [if_pos h, if_pos (by omega), h]
    · rw [if_neg h, if_neg (by omega)]
  case round =>
    obtain ⟨k, hk, rfl, hrow, hbel⟩ := hrel
    have hpq := hpq2.out
    by_cases hkq : k < q
    · obtain ⟨a, ha⟩ : ∃ a, p[0 + 2 * k]? = some a := ⟨_, List.getElem?_eq_getElem (by omega)⟩
      obtain ⟨b, hb⟩ : ∃ b, p[0 + 2 * k + 1]? = some b := ⟨_, List.getElem?_eq_getElem (by omega)⟩
      have hpr := Lib.hid (fF_pair (leaf := false) (by decide) hpq hn ha hb)
      have ha16 := hn a (List.mem_of_getElem? ha)
      have hb16 := hn b (List.mem_of_getElem? hb)
      have hxa : ∀ w : World, (Instr.index 9 (.string (bsS p)) (.int .i64 (2 * (k : Int)))).run Tryz.prog w = .ok (.int .u8 (a.toNat : Nat)) w := fun w => by
        have := index_bs p (0 + 2 * k) a ha w
        rwa [show ((0 + 2 * k : Nat) : Int) = 2 * (k : Int) by omega] at this
      have hxb : ∀ w : World, (Instr.index 9 (.string (bsS p)) (.int .i64 (2 * (k : Int) + 1))).run Tryz.prog w = .ok (.int .u8 (b.toNat : Nat)) w := fun w => by
        have := index_bs p (0 + 2 * k + 1) b hb w
        rwa [show ((0 + 2 * k + 1 : Nat) : Int) = 2 * (k : Int) + 1 by omega] at this
      have hlt : 2 * (k : Int) < (p.length : Int) := by omega
      have hdi : (2 * (k : Int)) / 2 = (k : Int) := by omega
      have hsm : (1 : Int) + (k : Int) < (q : Int) + 1 := by omega
      have hor : bits .or .u8 ((a.toNat : Int) * 16) (b.toNat : Int) = ((a.toNat * 16 + b.toNat : Nat) : Int) := by
        have := u8_or_nat (a.toNat * 16) b.toNat (by omega) (by omega)
        rw [or_add hb16] at this
        rw [← this]
        push_cast
        rfl
      have haw : ((a.toNat : Int) * 16) % 256 = (a.toNat : Int) * 16 := by omega
      refine wp_hide fun QQ hQQ => ?_
      have hpqh := Lib.hid hpq
      clear hpq
      go_wp2
      have ck := hrow.cellAt (j := 1 + k) (by omega)
      have fk := hrow.free (1 + k)
      first | refine wp_flow (fun k => ([1, 1, 1, 1, 1, 1, 1, 1, 1, 1, 1, 1, 1, 1, 2] : List Nat).getD k 1) Dr _ (Dr.next _ _) (by kernel_rfl) (by kernel_rfl) ?_ | refine wp_flow (fun k => ([1, 1, 1, 1, 1, 1, 1, 1, 1, 1, 1, 1, 1, 1, 2] : List Nat).getD k 1) Dr _ (Dr.one _) (by kernel_rfl) (by kernel_rfl) ?_
      iterate 14 ((refine flow_quiet rfl rfl (fun K hK => ?_); apply Exists.intro; apply And.intro; (focus (rintro w' ⟨nn, rfl⟩; go_simp; (try go_bits); exact ⟨rfl, Dr.of _ _⟩)); go_simp; (try go_bits); refine hK _ ?_; clear hK K))
      (refine flow_eff rfl rfl (fun K hK => ?_); apply Exists.intro; apply Exists.intro; apply And.intro; (focus (rintro w' ⟨nn, rfl⟩; go_simp; (try go_bits); refine ⟨rfl, ?_⟩; with_reducible first | exact Dr.store _ _ _ _ | exact Dr.store4 _ _ _ _ _ _ _ _ _ _)); go_simp; (try go_bits); refine hK _ _ ?_; clear hK K)
      refine flow_nil ?_
      rintro w' ⟨nq, rfl⟩
      go_wp2
      have hrow2 : rowN .u8 (q + 1) 5 ((wr.setCell ⟨g, 1 + k, none⟩ (.int .u8 ((a.toNat * 16 + b.toNat : Nat) : Int))).drewN nq) g (fun j => if j ≤ k + 1 then fF false p j else 0) := by
        refine ((hrow.store (j := 1 + k) (b := a.toNat * 16 + b.toNat)).to fun j hj => ?_).drewN nq
        by_cases h : j = 1 + k
        · rw [if_pos h, if_pos (by omega), h, show 1 + k = k + 1 by omega, hpr.out]
        · rw [if_neg h]
          by_cases h2 : j ≤ k
          · rw [if_pos h2, if_pos (by omega)]
          · rw [if_neg h2, if_neg (by omega)]
      have hbel2 : Below W.heap.size W ((wr.setCell ⟨g, 1 + k, none⟩ (.int .u8 ((a.toNat * 16 + b.toNat : Nat) : Int))).drewN nq) := below_drewN (hbel.setCell (p := ⟨g, 1 + k, none⟩) hg _) nq
      refine hQQ.out _ _ _ ?_
      simp only [Exit.then, Exit.inBlock]
      go_roundw
      case rel => exact ⟨k + 1, by omega, by congr 1; try (push_cast; omega), hrow2, hbel2⟩
      case measure => simp [intOf]; omega
    · obtain rfl : k = q := by omega
      have hge : ¬ (2 * (k : Int) < (p.length : Int)) := by omega
      have hcs := fun cap => string_bs (W := wr) (k := g) (o := 0) (cap := cap) (form false p) (fun j b hb => by
        have hj := (List.getElem?_eq_some_iff.1 hb).1
        rw [Nat.zero_add, hrow.cellAt (by omega), if_pos (by omega)]
        unfold fF
        rw [List.getD_eq_getElem?_getD, hb, Option.getD_some])
      rw [hfl] at hcs
      have hpqh := Lib.hid hpq
      clear hpq hrow
      go_wp2
      refine bodyPost_ret (by simp only [results, Tryz.results81]; go_simp; try rfl) rfl ⟨rfl, hbel⟩
theorem Form_any (leaf : Bool) (p : Bs) (hn : nib p) (hs : p.length ≤ 1000000) (W : World) : Calls Tryz.prog 81 #[.string (bsS p), .bool leaf] W fun e w' => e = .returned (.tuple #[.string (bsS (form leaf p)), .int .i64 0]) ∧ Below W.heap.size W w' := by
  obtain ⟨q, o, ho, hpq⟩ : ∃ q o, o < 2 ∧ p.length = 2 * q + o := ⟨p.length / 2, p.length % 2, by omega, by omega⟩
  have : o = 0 ∨ o = 1 := by omega
  cases leaf <;> rcases this with rfl | rfl
  · exact Form_false0 p q hpq hn hs W
  · exact Form_false1 p q hpq hn hs W
  · exact Form_true0 p q hpq hn hs W
  · exact Form_true1 p q hpq hn hs W
end Go.Proofs.YtijidnhaijdfaaaGreatDoor
