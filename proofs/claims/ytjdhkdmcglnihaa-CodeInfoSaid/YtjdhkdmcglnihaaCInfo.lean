/-
  The contract of code.Info. Conditions: none.
-/
import Derived.Test.YtjdhkdmcglnihaaCRows
import Derived.WalkMore
namespace Go.Proofs.Ytjdhkdmcglnihaa
open Go.RowKit Go.Shelf Go.Maps
attribute [local go_sem] leftBy
set_option linter.unusedSimpArgs false
set_option linter.unusedVariables false


def infoV (p : (Nat × Nat × Nat) × Bool) : Value := .tuple #[.int .i64 (p.1.1 : Nat), .int .i64 (p.1.2.1 : Nat), .int .u64 (p.1.2.2 : Nat), .bool p.2]

set_option maxHeartbeats 4000000 in
theorem Info_push (b : Nat) (h : 96 ≤ b) (h2 : b < 128) (w : World) :
    Calls Try.prog 14 #[.int .u8 (b : Nat)] w fun e w' => e = .returned (.tuple #[.int .i64 0, .int .i64 1, .int .u64 3, .bool true]) ∧ Below w.heap.size w w' := by
  have i1 : (96 : Int) ≤ (b : Int) := by omega
  have i2 : (b : Int) < 128 := by omega
  go_enter Try.func14, Try.ntmps14
  go_wp2
  refine bodyPost_ret (by simp only [results, Try.results14]; go_simp; try rfl) rfl ⟨rfl, ?_⟩
  repeat (with_reducible first | exact Below.refl _ _ | assumption | refine below_drewN ?_ _ | refine Below.drew ?_ | refine Below.setCell ?_ (by first | omega | (simp; done) | (simp; omega)) _ | refine Below.alloc ?_ (by first | omega | (simp; done) | (simp; omega)) _ | refine Below.trans ?_ (Below.mono (by assumption) (by first | omega | (simp; done) | (simp; omega))))

set_option maxHeartbeats 4000000 in
theorem Info_dup (b : Nat) (h : 128 ≤ b) (h2 : b < 144) (w : World) :
    Calls Try.prog 14 #[.int .u8 (b : Nat)] w fun e w' => e = .returned (.tuple #[.int .i64 ((b % 16 + 1 : Nat) : Int), .int .i64 ((b % 16 + 2 : Nat) : Int), .int .u64 3, .bool true]) ∧ Below w.heap.size w w' := by
  have i1 : (96 : Int) ≤ (b : Int) := by omega
  have i2 : ¬ (b : Int) < 128 := by omega
  have i3 : (128 : Int) ≤ (b : Int) := by omega
  have i4 : (b : Int) < 144 := by omega
  go_enter Try.func14, Try.ntmps14
  go_wp2
  refine bodyPost_ret (by simp only [results, Try.results14]; go_simp; try rfl) rfl ⟨rfl, ?_⟩
  repeat (with_reducible first | exact Below.refl _ _ | assumption | refine below_drewN ?_ _ | refine Below.drew ?_ | refine Below.setCell ?_ (by first | omega | (simp; done) | (simp; omega)) _ | refine Below.alloc ?_ (by first | omega | (simp; done) | (simp; omega)) _ | refine Below.trans ?_ (Below.mono (by assumption) (by first | omega | (simp; done) | (simp; omega))))

set_option maxHeartbeats 4000000 in
theorem Info_swap (b : Nat) (h : 144 ≤ b) (h2 : b < 160) (w : World) :
    Calls Try.prog 14 #[.int .u8 (b : Nat)] w fun e w' => e = .returned (.tuple #[.int .i64 ((b % 16 + 2 : Nat) : Int), .int .i64 ((b % 16 + 2 : Nat) : Int), .int .u64 3, .bool true]) ∧ Below w.heap.size w w' := by
  have i1 : (96 : Int) ≤ (b : Int) := by omega
  have i2 : ¬ (b : Int) < 128 := by omega
  have i3 : (128 : Int) ≤ (b : Int) := by omega
  have i4 : ¬ (b : Int) < 144 := by omega
  have i5 : (144 : Int) ≤ (b : Int) := by omega
  have i6 : (b : Int) < 160 := by omega
  go_enter Try.func14, Try.ntmps14
  go_wp2
  refine bodyPost_ret (by simp only [results, Try.results14]; go_simp; try rfl) rfl ⟨rfl, ?_⟩
  repeat (with_reducible first | exact Below.refl _ _ | assumption | refine below_drewN ?_ _ | refine Below.drew ?_ | refine Below.setCell ?_ (by first | omega | (simp; done) | (simp; omega)) _ | refine Below.alloc ?_ (by first | omega | (simp; done) | (simp; omega)) _ | refine Below.trans ?_ (Below.mono (by assumption) (by first | omega | (simp; done) | (simp; omega))))

set_option maxHeartbeats 4000000 in
theorem Info_log (b : Nat) (h : 160 ≤ b) (h2 : b < 165) (w : World) :
    Calls Try.prog 14 #[.int .u8 (b : Nat)] w fun e w' => e = .returned (.tuple #[.int .i64 ((b % 16 + 2 : Nat) : Int), .int .i64 0, .int .u64 ((375 * (b % 16 + 1) : Nat) : Int), .bool true]) ∧ Below w.heap.size w w' := by
  have i1 : (96 : Int) ≤ (b : Int) := by omega
  have i2 : ¬ (b : Int) < 128 := by omega
  have i3 : (128 : Int) ≤ (b : Int) := by omega
  have i4 : ¬ (b : Int) < 144 := by omega
  have i5 : (144 : Int) ≤ (b : Int) := by omega
  have i6 : ¬ (b : Int) < 160 := by omega
  have i7 : (160 : Int) ≤ (b : Int) := by omega
  have i8 : (b : Int) < 165 := by omega
  go_enter Try.func14, Try.ntmps14
  go_wp2
  refine bodyPost_ret (by simp only [results, Try.results14]; go_simp; try rfl) rfl ⟨rfl, ?_⟩
  repeat (with_reducible first | exact Below.refl _ _ | assumption | refine below_drewN ?_ _ | refine Below.drew ?_ | refine Below.setCell ?_ (by first | omega | (simp; done) | (simp; omega)) _ | refine Below.alloc ?_ (by first | omega | (simp; done) | (simp; omega)) _ | refine Below.trans ?_ (Below.mono (by assumption) (by first | omega | (simp; done) | (simp; omega))))

set_option maxRecDepth 100000 in
set_option maxHeartbeats 8000000 in
theorem Info_low (b : Nat) (h : b < 96) (w : World) :
    Calls Try.prog 14 #[.int .u8 (b : Nat)] w fun e w' => e = .returned (infoV (orF b)) ∧ Below w.heap.size w w' := by
  have i1 : ¬ (96 : Int) ≤ (b : Int) := by omega
  have i3 : ¬ (128 : Int) ≤ (b : Int) := by omega
  have i5 : ¬ (144 : Int) ≤ (b : Int) := by omega
  have i7 : ¬ (160 : Int) ≤ (b : Int) := by omega
  have hb : b < 256 := by omega
  have law : Keyed Try.prog 9 := string_keyed Try.underlying9
  go_enter Try.func14, Try.ntmps14
  go_wp2_with (first | (go_at_call 18; (with_reducible refine (rows_any _).mono ?_); rintro e w0 ⟨rfl, hown, hB0⟩; have hz0 := hB0.size) | (at_range; refine wpList_range_own _ rfl _ 43 rfl 9 46 law Try.underlying43 elemR w.heap.size 21 _ rfl hown ?_; intro w1 hrg1 hg1 hs1))
  go_frame
  go_loopw [7, 8] (fun _ _ wr => ∃ (left : Lit → Bool) (cnt : Nat), wr.ranges Try.prog 9 elemR w.heap.size w0.heap.size 21 rowsD left cnt ∧ (∀ l, left l = true → Maps.has rowsD l = true) ∧ (∀ r ∈ rowsK, left (.string r.1.data.toList) = true ∨ hasB b r.1 = false) ∧ Below w.heap.size w wr ∧ w0.heap.size < wr.heap.size)
    (fun _ _ wr => wr.rangeLeft w.heap.size w0.heap.size)
  case atStart => exact ⟨_, _, hrg1, fun _ h => h, fun r hr => .inl (has_row r hr), hB0.grown hg1 hz0 (fun k e => by cases e), by omega⟩
  case round =>
    obtain ⟨left, cnt, hrg, hsub, hinv, hbel, hlw⟩ := hrel
    clear hrg1 hg1 hs1 hown
    go_wp2_with (at_next; refine wpList_next_ranges _ rfl _ rfl 9 law elemR Value.string Value.agg (fun key kl h => by obtain ⟨s, h1, _⟩ := Go.WideMaps.string_of_keyOf Try.underlying9 h; exact ⟨s, h1⟩) (fun v y h => by obtain ⟨c, h1, _⟩ := elemR_inv v y h; exact ⟨c, h1⟩) w.heap.size w0.heap.size 21 _ _ _ rfl hrg ?_ ?_)
    · intro _ hl0
      have hp := orF_none (pick_none fun r hr => (hinv r hr).resolve_left (by rw [hl0]; simp))
      go_wp2
      refine bodyPost_ret (by simp only [results, Try.results14]; go_simp; try rfl) rfl ⟨by rw [hp]; rfl, ?_⟩
      repeat (with_reducible first | exact Below.refl _ _ | assumption | refine below_drewN ?_ _ | refine Below.drew ?_ | refine Below.setCell ?_ (by first | omega | (simp; done) | (simp; omega)) _ | refine Below.alloc ?_ (by first | omega | (simp; done) | (simp; omega)) _ | refine Below.trans ?_ (Below.mono (by assumption) (by first | omega | (simp; done) | (simp; omega))))
    · intro x c kl y ps w2 cnt2 hkx hlx hRy hat hrg2 hlt hg2 hs2 hen
      obtain ⟨s, e1, e2, _⟩ := Go.WideMaps.string_of_keyOf Try.underlying9 hkx
      injection e1 with e1
      subst e1
      obtain ⟨r, hr, e3⟩ := row_of (hsub _ hlx)
      obtain ⟨c', e4, e5⟩ := elemR_inv _ _ hRy
      obtain ⟨e5, _⟩ := Prod.mk.inj e5
      injection e4 with e4
      subst e4
      have e6 := hat .nil
      have e9 := e3
      rw [e3, at_row _ r hr, e5] at e6
      have e7 : rowV r.2 = .agg c := by simpa using e6
      have e8 : x = r.1 := by
        rw [e2] at e3
        injection e3 with e3
        cases x
        cases hk : r.1
        rw [hk] at e3
        congr 1
        exact Array.ext' e3
      subst e8
      injection e7 with e7
      subst e7
      have hix := index_row r hr b hb
      have hpk := pick_row r hr b hb
      have hbel2 : Below w.heap.size w w2 := hbel.grown hg2 hbel.size (fun k e => by cases e; omega)
      have c1 := fun W => strings_IndexByte r.1 (b : Int) W
      rw [show ((b : Nat) : Int).toNat.toUInt8 = Nat.toUInt8 b from rfl] at c1
      have hgone : ∀ z : Lit, (left z && !z.sameKey kl) = true → Maps.has rowsD z = true := fun z hz => hsub z (by simp at hz; exact hz.1)
      have hinv2 : hasB b r.1 = false → ∀ r' ∈ rowsK, (left (.string r'.1.data.toList) && !(Lit.string r'.1.data.toList).sameKey kl) = true ∨ hasB b r'.1 = false := fun hn r' hr' => by
        by_cases hs : (Lit.string r'.1.data.toList).sameKey kl = true
        · right
          rw [e9] at hs
          have : r'.1.data.toList = r.1.data.toList := by simpa [Lit.sameKey] using hs
          unfold hasB at hn ⊢
          rw [this]
          exact hn
        · rcases hinv r' hr' with h1 | h1
          · left
            simp only [h1, Bool.true_and]
            simpa using hs
          · exact .inr h1
      generalize Lib.indexByte r.1.data.toList (Nat.toUInt8 b) = z at *
      obtain ⟨k, a1, a2, a3⟩ := r
      dsimp only at *
      clear hat hRy hkx hlx e6 hr hinv hsub e2 e9
      by_cases hz : hasB b k = true
      · have hp := Lib.hid (orF_some (hpk hz))
        rw [hz] at hix
        have hzi : (0 : Int) ≤ z := of_decide_eq_true hix
        clear hpk hinv2
        go_wp2_with (go_at_call 19; refine (c1 _).mono ?_; rintro e _ ⟨rfl, hww⟩; obtain rfl := hww.symm)
        first | refine wp_flow (fun k => ([1, 1, 1, 1, 1, 1, 1, 1, 1, 1] : List Nat).getD k 1) Dr _ (Dr.next _ _) (by kernel_rfl) (by kernel_rfl) ?_ | refine wp_flow (fun k => ([1, 1, 1, 1, 1, 1, 1, 1, 1, 1] : List Nat).getD k 1) Dr _ (Dr.one _) (by kernel_rfl) (by kernel_rfl) ?_
        (refine flow_quiet rfl rfl (fun K hK => ?_); apply Exists.intro; apply And.intro; (focus (rintro w' ⟨nn, rfl⟩; go_simp; (try go_bits); exact ⟨rfl, Dr.of _ _⟩)); go_simp; (try go_bits); refine hK _ ?_; clear hK K)
        (refine flow_quiet rfl rfl (fun K hK => ?_); apply Exists.intro; apply And.intro; (focus (rintro w' ⟨nn, rfl⟩; go_simp; (try go_bits); exact ⟨rfl, Dr.of _ _⟩)); go_simp; (try go_bits); refine hK _ ?_; clear hK K)
        (refine flow_quiet rfl rfl (fun K hK => ?_); apply Exists.intro; apply And.intro; (focus (rintro w' ⟨nn, rfl⟩; go_simp; (try go_bits); exact ⟨rfl, Dr.of _ _⟩)); go_simp; (try go_bits); refine hK _ ?_; clear hK K)
        (refine flow_quiet rfl rfl (fun K hK => ?_); apply Exists.intro; apply And.intro; (focus (rintro w' ⟨nn, rfl⟩; go_simp; (try go_bits); exact ⟨rfl, Dr.of _ _⟩)); go_simp; (try go_bits); refine hK _ ?_; clear hK K)
        (refine flow_quiet rfl rfl (fun K hK => ?_); apply Exists.intro; apply And.intro; (focus (rintro w' ⟨nn, rfl⟩; go_simp; (try go_bits); exact ⟨rfl, Dr.of _ _⟩)); go_simp; (try go_bits); refine hK _ ?_; clear hK K)
        (refine flow_quiet rfl rfl (fun K hK => ?_); apply Exists.intro; apply And.intro; (focus (rintro w' ⟨nn, rfl⟩; go_simp; (try go_bits); exact ⟨rfl, Dr.of _ _⟩)); go_simp; (try go_bits); refine hK _ ?_; clear hK K)
        (refine flow_quiet rfl rfl (fun K hK => ?_); apply Exists.intro; apply And.intro; (focus (rintro w' ⟨nn, rfl⟩; go_simp; (try go_bits); exact ⟨rfl, Dr.of _ _⟩)); go_simp; (try go_bits); refine hK _ ?_; clear hK K)
        (refine flow_quiet rfl rfl (fun K hK => ?_); apply Exists.intro; apply And.intro; (focus (rintro w' ⟨nn, rfl⟩; go_simp; (try go_bits); exact ⟨rfl, Dr.of _ _⟩)); go_simp; (try go_bits); refine hK _ ?_; clear hK K)
        (refine flow_quiet rfl rfl (fun K hK => ?_); apply Exists.intro; apply And.intro; (focus (rintro w' ⟨nn, rfl⟩; go_simp; (try go_bits); exact ⟨rfl, Dr.of _ _⟩)); go_simp; (try go_bits); refine hK _ ?_; clear hK K)
        (refine flow_quiet rfl rfl (fun K hK => ?_); apply Exists.intro; apply And.intro; (focus (rintro w' ⟨nn, rfl⟩; go_simp; (try go_bits); exact ⟨rfl, Dr.of _ _⟩)); go_simp; (try go_bits); refine hK _ ?_; clear hK K)
        refine flow_nil ?_
        rintro w' ⟨nq, rfl⟩
        go_wp2
        replace hp := hp.out
        refine bodyPost_ret (by simp only [results, Try.results14]; go_simp; try rfl) rfl ⟨by rw [hp]; rfl, ?_⟩
        repeat (with_reducible first | exact Below.refl _ _ | assumption | refine below_drewN ?_ _ | refine Below.drew ?_ | refine Below.setCell ?_ (by first | omega | (simp; done) | (simp; omega)) _ | refine Below.alloc ?_ (by first | omega | (simp; done) | (simp; omega)) _ | refine Below.trans ?_ (Below.mono (by assumption) (by first | omega | (simp; done) | (simp; omega))))
      · have hz : hasB b k = false := by simpa using hz
        rw [hz] at hix
        have hzi : ¬ (0 : Int) ≤ z := of_decide_eq_false hix
        have hinv3 := Lib.hid (hinv2 hz)
        clear hpk hinv2
        go_wp2_with (go_at_call 19; refine (c1 _).mono ?_; rintro e _ ⟨rfl, hww⟩; obtain rfl := hww.symm)
        exact ⟨⟨_, cnt2, hrg2.alloc _, hgone, hinv3.out, hbel2.alloc hbel2.size _, by simp; omega⟩, by rw [(hrg2.alloc _).left_eq, hrg.left_eq]; exact hlt⟩

set_option maxRecDepth 100000 in
set_option maxHeartbeats 8000000 in
theorem Info_high (b : Nat) (h : 165 ≤ b) (hb : b < 256) (w : World) :
    Calls Try.prog 14 #[.int .u8 (b : Nat)] w fun e w' => e = .returned (infoV (orF b)) ∧ Below w.heap.size w w' := by
  have i1 : (96 : Int) ≤ (b : Int) := by omega
  have i2 : ¬ (b : Int) < 128 := by omega
  have i3 : (128 : Int) ≤ (b : Int) := by omega
  have i4 : ¬ (b : Int) < 144 := by omega
  have i5 : (144 : Int) ≤ (b : Int) := by omega
  have i6 : ¬ (b : Int) < 160 := by omega
  have i7 : (160 : Int) ≤ (b : Int) := by omega
  have i8 : ¬ (b : Int) < 165 := by omega
  have law : Keyed Try.prog 9 := string_keyed Try.underlying9
  go_enter Try.func14, Try.ntmps14
  go_wp2_with (first | (go_at_call 18; (with_reducible refine (rows_any _).mono ?_); rintro e w0 ⟨rfl, hown, hB0⟩; have hz0 := hB0.size) | (at_range; refine wpList_range_own _ rfl _ 43 rfl 9 46 law Try.underlying43 elemR w.heap.size 21 _ rfl hown ?_; intro w1 hrg1 hg1 hs1))
  go_frame
  go_loopw [7, 8] (fun _ _ wr => ∃ (left : Lit → Bool) (cnt : Nat), wr.ranges Try.prog 9 elemR w.heap.size w0.heap.size 21 rowsD left cnt ∧ (∀ l, left l = true → Maps.has rowsD l = true) ∧ (∀ r ∈ rowsK, left (.string r.1.data.toList) = true ∨ hasB b r.1 = false) ∧ Below w.heap.size w wr ∧ w0.heap.size < wr.heap.size)
    (fun _ _ wr => wr.rangeLeft w.heap.size w0.heap.size)
  case atStart => exact ⟨_, _, hrg1, fun _ h => h, fun r hr => .inl (has_row r hr), hB0.grown hg1 hz0 (fun k e => by cases e), by omega⟩
  case round =>
    obtain ⟨left, cnt, hrg, hsub, hinv, hbel, hlw⟩ := hrel
    clear hrg1 hg1 hs1 hown
    go_wp2_with (at_next; refine wpList_next_ranges _ rfl _ rfl 9 law elemR Value.string Value.agg (fun key kl h => by obtain ⟨s, h1, _⟩ := Go.WideMaps.string_of_keyOf Try.underlying9 h; exact ⟨s, h1⟩) (fun v y h => by obtain ⟨c, h1, _⟩ := elemR_inv v y h; exact ⟨c, h1⟩) w.heap.size w0.heap.size 21 _ _ _ rfl hrg ?_ ?_)
    · intro _ hl0
      have hp := orF_none (pick_none fun r hr => (hinv r hr).resolve_left (by rw [hl0]; simp))
      go_wp2
      refine bodyPost_ret (by simp only [results, Try.results14]; go_simp; try rfl) rfl ⟨by rw [hp]; rfl, ?_⟩
      repeat (with_reducible first | exact Below.refl _ _ | assumption | refine below_drewN ?_ _ | refine Below.drew ?_ | refine Below.setCell ?_ (by first | omega | (simp; done) | (simp; omega)) _ | refine Below.alloc ?_ (by first | omega | (simp; done) | (simp; omega)) _ | refine Below.trans ?_ (Below.mono (by assumption) (by first | omega | (simp; done) | (simp; omega))))
    · intro x c kl y ps w2 cnt2 hkx hlx hRy hat hrg2 hlt hg2 hs2 hen
      obtain ⟨s, e1, e2, _⟩ := Go.WideMaps.string_of_keyOf Try.underlying9 hkx
      injection e1 with e1
      subst e1
      obtain ⟨r, hr, e3⟩ := row_of (hsub _ hlx)
      obtain ⟨c', e4, e5⟩ := elemR_inv _ _ hRy
      obtain ⟨e5, _⟩ := Prod.mk.inj e5
      injection e4 with e4
      subst e4
      have e6 := hat .nil
      have e9 := e3
      rw [e3, at_row _ r hr, e5] at e6
      have e7 : rowV r.2 = .agg c := by simpa using e6
      have e8 : x = r.1 := by
        rw [e2] at e3
        injection e3 with e3
        cases x
        cases hk : r.1
        rw [hk] at e3
        congr 1
        exact Array.ext' e3
      subst e8
      injection e7 with e7
      subst e7
      have hix := index_row r hr b hb
      have hpk := pick_row r hr b hb
      have hbel2 : Below w.heap.size w w2 := hbel.grown hg2 hbel.size (fun k e => by cases e; omega)
      have c1 := fun W => strings_IndexByte r.1 (b : Int) W
      rw [show ((b : Nat) : Int).toNat.toUInt8 = Nat.toUInt8 b from rfl] at c1
      have hgone : ∀ z : Lit, (left z && !z.sameKey kl) = true → Maps.has rowsD z = true := fun z hz => hsub z (by simp at hz; exact hz.1)
      have hinv2 : hasB b r.1 = false → ∀ r' ∈ rowsK, (left (.string r'.1.data.toList) && !(Lit.string r'.1.data.toList).sameKey kl) = true ∨ hasB b r'.1 = false := fun hn r' hr' => by
        by_cases hs : (Lit.string r'.1.data.toList).sameKey kl = true
        · right
          rw [e9] at hs
          have : r'.1.data.toList = r.1.data.toList := by simpa [Lit.sameKey] using hs
          unfold hasB at hn ⊢
          rw [this]
          exact hn
        · rcases hinv r' hr' with h1 | h1
          · left
            simp only [h1, Bool.true_and]
            simpa using hs
          · exact .inr h1
      generalize Lib.indexByte r.1.data.toList (Nat.toUInt8 b) = z at *
      obtain ⟨k, a1, a2, a3⟩ := r
      dsimp only at *
      clear hat hRy hkx hlx e6 hr hinv hsub e2 e9
      by_cases hz : hasB b k = true
      · have hp := Lib.hid (orF_some (hpk hz))
        rw [hz] at hix
        have hzi : (0 : Int) ≤ z := of_decide_eq_true hix
        clear hpk hinv2
        go_wp2_with (go_at_call 19; refine (c1 _).mono ?_; rintro e _ ⟨rfl, hww⟩; obtain rfl := hww.symm)
        first | refine wp_flow (fun k => ([1, 1, 1, 1, 1, 1, 1, 1, 1, 1] : List Nat).getD k 1) Dr _ (Dr.next _ _) (by kernel_rfl) (by kernel_rfl) ?_ | refine wp_flow (fun k => ([1, 1, 1, 1, 1, 1, 1, 1, 1, 1] : List Nat).getD k 1) Dr _ (Dr.one _) (by kernel_rfl) (by kernel_rfl) ?_
        (refine flow_quiet rfl rfl (fun K hK => ?_); apply Exists.intro; apply And.intro; (focus (rintro w' ⟨nn, rfl⟩; go_simp; (try go_bits); exact ⟨rfl, Dr.of _ _⟩)); go_simp; (try go_bits); refine hK _ ?_; clear hK K)
        (refine flow_quiet rfl rfl (fun K hK => ?_); apply Exists.intro; apply And.intro; (focus (rintro w' ⟨nn, rfl⟩; go_simp; (try go_bits); exact ⟨rfl, Dr.of _ _⟩)); go_simp; (try go_bits); refine hK _ ?_; clear hK K)
        (refine flow_quiet rfl rfl (fun K hK => ?_); apply Exists.intro; apply And.intro; (focus (rintro w' ⟨nn, rfl⟩; go_simp; (try go_bits); exact ⟨rfl, Dr.of _ _⟩)); go_simp; (try go_bits); refine hK _ ?_; clear hK K)
        (refine flow_quiet rfl rfl (fun K hK => ?_); apply Exists.intro; apply And.intro; (focus (rintro w' ⟨nn, rfl⟩; go_simp; (try go_bits); exact ⟨rfl, Dr.of _ _⟩)); go_simp; (try go_bits); refine hK _ ?_; clear hK K)
        (refine flow_quiet rfl rfl (fun K hK => ?_); apply Exists.intro; apply And.intro; (focus (rintro w' ⟨nn, rfl⟩; go_simp; (try go_bits); exact ⟨rfl, Dr.of _ _⟩)); go_simp; (try go_bits); refine hK _ ?_; clear hK K)
        (refine flow_quiet rfl rfl (fun K hK => ?_); apply Exists.intro; apply And.intro; (focus (rintro w' ⟨nn, rfl⟩; go_simp; (try go_bits); exact ⟨rfl, Dr.of _ _⟩)); go_simp; (try go_bits); refine hK _ ?_; clear hK K)
        (refine flow_quiet rfl rfl (fun K hK => ?_); apply Exists.intro; apply And.intro; (focus (rintro w' ⟨nn, rfl⟩; go_simp; (try go_bits); exact ⟨rfl, Dr.of _ _⟩)); go_simp; (try go_bits); refine hK _ ?_; clear hK K)
        (refine flow_quiet rfl rfl (fun K hK => ?_); apply Exists.intro; apply And.intro; (focus (rintro w' ⟨nn, rfl⟩; go_simp; (try go_bits); exact ⟨rfl, Dr.of _ _⟩)); go_simp; (try go_bits); refine hK _ ?_; clear hK K)
        (refine flow_quiet rfl rfl (fun K hK => ?_); apply Exists.intro; apply And.intro; (focus (rintro w' ⟨nn, rfl⟩; go_simp; (try go_bits); exact ⟨rfl, Dr.of _ _⟩)); go_simp; (try go_bits); refine hK _ ?_; clear hK K)
        (refine flow_quiet rfl rfl (fun K hK => ?_); apply Exists.intro; apply And.intro; (focus (rintro w' ⟨nn, rfl⟩; go_simp; (try go_bits); exact ⟨rfl, Dr.of _ _⟩)); go_simp; (try go_bits); refine hK _ ?_; clear hK K)
        refine flow_nil ?_
        rintro w' ⟨nq, rfl⟩
        go_wp2
        replace hp := hp.out
        refine bodyPost_ret (by simp only [results, Try.results14]; go_simp; try rfl) rfl ⟨by rw [hp]; rfl, ?_⟩
        repeat (with_reducible first | exact Below.refl _ _ | assumption | refine below_drewN ?_ _ | refine Below.drew ?_ | refine Below.setCell ?_ (by first | omega | (simp; done) | (simp; omega)) _ | refine Below.alloc ?_ (by first | omega | (simp; done) | (simp; omega)) _ | refine Below.trans ?_ (Below.mono (by assumption) (by first | omega | (simp; done) | (simp; omega))))
      · have hz : hasB b k = false := by simpa using hz
        rw [hz] at hix
        have hzi : ¬ (0 : Int) ≤ z := of_decide_eq_false hix
        have hinv3 := Lib.hid (hinv2 hz)
        clear hpk hinv2
        go_wp2_with (go_at_call 19; refine (c1 _).mono ?_; rintro e _ ⟨rfl, hww⟩; obtain rfl := hww.symm)
        exact ⟨⟨_, cnt2, hrg2.alloc _, hgone, hinv3.out, hbel2.alloc hbel2.size _, by simp; omega⟩, by rw [(hrg2.alloc _).left_eq, hrg.left_eq]; exact hlt⟩

/-- code.Info. -/
theorem Info_any (b : Nat) (hb : b < 256) (w : World) :
    Calls Try.prog 14 #[.int .u8 (b : Nat)] w fun e w' => e = .returned (infoV (infoF b)) ∧ Below w.heap.size w w' := by
  unfold infoF
  by_cases h1 : b < 96
  · rw [if_neg (by omega), if_neg (by omega), if_neg (by omega), if_neg (by omega)]
    exact Info_low b h1 w
  · by_cases h2 : b < 128
    · rw [if_pos (by omega)]
      exact Info_push b (by omega) h2 w
    · by_cases h3 : b < 144
      · rw [if_neg (by omega), if_pos (by omega)]
        exact Info_dup b (by omega) h3 w
      · by_cases h4 : b < 160
        · rw [if_neg (by omega), if_neg (by omega), if_pos (by omega)]
          exact Info_swap b (by omega) h4 w
        · by_cases h5 : b < 165
          · rw [if_neg (by omega), if_neg (by omega), if_neg (by omega), if_pos (by omega)]
            exact Info_log b (by omega) h5 w
          · rw [if_neg (by omega), if_neg (by omega), if_neg (by omega), if_neg (by omega)]
            exact Info_high b (by omega) hb w
end Go.Proofs.Ytjdhkdmcglnihaa
