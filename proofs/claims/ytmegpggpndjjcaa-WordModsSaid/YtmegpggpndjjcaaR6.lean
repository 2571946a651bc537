/-
  The contract of the document's MulMod. Conditions: none.
-/
import Derived.Test.YtmegpggpndjjcaaR4
import Derived.Test.YtmegpggpndjjcaaR5
import Derived.Test.YtmegpggpndjjcaaMods
namespace Go.Proofs.Ytmegpggpndjjcaa
open Go.RowKit
attribute [local go_sem] leftBy eqW guardW
set_option linter.unusedSimpArgs false
set_option linter.unusedVariables false


theorem dg_bits (x i : Nat) : dg x i = x / 2 ^ (32 * i) % 2 ^ 32 := by
  unfold dg
  rw [show B32 = 2 ^ 32 by decide, ← Nat.pow_mul]

theorem bit_of_dg (x i k : Nat) (hk : k < 32) : dg x i / 2 ^ k % 2 = bitOf x (32 * i + k) := by
  rw [dg_bits, pow_split k 32 (by omega), Nat.mod_mul_right_div_self, Nat.mod_mod_of_dvd _ ⟨2 ^ (31 - k), by rw [Nat.mul_comm, ← Nat.pow_succ, show (31 - k).succ = 32 - k by omega]⟩, Nat.div_div_eq_div_mul, ← Nat.pow_add]
  rfl

theorem bit_and_dg (x m : Nat) : bits .and .u64 (((dg x (m / 32) : Nat) : Int) / 2 ^ (m % 32)) 1 = ((bitOf x m : Nat) : Int) := by
  have h1 : (((dg x (m / 32) : Nat) : Int) / 2 ^ (m % 32)) = ((dg x (m / 32) / 2 ^ (m % 32) : Nat) : Int) := by push_cast; rfl
  have hlt : dg x (m / 32) / 2 ^ (m % 32) < 18446744073709551616 := Nat.lt_of_le_of_lt (Nat.div_le_self _ _) (Nat.lt_trans (dg_lt _ _) (by decide))
  rw [h1, show (1 : Int) = ((1 : Nat) : Int) from rfl, u64_and_nat _ _ hlt (by omega), and_one_nat, bit_of_dg _ _ _ (Nat.mod_lt _ (by decide)), Nat.div_add_mod]

theorem lt_split {x L : Nat} (hL : 256 ≤ L) (h : x < 2 ^ 256 * 2 ^ (L - 256)) : x < 2 ^ L := by
  rw [← Nat.pow_add] at h
  rwa [show 256 + (L - 256) = L by omega] at h

theorem ref_divided2 (g cap L b x : Nat) (hL : L ≤ 512) (hL2 : 256 ≤ L) (hb0 : 0 < b) (hb : b < Q256) (hx : x < 2 ^ 256 * 2 ^ (L - 256)) (w : World) (hbits : bitRow w g L (fun j => bitOf x (L - 1 - j) == 1)) :
    Calls Try.prog 58 #[.slice (some ⟨g, 0, none⟩) L cap, W4 b] w fun e w' => e = .returned (.tuple #[W4 (x / b % Q256), W4 (x % b)]) ∧ Below w.heap.size w w' :=
  ref_divided g cap L b x hL hb0 hb (lt_split hL2 hx) w hbits

theorem bits512 (x : Nat) : ∀ j, j < 512 → bitsOf x (511 - j) = (bitOf x (512 - 1 - j) == 1) := fun j hj => by
  unfold bitsOf
  rw [show 512 - 1 - j = 511 - j by omega]

/-- An append onto a row of its own leaves all that lies below it. -/
theorem owns_below {wr w2 : World} {B n : Nat} {v : Value} {xs : List Value} {o : Obj} (hown : wr.ownsRow (B + 1) 4 1 v n xs) (hlt : B < wr.heap.size) (hg : (wr.alloc o).grownBy w2 v.ownBlock) : Below (B + 1) wr w2 :=
  ((Below.refl _ _).alloc (by omega) o).grown hg (by simp; omega) fun k hk => (hown.lt k hk).1

attribute [local irreducible] lb dg bitL bitsOf bitOf divW modW mulmodW

set_option maxRecDepth 100000 in
set_option maxHeartbeats 8000000 in
theorem ref_MulMod (a b m : Nat) (ha : a < Q256) (hb : b < Q256) (hm : m < Q256) (w : World) :
    Calls Try.prog 44 #[W4 a, W4 b, W4 m] w fun e w' => e = .returned (W4 (mulmodW a b m)) ∧ Below w.heap.size w w' := by
  by_cases h0 : m = 0
  · subst h0
    rw [show mulmodW a b 0 = 0 from by unfold mulmodW; rw [if_pos rfl], W4_zero]
    go_enter Try.func44, Try.ntmps44
    go_wp2
    refine bodyPost_ret (by simp only [results, Try.results44]; go_simp) rfl ⟨rfl, ?_⟩
    repeat (with_reducible first | exact Below.refl _ _ | assumption | refine below_drewN ?_ _ | refine Below.drew ?_ | refine Below.setCell ?_ (by first | omega | (simp; done) | (simp; omega)) _ | refine Below.alloc ?_ (by first | omega | (simp; done) | (simp; omega)) _ | refine Below.trans ?_ (Below.mono (by assumption) (by first | omega | (simp; done) | (simp; omega))))
  · have hz := nz_lb hm h0
    have hd : mulmodW a b m = a * b % m := by unfold mulmodW; rw [if_neg h0]
    rw [hd]
    have c1 := fun W => ref_product a b ha hb W
    have hx : a * b < 2 ^ 256 * 2 ^ (512 - 256) := Nat.mul_lt_mul'' (Q256_pow ▸ ha) (Q256_pow ▸ hb)
    have hD : ∀ g cap W, bitRow W g 512 (fun j => bitsOf (a * b) (511 - j)) → Calls Try.prog 58 #[.slice (some ⟨g, 0, none⟩) 512 cap, W4 m] W fun e w2 => e = .returned (.tuple #[W4 (a * b / m % Q256), W4 (a * b % m)]) ∧ Below W.heap.size W w2 := fun g cap W hW => by
      exact ref_divided2 g cap 512 m (a * b) (Nat.le_refl _) (by decide) (Nat.pos_of_ne_zero h0) hm hx W (hW.to (bits512 _))
    clear hx hd h0
    generalize a * b = n at *
    generalize n / m % Q256 = q at *
    generalize n % m = r at *
    obtain ⟨i0, hi, hz0, hz1, hz2⟩ := info_parts infoB
    go_enter Try.func44, Try.ntmps44
    go_wp2_with (first | (go_at_call 72; refine (c1 _).mono ?_; rintro e wa ⟨rfl, hb_wa⟩; have hc_wa := (bcell hb_wa).1; have hf_wa := (bcell hb_wa).2; have hz_wa : _ ≤ wa.heap.size := hb_wa.size; (try simp only [World.size_alloc, World.heap_drewN, World.size_setCell, heap_drew] at hc_wa hf_wa hz_wa); have hz_wa_w_0 : w.heap.size < wa.heap.size := (by omega); have hz_wa_w_1 : w.heap.size + 1 < wa.heap.size := (by omega); have hz_wa_w_2 : w.heap.size + 1 + 1 < wa.heap.size := (by omega); have hz_wa_w_3 : w.heap.size + 1 + 1 + 1 < wa.heap.size := (by omega)) | (at_make; refine wpList_make_own _ rfl (.const (.int .i64 0)) (.const (.int .i64 512)) 43 rfl (wa.heap.size + 1) 4 i0 (.bool false) 1 Try.underlying43 hi hz0 hz1 .i64 .i64 512 512 rfl rfl rfl (by rw [hz2]; decide) (by decide) (by simp) ?_; intro w2 hown0 hgrow0))
    have hb_w2 : Below (wa.heap.size + 1) (wa.alloc (.cells #[.int .u64 (dg n 0 : Nat), .int .u64 (dg n 1 : Nat), .int .u64 (dg n 2 : Nat), .int .u64 (dg n 3 : Nat), .int .u64 (dg n 4 : Nat), .int .u64 (dg n 5 : Nat), .int .u64 (dg n 6 : Nat), .int .u64 (dg n 7 : Nat), .int .u64 (dg n 8 : Nat), .int .u64 (dg n 9 : Nat), .int .u64 (dg n 10 : Nat), .int .u64 (dg n 11 : Nat), .int .u64 (dg n 12 : Nat), .int .u64 (dg n 13 : Nat), .int .u64 (dg n 14 : Nat), .int .u64 (dg n 15 : Nat)] 65 (0, 0))) w2 := (Below.refl _ _).grown hgrow0 (by simp) (fun k hk => by cases hk)
    have hz_w2 := hb_w2.size
    simp only [World.size_alloc] at hz_w2
    simp only [World.size_alloc] at hown0
    clear hgrow0
    go_loopw [8, 9] (fun v i wr => ∃ j : Nat, j ≤ 512 ∧ i = .int .i64 ((j : Int) - 1) ∧ wr.ownsRow (wa.heap.size + 1) 4 1 v (512 - j) (bitL (512 - j) (fun k => bitsOf n (511 - k))) ∧ row16 wr wa.heap.size n ∧ rowW 24 wr (w.heap.size + 1 + 1) m ∧ rowW 24 wr (w.heap.size + 1 + 1 + 1) 0 ∧ Below w.heap.size w wr)
      (fun _ i _ => (intOf i + 1).toNat)
    case atStart =>
      refine ⟨512, by omega, by go_num, ?_, (row16.new rfl).below hb_w2 (by omega), ?_, ?_, ?_⟩
      · rw [show 512 - 512 = 0 from rfl, bitL_zero]
        exact hown0
      · exact ((((rowW.new (by simp)).alloc _).below hb_wa (by simp)).alloc _).below hb_w2 (by omega)
      · exact (((rowW.new0 (by simp)).below hb_wa (by simp)).alloc _).below hb_w2 (by omega)
      · refine Below.trans ?_ (hb_w2.mono (by omega))
        repeat (with_reducible first | exact Below.refl _ _ | assumption | refine below_drewN ?_ _ | refine Below.drew ?_ | refine Below.setCell ?_ (by first | omega | (simp; done) | (simp; omega)) _ | refine Below.alloc ?_ (by first | omega | (simp; done) | (simp; omega)) _ | refine Below.trans ?_ (Below.mono (by assumption) (by first | omega | (simp; done) | (simp; omega))))
    case round =>
      obtain ⟨j, hj, rfl, hown, hrow, hmr, hres, hbel⟩ := hrel
      have hsz := hbel.size
      have hlt := hrow.lt
      cases j with
      | zero =>
        obtain ⟨g, cap, rfl, hg, hcap, hbits⟩ := owns_bitRow hown (by omega)
        have hD' := hD g cap wr hbits
        obtain ⟨k0, k1, k2, k3, kf⟩ := hmr.cells
        obtain ⟨z0, z1, z2, z3, zf⟩ := hres.cells
        have hs3 := hres.lt
        clear hD
        go_wp2_with (go_at_call 58; with_reducible refine hD'.mono ?_; rintro e wd ⟨rfl, hb_wd⟩; have hc_wd := (bcell hb_wd).1; have hf_wd := (bcell hb_wd).2; have hz_wd : _ ≤ wd.heap.size := hb_wd.size; (try simp only [World.size_alloc, World.heap_drewN, World.size_setCell, heap_drew] at hc_wd hf_wd hz_wd); have hz_wd_w_0 : w.heap.size < wd.heap.size := (by omega); have hz_wd_w_1 : w.heap.size + 1 < wd.heap.size := (by omega); have hz_wd_w_2 : w.heap.size + 1 + 1 < wd.heap.size := (by omega); have hz_wd_w_3 : w.heap.size + 1 + 1 + 1 < wd.heap.size := (by omega))
        refine bodyPost_ret (by simp only [results, Try.results44]; go_simp) rfl ⟨rfl, ?_⟩
        repeat (with_reducible first | exact Below.refl _ _ | assumption | refine below_drewN ?_ _ | refine Below.drew ?_ | refine Below.setCell ?_ (by first | omega | (simp; done) | (simp; omega)) _ | refine Below.alloc ?_ (by first | omega | (simp; done) | (simp; omega)) _ | refine Below.trans ?_ (Below.mono (by assumption) (by first | omega | (simp; done) | (simp; omega))))
      | succ j =>
        have hco := hrow.cellAt (j := j / 32) (by omega)
        have hbit := bit_and_dg n j
        have hi1 : 0 ≤ (j : Int) / 32 := by omega
        have hi2 : (j : Int) / 32 < 16 := by omega
        have hi3 : ((j : Int) / 32).toNat = j / 32 := by omega
        have hi4 : 0 ≤ (j : Int) % 32 := by omega
        have hi5 : (j : Int) % 32 < 64 := by omega
        have hi6 : ((j : Int) % 32).toNat = j % 32 := by omega
        have hbv : (((bitOf n j : Nat) : Int) == 1) = bitsOf n j := by rw [int_one]; unfold bitsOf; rfl
        have e1 : ((j + 1 : Nat) : Int) - 1 = (j : Int) := by omega
        rw [e1]
        go_wp2_with (at_builtin; refine wpList_append_own _ rfl (.tmp 24) (.tmp 34) 43 rfl (wa.heap.size + 1) 4 i0 (.bool false) 1 1 Try.underlying43 hi hz0 hz1 hz2 rfl (by decide) _ _ _ rfl (hown.alloc _) ⟨wr.heap.size, 0, none⟩ 1 1 [.bool (bitsOf n j)] rfl rfl ?c1 ?c2 ?c3 ?c4 ?c5 ?_)
        case c1 =>
          intro k u hk
          match k, hk with
          | 0, hk => simp at hk; subst hk; simp [Addr.add]
        case c2 => intro u hu; simp at hu; subst hu; rfl
        case c3 => unfold maxLen; omega
        case c4 => omega
        case c5 => simp; omega
        intro v' w3 hown' hgrow _
        have hb3 := owns_below hown hlt hgrow
        have e3 : bitL (512 - j) (fun k => bitsOf n (511 - k)) = bitL (511 - j) (fun k => bitsOf n (511 - k)) ++ [.bool (bitsOf n j)] := by
          rw [show 512 - j = 511 - j + 1 by omega, bitL_succ]
          simp only [show 511 - (511 - j) = j by omega]
        have hO : w3.ownsRow (wa.heap.size + 1) 4 1 v' (512 - j) (bitL (512 - j) (fun k => bitsOf n (511 - k))) := by
          rw [e3, show 512 - j = 511 - j + 1 by omega]
          exact hown'
        clear hown' hgrow e3
        go_wp2
        go_roundw
        case rel => exact ⟨j, by omega, rfl, hO, hrow.below hb3 (by omega), hmr.below hb3 (by omega), hres.below hb3 (by omega), hbel.trans (hb3.mono (by omega))⟩
        case measure => simp [intOf]
end Go.Proofs.Ytmegpggpndjjcaa
