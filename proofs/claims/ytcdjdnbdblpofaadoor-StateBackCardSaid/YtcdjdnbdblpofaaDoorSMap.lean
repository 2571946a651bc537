/-
  Maps of values that are kept as they are: laws of their keys; the state's block; find. Conditions: none.
-/
import Derived.Maps.OwnSet
import Derived.Maps.RangeWalk
import Derived.Below
import Derived.Laws.OwnMore
import Derived.DeepKeys4
import Derived.StringKeys
import Derived.WalkKit
import Derived.ProofKit
import Derived.WalkSpells
import Derived.Lib.Hide
import Derived.Test.YtcdjdnbdblpofaaDoorProg
import Derived.Test.YtcdjdnbdblpofaaDoorFlow
import Derived.Test.YtcdjdnbdblpofaaDoorFlow2
import Derived.Test.YtcdjdnbdblpofaaDoorFlow3
import Derived.Test.YtcdjdnbdblpofaaDoorBase
import Derived.Test.YtcdjdnbdblpofaaDoorRange
namespace Go.Proofs.YtcdjdnbdblpofaaDoor
open Go.RowKit Go.Maps
attribute [local go_sem] leftBy
set_option linter.unusedSimpArgs false
set_option linter.unusedVariables false



theorem laidOut : laidOutB Tryd.prog = true := by kernel_rfl
theorem lawStr : Keyed Tryd.prog 9 := string_keyed Tryd.underlying9
theorem lawSpot : Keyed Tryd.prog 83 := Keyed.of_law (deep_law_laid laidOut (m := 3) (by omega) (of_decide_eq_true (by kernel_rfl)) (by kernel_rfl) (by kernel_rfl))
theorem keyStr (s : ByteArray) (hs : s.size ≤ maxLen) : keyOf Tryd.prog 9 (.string s) = some (.string s.data.toList) := Go.WideMaps.keyOf_string_mk Tryd.underlying9 hs

/-- How an element of a map reads: by itself. -/
def heldR (v : Value) : Option (DataW Value × List MemPlace) := some (.held v, [])

theorem owns_of {W W' : World} {k : TypeId} {R : Value → Option (DataW Value × List MemPlace)} {b n : Nat} {D : DataW Value} (h : W.ownsMap Tryd.prog k R b n D) (e : W'.heap[b]? = W.heap[b]?) : W'.ownsMap Tryd.prog k R b n D := by
  obtain ⟨es, clock, h1, h2⟩ := h
  exact ⟨es, clock, e.trans h1, h2⟩

/-- 'v, ok := m[k]'. -/
theorem look2 {W : World} {t k e : TypeId} (K : Keyed Tryd.prog k) (ht : Tryd.prog.underlying t = some (.map k e)) {b n : Nat} {D : DataW Value} (h : W.ownsMap Tryd.prog k heldR b n D) {z : Value} (hz : ∀ w, (zeroValue e).run Tryd.prog w = .ok z w)
    {key : Value} {kl : Lit} (hkey : keyOf Tryd.prog k key = some kl) {v : Value} (hv : D.atKey kl (.held z) = .held v) :
    ∀ W' : World, W'.heap[b]? = W.heap[b]? → (Instr.lookup t (.map (some b)) key true).run Tryd.prog W' = .ok (.tuple #[v, .bool (Maps.has D kl)]) W' := by
  intro W' e
  obtain ⟨v', ps, hr, hR⟩ := (owns_of h e).look_ok K ht (hz W') rfl hkey
  have h1 : (DataW.held v' : DataW Value) = D.atKey kl (.held z) := congrArg Prod.fst (Option.some.inj hR)
  rw [hv] at h1
  rw [← DataW.held.inj h1]
  exact hr
/-- 'v := m[k]'. -/
theorem look1 {W : World} {t k e : TypeId} (K : Keyed Tryd.prog k) (ht : Tryd.prog.underlying t = some (.map k e)) {b n : Nat} {D : DataW Value} (h : W.ownsMap Tryd.prog k heldR b n D) {z : Value} (hz : ∀ w, (zeroValue e).run Tryd.prog w = .ok z w)
    {key : Value} {kl : Lit} (hkey : keyOf Tryd.prog k key = some kl) {v : Value} (hv : D.atKey kl (.held z) = .held v) :
    ∀ W' : World, W'.heap[b]? = W.heap[b]? → (Instr.lookup t (.map (some b)) key false).run Tryd.prog W' = .ok v W' := by
  intro W' e
  obtain ⟨v', ps, hr, hR⟩ := (owns_of h e).lookup K ht (hz W') rfl hkey
  have h1 : (DataW.held v' : DataW Value) = D.atKey kl (.held z) := congrArg Prod.fst (Option.some.inj hR)
  rw [hv] at h1
  rw [← DataW.held.inj h1]
  exact hr

/-- What is known of an account. -/
structure Kn where
  ad : ByteArray
  th : Bool
  no : Int
  b0 : Int
  b1 : Int
  b2 : Int
  b3 : Int
  rt : ByteArray
  cd : ByteArray
  hs : Bool
  co : ByteArray
  cp : Option Addr
  cn : Nat
  cc : Nat
def Kn.v (k : Kn) : Value := .agg #[.string k.ad, .bool k.th, .int .u64 k.no, .int .u64 k.b0, .int .u64 k.b1, .int .u64 k.b2, .int .u64 k.b3, .string k.rt, .string k.cd, .bool k.hs, .string k.co, .slice k.cp k.cn k.cc]
def Kn.zero : Kn := ⟨⟨#[]⟩, false, 0, 0, 0, 0, 0, ⟨#[]⟩, ⟨#[]⟩, false, ⟨#[]⟩, none, 0, 0⟩

/-- The state's block, behind its six maps. -/
def stA (W : World) (b : Nat) (lg un : Value) : Prop :=
  W.heap[b + 6]? = some (.cells #[.map (some b), .map (some (b + 1)), .map (some (b + 2)), .map (some (b + 3)), .map (some (b + 4)), .map (some (b + 5)), lg, un] 73 (0, 0))
theorem stA.lt {W : World} {b : Nat} {lg un : Value} (h : stA W b lg un) : b + 6 < W.heap.size := (Array.getElem?_eq_some_iff.1 h).1
theorem stA.cells {W : World} {b : Nat} {lg un : Value} (h : stA W b lg un) : W.cell? ⟨b + 6, 0, none⟩ = some (.map (some b)) ∧ W.cell? ⟨b + 6, 1, none⟩ = some (.map (some (b + 1))) ∧ W.cell? ⟨b + 6, 2, none⟩ = some (.map (some (b + 2))) ∧
    W.cell? ⟨b + 6, 3, none⟩ = some (.map (some (b + 3))) ∧ W.cell? ⟨b + 6, 4, none⟩ = some (.map (some (b + 4))) ∧ W.cell? ⟨b + 6, 5, none⟩ = some (.map (some (b + 5))) ∧ W.cell? ⟨b + 6, 6, none⟩ = some lg ∧ W.cell? ⟨b + 6, 7, none⟩ = some un ∧ ∀ j, W.frozen? ⟨b + 6, j, none⟩ = false := by
  have hh : W.heap[b + 6]? = _ := h
  refine ⟨?_, ?_, ?_, ?_, ?_, ?_, ?_, ?_, fun j => ?_⟩ <;> simp [World.cell?, World.frozen?, hh]

theorem zeroKn (w : World) : (zeroValue 65).run Tryd.prog w = .ok Kn.zero.v w := by kernel_rfl

set_option maxRecDepth 100000 in
set_option maxHeartbeats 4000000 in
/-- find, where something is known. -/
theorem find_hit {W : World} {b : Nat} {lg un : Value} (hst : stA W b lg un) (a : ByteArray) (K : Kn)
    (hl : ∀ W' : World, W'.heap[b]? = W.heap[b]? → (Instr.lookup 66 (.map (some b)) (.string a) true).run Tryd.prog W' = .ok (.tuple #[K.v, .bool true]) W') :
    Calls Tryd.prog 34 #[.pointer (some ⟨b + 6, 0, none⟩), .string a] W fun e w' => e = .returned (.tuple #[K.v, .int .i64 0]) ∧ Below W.heap.size W w' := by
  obtain ⟨c0, _⟩ := hst.cells
  have hlt := hst.lt
  have hl2 := fun o => hl (W.alloc o) (Below.heap_alloc W o b (by omega))
  obtain ⟨ad, th, no, b0, b1, b2, b3, rt, cd, hs, co, cp, cn, cc⟩ := K
  unfold Kn.v at *
  clear hl
  dsimp only at hl2
  go_enter Tryd.func34, Tryd.ntmps34
  go_wp2
  refine bodyPost_ret (by simp only [results, Tryd.results34]; go_simp; try rfl) rfl ⟨rfl, ?_⟩
  repeat (with_reducible first | exact Below.refl _ _ | assumption | refine below_drewN ?_ _ | refine Below.drew ?_ | refine Below.setCell ?_ (by first | omega | (simp; done) | (simp; omega)) _ | refine Below.alloc ?_ (by first | omega | (simp; done) | (simp; omega)) _ | refine Below.trans ?_ (Below.mono (by assumption) (by first | omega | (simp; done) | (simp; omega))))

set_option maxRecDepth 100000 in
set_option maxHeartbeats 4000000 in
/-- find, where nothing is known. -/
theorem find_miss {W : World} {b : Nat} {lg un : Value} (hst : stA W b lg un) (a : ByteArray)
    (hl : ∀ W' : World, W'.heap[b]? = W.heap[b]? → (Instr.lookup 66 (.map (some b)) (.string a) true).run Tryd.prog W' = .ok (.tuple #[Kn.zero.v, .bool false]) W') :
    Calls Tryd.prog 34 #[.pointer (some ⟨b + 6, 0, none⟩), .string a] W fun e w' => e = .returned (.tuple #[Kn.zero.v, .int .i64 190]) ∧ Below W.heap.size W w' := by
  obtain ⟨c0, _⟩ := hst.cells
  have hlt := hst.lt
  have hl2 := fun o => hl (W.alloc o) (Below.heap_alloc W o b (by omega))
  unfold Kn.v Kn.zero at *
  clear hl
  dsimp only at hl2
  go_enter Tryd.func34, Tryd.ntmps34
  go_wp2
  refine bodyPost_ret (by simp only [results, Tryd.results34]; go_simp; try rfl) rfl ⟨rfl, ?_⟩
  repeat (with_reducible first | exact Below.refl _ _ | assumption | refine below_drewN ?_ _ | refine Below.drew ?_ | refine Below.setCell ?_ (by first | omega | (simp; done) | (simp; omega)) _ | refine Below.alloc ?_ (by first | omega | (simp; done) | (simp; omega)) _ | refine Below.trans ?_ (Below.mono (by assumption) (by first | omega | (simp; done) | (simp; omega))))

set_option maxRecDepth 100000 in
set_option maxHeartbeats 4000000 in
/-- find, of a nil state. -/
theorem find_nil (a : ByteArray) (W : World) :
    Calls Tryd.prog 34 #[.pointer none, .string a] W fun e w' => e = .returned (.tuple #[Kn.zero.v, .int .i64 1]) ∧ Below W.heap.size W w' := by
  unfold Kn.v Kn.zero
  go_enter Tryd.func34, Tryd.ntmps34
  go_wp2
  refine bodyPost_ret (by simp only [results, Tryd.results34]; go_simp; try rfl) rfl ⟨rfl, ?_⟩
  repeat (with_reducible first | exact Below.refl _ _ | assumption | refine below_drewN ?_ _ | refine Below.drew ?_ | refine Below.setCell ?_ (by first | omega | (simp; done) | (simp; omega)) _ | refine Below.alloc ?_ (by first | omega | (simp; done) | (simp; omega)) _ | refine Below.trans ?_ (Below.mono (by assumption) (by first | omega | (simp; done) | (simp; omega))))
end Go.Proofs.YtcdjdnbdblpofaaDoor
