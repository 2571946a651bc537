/-
  The map that code.rows makes: its contract; plain facts on its rows. Conditions: none.
-/
import Derived.Maps.RangeWalk
import Derived.StringKeys
import Derived.Test.YtjdhkdmcglnihaaCSame
import Derived.Test.YtjdhkdmcglnihaaCIndex
namespace Go.Proofs.Ytjdhkdmcglnihaa
open Go.RowKit Go.Shelf Go.Maps
attribute [local go_sem] leftBy
set_option linter.unusedSimpArgs false
set_option linter.unusedVariables false

/-- The rows: operations; what they take, put and cost. -/
def rowsK : List (ByteArray × Nat × Nat × Nat) := [
  (⟨#[0, 254]⟩, 0, 0, 0),
  (⟨#[1, 3, 16, 17, 18, 19, 20, 22, 23, 24, 26, 27, 28, 29]⟩, 2, 1, 3),
  (⟨#[2, 4, 5, 6, 7, 11]⟩, 2, 1, 5),
  (⟨#[8, 9]⟩, 3, 1, 8),
  (⟨#[10]⟩, 2, 1, 10),
  (⟨#[21, 25, 53, 81]⟩, 1, 1, 3),
  (⟨#[32]⟩, 2, 1, 30),
  (⟨#[48, 50, 51, 52, 54, 56, 61, 67, 88, 89, 90, 95]⟩, 0, 1, 2),
  (⟨#[49, 59, 63, 84]⟩, 1, 1, 0),
  (⟨#[55, 57, 62, 94]⟩, 3, 0, 3),
  (⟨#[71]⟩, 0, 1, 5),
  (⟨#[80]⟩, 1, 0, 2),
  (⟨#[82, 83]⟩, 2, 0, 3),
  (⟨#[85, 243, 253]⟩, 2, 0, 0),
  (⟨#[86]⟩, 1, 0, 8),
  (⟨#[87]⟩, 2, 0, 10),
  (⟨#[91]⟩, 0, 0, 1),
  (⟨#[92]⟩, 1, 1, 100),
  (⟨#[93]⟩, 2, 0, 100),
  (⟨#[241]⟩, 7, 1, 0),
  (⟨#[244, 250]⟩, 6, 1, 0)]
def rowV (p : Nat × Nat × Nat) : Value := .agg #[.int .i64 (p.1 : Nat), .int .i64 (p.2.1 : Nat), .int .u64 (p.2.2 : Nat)]
/-- How an element of the map reads: by itself. -/
def elemR (v : Value) : Option (DataW Value × List MemPlace) :=
  match v with
  | .agg cs => some (.held (.agg cs), [])
  | _ => none
theorem elemR_inv (v : Value) (y : DataW Value × List MemPlace) (h : elemR v = some y) : ∃ c : Array Value, v = .agg c ∧ y = (.held (.agg c), []) := by
  unfold elemR at h
  split at h
  · cases h
    exact ⟨_, rfl, rfl⟩
  · cases h
def rowsD : DataW Value := rowsK.foldl (fun D r => D.put (.string r.1.data.toList) (.held (rowV r.2))) (.map [])

theorem wpList_insert_own {H : Type} {P : Program} (w : World) {ops : Array Oper} {rest : List Oper} {o : Oper} {a : Act} {Q : Exit → Act → World → Prop}
    (hg : o.guard = none) (m x v : Operand) (t : TypeId) (hop : o.op = Op.insert t m x v)
    (k e : TypeId) (K : Keyed P k) (ht : P.underlying t = some (.map k e)) (R : Value → Option (DataW H × List MemPlace)) (b n : Nat) (D : DataW H)
    (hm : a.eval m = .map (some b)) (hown : w.ownsMap P k R b n D) (hn : n < maxLen) (key val : Value) (kl : Lit) (hx : a.eval x = key) (hv : a.eval v = val) (hkey : keyOf P k key = some kl)
    (d : DataW H) (ps : List MemPlace) (hval : R val = some (d, ps))
    (hK : ∀ w', w'.ownsMap P k R b (n + 1) (D.put kl d) → w.grownBy w' (some b) → wpList P ops Q rest (a.put o.dst undef) w') :
    wpList P ops Q (o :: rest) a w := by
  refine wpList_plain hg fun K' hK' => ?_
  obtain ⟨w', hrun, r1, r2⟩ := hown.update K ht hn hkey hval
  unfold Oper.wp
  simp [execOp, hop, hm, hx, hv, hrun, Result.andThen]
  exact hK' _ _ (hK w' r1 r2)

set_option maxRecDepth 100000 in
set_option maxHeartbeats 4000000 in
theorem rows_any (w : World) :
    Calls Try.prog 18 #[] w fun e w' => e = .returned (.map (some w.heap.size)) ∧ w'.ownsMap Try.prog 9 elemR w.heap.size 21 rowsD ∧ Below w.heap.size w w' := by
  have hown := World.ownsMap_made w Try.prog 9 elemR
  have hmm := @run_makeMap Try.prog
  have hB : Below w.heap.size w (w.alloc (.map #[] 0)) := (Below.refl _ w).alloc (Nat.le_refl _) _
  have hkey : ∀ s : ByteArray, s.size ≤ maxLen → keyOf Try.prog 9 (.string s) = some (.string s.data.toList) := fun s hs => Go.WideMaps.keyOf_string_mk Try.underlying9 hs
  have law : Keyed Try.prog 9 := string_keyed Try.underlying9
  go_enter Try.func18, Try.ntmps18
  go_wp2_with (refine wpList_insert_own _ rfl _ _ _ 43 rfl 9 46 law Try.underlying43 elemR w.heap.size _ _ rfl hown (by unfold maxLen; omega) _ _ _ rfl rfl (hkey _ (by show _ ≤ _; unfold maxLen; decide)) _ [] rfl ?_; intro w1 hown hg1; have hB := hB.grown hg1 hB.size (fun k e => by cases e; exact Nat.le_refl _); clear hg1)
  go_ret
  exact ⟨rfl, hown, hB⟩

theorem rowsD_eq : rowsD = .map (rowsK.map fun r => (.string r.1.data.toList, .held (rowV r.2))) := by kernel_rfl

theorem row_of {l : Lit} (h : Maps.has rowsD l = true) : ∃ r ∈ rowsK, l = .string r.1.data.toList := by
  rw [rowsD_eq] at h
  unfold Maps.has at h
  simp only [List.any_map, List.any_eq_true, Function.comp] at h
  obtain ⟨r, hr, h2⟩ := h
  refine ⟨r, hr, ?_⟩
  cases l with
  | string s => simp [Lit.sameKey] at h2; rw [h2]
  | _ => cases h2

theorem at_row (zd : DataW Value) : ∀ r ∈ rowsK, rowsD.atKey (.string r.1.data.toList) zd = .held (rowV r.2) := by
  rw [rowsD_eq]
  intro r hr
  simp only [rowsK, List.mem_cons, List.not_mem_nil, or_false] at hr
  rcases hr with rfl | rfl | rfl | rfl | rfl | rfl | rfl | rfl | rfl | rfl | rfl | rfl | rfl | rfl | rfl | rfl | rfl | rfl | rfl | rfl | rfl <;> rfl

theorem has_row : ∀ r ∈ rowsK, Maps.has rowsD (.string r.1.data.toList) = true := by
  rw [rowsD_eq]
  intro r hr
  unfold Maps.has
  simp only [List.any_map, List.any_eq_true, Function.comp]
  exact ⟨r, hr, by simp [Lit.sameKey]⟩

/-- Is a byte one of some? -/
def hasB (b : Nat) (s : ByteArray) : Bool := s.data.toList.any fun x => x.toNat == b
theorem index_row : ∀ r ∈ rowsK, ∀ b, b < 256 → decide (0 ≤ Lib.indexByte r.1.data.toList (Nat.toUInt8 b)) = hasB b r.1 := by decide +kernel
/-- The row that an operation has together with others. -/
def pickF (b : Nat) : Option (Nat × Nat × Nat) := (rowsK.find? fun r => hasB b r.1).map (·.2)
theorem pick_row : ∀ r ∈ rowsK, ∀ b, b < 256 → hasB b r.1 = true → pickF b = some r.2 := by decide +kernel
theorem pick_none {b : Nat} (h : ∀ r ∈ rowsK, hasB b r.1 = false) : pickF b = none := by
  unfold pickF
  rw [List.find?_eq_none.2 (fun r hr => by rw [h r hr]; simp)]
  rfl

def orF (b : Nat) : (Nat × Nat × Nat) × Bool := match pickF b with | some r => (r, true) | none => ((0, 0, 0), false)
theorem orF_some {b : Nat} {r : Nat × Nat × Nat} (h : pickF b = some r) : orF b = (r, true) := by unfold orF; rw [h]
theorem orF_none {b : Nat} (h : pickF b = none) : orF b = ((0, 0, 0), false) := by unfold orF; rw [h]
/-- What an operation takes, puts and costs; whether there is one. -/
def infoF (b : Nat) : (Nat × Nat × Nat) × Bool :=
  if 96 ≤ b ∧ b < 128 then ((0, 1, 3), true) else if 128 ≤ b ∧ b < 144 then ((b % 16 + 1, b % 16 + 2, 3), true) else if 144 ≤ b ∧ b < 160 then ((b % 16 + 2, b % 16 + 2, 3), true)
  else if 160 ≤ b ∧ b < 165 then ((b % 16 + 2, 0, 375 * (b % 16 + 1)), true) else orF b
end Go.Proofs.Ytjdhkdmcglnihaa
