/- Arguments that are rows of integers (arrays, structs), opened: what a law's frame tells its walk. No program in sight. -/
import Derived.WalkKit
import Derived.ProofKit
import Derived.OpenShut
import Derived.ChangeOld
import Derived.Below
import Derived.Deep.MidRow
import Derived.Test.YthkalmdpbhjafaaDoorMg0
namespace Go.Proofs.YthkalmdpbhjafaaDoor
open Go.RowKit
set_option linter.unusedVariables false
variable {P : Program} {W : World} {base : Nat} {t : TypeId} {v : Value}

theorem int_of_cell {u : TypeId} {k : IntKind} {c : Value} (hu : P.underlying u = some (.int k)) (h : Cell.okWide P W .any base u c) : ∃ n, c = .int k n ∧ k.has n := by
  unfold Cell.okWide at h
  rw [hu] at h
  unfold Cell.ok at h
  rw [hu] at h
  cases c <;> simp at h ⊢
  obtain ⟨rfl, h⟩ := h
  exact ⟨_, ⟨rfl, rfl⟩, h⟩

/-- a row of integers of the kinds ks -/
theorem open_row (ks : List IntKind) (h : Value.okWide P W .any base t v) (hrow : ((P.underlying t).map (·.isRow)) = some true)
    (hts : (P.cellTypes P.depth t).map (fun ts => ts.map P.underlying) = some (ks.map fun k => some (.int k))) (hn : P.cellsOf t = ks.length) :
    ∃ z : Nat → Int, v = .agg ((List.range ks.length).map fun i => .int (ks.getD i .u8) (z i)).toArray ∧ (∀ i, i < ks.length → (ks.getD i .u8).has (z i)) ∧ ∀ i, ks.length ≤ i → z i = 0 := by
  have hv : ∃ cs, v = .agg cs ∧ cs.size = P.cellsOf t ∧ Row.okWide P W .any base t cs := by
    unfold Value.okWide at h
    cases hu : P.underlying t with
    | none => rw [hu] at hrow; cases hrow
    | some d => rw [hu] at hrow h; cases d <;> simp [TypeDesc.isRow] at hrow <;> exact h
  obtain ⟨cs, rfl, hs, ts, hct, _, hc⟩ := hv
  rw [hct, Option.map_some, Option.some.injEq] at hts
  have hl : ts.length = ks.length := by simpa using congrArg List.length hts
  have hcell : ∀ i, i < ks.length → ∃ n, cs[i]? = some (.int (ks.getD i .u8) n) ∧ (ks.getD i .u8).has n := by
    intro i hi
    obtain ⟨u, hu, ho⟩ := hc i (cs[i]'(by omega)) (by simp)
    rw [Nat.mod_eq_of_lt (by omega)] at hu
    have : (ts.map P.underlying)[i]? = some (some (.int (ks.getD i .u8))) := by rw [hts]; simp [hi]
    rw [List.getElem?_map, hu, Option.map_some, Option.some.injEq] at this
    obtain ⟨n, he, hh⟩ := int_of_cell this ho
    exact ⟨n, by rw [← he]; simp, hh⟩
  refine ⟨fun i => if h : i < ks.length then (hcell i h).choose else 0, ?_, fun i hi => by simp only [hi, dif_pos]; exact (hcell i hi).choose_spec.2, fun i hi => dif_neg (by omega)⟩
  congr 1
  apply Array.ext_getElem?
  intro i
  by_cases hi : i < ks.length
  · rw [(hcell i hi).choose_spec.1]; simp [hi]
  · simp [hi]; omega

theorem kHas {k : IntKind} {n : Int} (h : k.has n) : k.min ≤ n ∧ n ≤ k.max := h

/-- an integer -/
theorem open_i {k : IntKind} (hu : P.underlying t = some (.int k)) (h : Value.okWide P W .any base t v) : ∃ n, v = .int k n ∧ k.min ≤ n ∧ n ≤ k.max := by
  unfold Value.okWide at h
  rw [hu] at h
  exact int_of_cell hu h
theorem open_s (hu : P.underlying t = some .string) (h : Value.okWide P W .any base t v) : ∃ s : ByteArray, v = .string s ∧ (s.size : Int) ≤ IntKind.i64.max := by
  unfold Value.okWide at h
  rw [hu] at h
  unfold Cell.okWide at h
  rw [hu] at h
  unfold Cell.ok at h
  rw [hu] at h
  cases v <;> simp at h ⊢
  exact h
/-- an array of bytes -/
theorem open_bytes (n : Nat) (h : Value.okWide P W .any base t v) (hrow : ((P.underlying t).map (·.isRow)) = some true)
    (hts : (P.cellTypes P.depth t).map (fun ts => ts.map P.underlying) = some ((List.replicate n IntKind.u8).map fun k => some (.int k))) (hn : P.cellsOf t = n) :
    ∃ z : Nat → Int, v = .agg (Ks .u8 n z).toArray ∧ ∀ i, 0 ≤ z i ∧ z i < 256 := by
  obtain ⟨z, rfl, hz, h0⟩ := open_row (List.replicate n IntKind.u8) h hrow hts (by simpa using hn)
  simp only [List.length_replicate] at hz h0 ⊢
  refine ⟨z, ?_, ?_⟩
  · unfold Ks
    congr 2
    apply List.map_congr_left
    intro i hi
    rw [List.mem_range] at hi
    simp [List.getD, hi]
  · intro i
    by_cases hi : i < n
    · have := kHas (hz i hi)
      simp [List.getD, hi, IntKind.min, IntKind.max, IntKind.signed, IntKind.bits] at this
      omega
    · rw [h0 i (by omega)]; omega
end Go.Proofs.YthkalmdpbhjafaaDoor
