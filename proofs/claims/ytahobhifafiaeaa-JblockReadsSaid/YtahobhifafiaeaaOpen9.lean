/- Slices of numbers and of tags that came in. -/
import Derived.Test.YtahobhifafiaeaaOpen
import Derived.Test.YtahobhifafiaeaaW9d
import Derived.Deep.SlicePairs
import Derived.ChangeSlices
namespace Go.Proofs.Ytahobhifafiaeaa
open Go.RowKit Go.ChangeShapes Go.WideShapes Go.ChangeAt Go.Deep
set_option linter.unusedVariables false

theorem nums_in {H : Type} {enc : TypeId × Value → H} {W : World} {a : Option Addr} {len cap : Nat} {d : DataW H} {p : List MemPlace} (h : DataW.Trod enc Try.prog W 0 (fun _ => true) true 26 (.slice a len cap) d p) :
    ∃ m, NumRow W a len m ∧ Wds m ∧ (len : Int) ≤ 9223372036854775807 ∧ len ≤ cap ∧ (cap : Int) ≤ 9223372036854775807 := by
  obtain ⟨fuel, hf⟩ := h
  rcases open_ints Try.underlying26 Try.underlying22 (by kernel_rfl) hf with ⟨hcs, _⟩ | ⟨x, l, c, zs, hcs, _, hl, hm, hz, _, hcell, hwz⟩
  · simp [Value.cells] at hcs
    obtain ⟨rfl, rfl, rfl⟩ := hcs
    exact nums_of (zs := []) (.inl ⟨rfl, rfl, rfl, rfl⟩)
  · simp [Value.cells] at hcs
    obtain ⟨rfl, rfl, rfl⟩ := hcs
    exact nums_of (.inr ⟨x, rfl, hl, hm, hz, hcell, hwz⟩)
theorem tags_in {H : Type} {enc : TypeId × Value → H} {W : World} {a : Option Addr} {len cap : Nat} {d : DataW H} {p : List MemPlace} (h : DataW.Trod enc Try.prog W 0 (fun _ => true) true 25 (.slice a len cap) d p) :
    ∃ (tb : Nat → Int) (te : Nat → Bool), TagRow W a len tb te ∧ Wds tb ∧ (len : Int) ≤ 9223372036854775807 ∧ len ≤ cap := by
  obtain ⟨fuel, hf⟩ := h
  rcases open_slice_pairs Try.underlying25 Try.underlying69 (by kernel_rfl) rfl rfl (by kernel_rfl) (by kernel_rfl) hf with ⟨hcs, _⟩ | ⟨x, l, c, mx, nn, V0, V1, D0, D1, P0, P1, hcs, _, hl, hm, hmm, _, hall⟩
  · simp [Value.cells] at hcs
    obtain ⟨rfl, rfl, rfl⟩ := hcs
    exact ⟨fun _ => 0, fun _ => false, .inl rfl, fun _ => ⟨Int.le_refl 0, by show (0 : Int) < 4294967296; decide⟩, by omega, by omega⟩
  · simp [Value.cells] at hcs
    obtain ⟨rfl, rfl, rfl⟩ := hcs
    simp only [if_true] at hmm
    rw [hmm] at hall
    have hmax : maxLen = 9223372036854775807 := rfl
    have key : ∀ i, i < cap → ∃ (n : Int) (b : Bool), W.cell? (x.add (i * 2)) = some (.int .u32 n) ∧ W.cell? (x.add (i * 2 + 1)) = some (.bool b) ∧ 0 ≤ n ∧ n < 4294967296 := by
      intro i hi
      obtain ⟨h0, h1, g0, g1⟩ := hall i hi
      obtain ⟨n, e0, _, wn⟩ := DataW.trod_int Try.underlying22 g0
      obtain ⟨b, e1, _⟩ := DataW.trod_bool Try.underlying4 g1
      simp at e0 e1
      have := bounds_u32 wn
      exact ⟨n, b, by rw [h0, e0], by rw [h1, e1], by omega, by omega⟩
    refine ⟨fun i => if hi : i < cap then (key i hi).choose else 0, fun i => if hi : i < cap then (key i hi).choose_spec.choose else false, ?_, ?_, by omega, hl⟩
    · by_cases h0 : len = 0
      · exact .inl h0
      · obtain ⟨b, off, spot⟩ := x
        have hc := (key 0 (by omega)).choose_spec.choose_spec.1
        have hspot : spot = none := by simpa [Addr.add] using World.cell?_spot hc
        subst hspot
        refine .inr ⟨b, off, rfl, fun i hi => ?_⟩
        have hk := (key i (by omega)).choose_spec.choose_spec
        have hi' : i < cap := by omega
        simp only [hi', dif_pos]
        have e1 := addr_add b off (i * 2)
        have e2 := addr_add b off (i * 2 + 1)
        exact ⟨(congrArg W.cell? e1).symm.trans hk.1, (congrArg W.cell? e2).symm.trans hk.2.1⟩
    · intro i
      by_cases hi : i < cap
      · simp only [hi, dif_pos]; exact (key i hi).choose_spec.choose_spec.2.2
      · simp only [hi, dif_neg, not_false_eq_true]; decide
end Go.Proofs.Ytahobhifafiaeaa
