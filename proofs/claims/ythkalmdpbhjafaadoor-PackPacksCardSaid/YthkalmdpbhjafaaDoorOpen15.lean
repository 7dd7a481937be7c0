/- Slices of numbers and of rows that came in (chapter 15). -/
import Derived.Test.YthkalmdpbhjafaaDoorOpen
import Derived.Test.YthkalmdpbhjafaaDoorMg2
import Derived.Deep.Slices
import Derived.ChangeSlices
namespace Go.Proofs.YthkalmdpbhjafaaDoor
open Go.RowKit Go.ChangeShapes Go.WideShapes Go.ChangeAt Go.Deep
set_option linter.unusedVariables false

theorem ints_in {H : Type} {enc : TypeId × Value → H} {W : World} {a : Option Addr} {len cap : Nat} {d : DataW H} {p : List MemPlace} (h : DataW.Trod enc Tryd.prog W 0 (fun _ => true) true 24 (.slice a len cap) d p) :
    ∃ m : Nat → Int, RRow W a 1 len (inF m) ∧ (∀ i, -9223372036854775808 ≤ m i ∧ m i ≤ 9223372036854775807) ∧ (len : Int) ≤ 9223372036854775807 ∧ (a = none → len = 0 ∧ cap = 0) := by
  obtain ⟨fuel, hf⟩ := h
  rcases open_ints Tryd.underlying24 Tryd.underlying3 (by kernel_rfl) hf with ⟨hcs, _⟩ | ⟨x, l, c, zs, hcs, _, hl, hm, hz, _, hcell, hwz⟩
  · simp [Value.cells] at hcs
    obtain ⟨rfl, rfl, rfl⟩ := hcs
    exact ⟨fun _ => 0, .inl rfl, fun _ => ⟨(by decide : (-9223372036854775808 : Int) ≤ 0), (by decide : (0 : Int) ≤ 9223372036854775807)⟩, by omega, fun _ => ⟨rfl, rfl⟩⟩
  · simp [Value.cells] at hcs
    obtain ⟨rfl, rfl, rfl⟩ := hcs
    have hmax : maxLen = 9223372036854775807 := rfl
    have hzl : len ≤ zs.length := by rw [hz]; split <;> omega
    refine ⟨fun i => zs.getD i 0, ?_, ?_, by omega, fun h => by cases h⟩
    · by_cases h0 : len = 0
      · exact .inl h0
      · obtain ⟨b, off, spot⟩ := x
        have hc := hcell 0 (by omega)
        have hspot : spot = none := by simpa [Addr.add] using World.cell?_spot hc
        subst hspot
        refine .inr ⟨b, off, rfl, fun i hi j v hv => ?_⟩
        have hc := hcell i (by omega)
        rw [addr_add] at hc
        cases j with
        | zero => rw [Nat.mul_one, Nat.add_zero, hc]; exact hv
        | succ j => cases hv
    · intro i
      show _ ≤ zs.getD i 0 ∧ zs.getD i 0 ≤ _
      by_cases hi : i < zs.length
      · exact bounds_i64 (hwz (zs.getD i 0) (by rw [List.getD_eq_getElem?_getD, List.getElem?_eq_getElem hi]; exact List.getElem_mem _))
      · have : zs.getD i 0 = 0 := by rw [List.getD_eq_getElem?_getD, List.getElem?_eq_none (by omega)]; rfl
        rw [this]; decide
set_option maxRecDepth 100000 in
theorem rows_in {H : Type} {enc : TypeId × Value → H} {W : World} {a : Option Addr} {len cap : Nat} {d : DataW H} {p : List MemPlace} (h : DataW.Trod enc Tryd.prog W 0 (fun _ => true) true 23 (.slice a len cap) d p) :
    ∃ (rb rf : Nat → Int) (rm : Nat → Bool), RRow W a 3 len (rwF rb rf rm) ∧ (∀ i, -9223372036854775808 ≤ rb i ∧ rb i ≤ 9223372036854775807) ∧ (∀ i, 0 ≤ rf i ∧ rf i < 256) ∧ (len : Int) ≤ 9223372036854775807 ∧ (∀ b off, a = some ⟨b, off, none⟩ → 0 < len → b < W.heap.size) := by
  obtain ⟨fuel, hf⟩ := h
  rcases open_slice Tryd.underlying23 hf with ⟨hcs, _⟩ | ⟨x, l, c, m, nn, DD, Pl, hcs, _, hl, hm, hmm, _, hall⟩
  · simp [Value.cells] at hcs
    obtain ⟨rfl, rfl, rfl⟩ := hcs
    exact ⟨fun _ => 0, fun _ => 0, fun _ => false, .inl rfl, fun _ => ⟨(by decide : (-9223372036854775808 : Int) ≤ 0), (by decide : (0 : Int) ≤ 9223372036854775807)⟩, fun _ => ⟨Int.le_refl 0, (by decide : (0 : Int) < 256)⟩, by omega, fun b off e => by cases e⟩
  · simp [Value.cells] at hcs
    obtain ⟨rfl, rfl, rfl⟩ := hcs
    have hmax : maxLen = 9223372036854775807 := rfl
    have hlm : len ≤ m := by rw [hmm]; split <;> omega
    have hce : Tryd.prog.cellsOf 51 = 3 := by kernel_rfl
    rw [hce] at hall
    have key : ∀ i, i < len → ∃ (b e : Int) (g : Bool), W.cell? (x.add (i * 3)) = some (.int .i64 b) ∧ W.cell? (x.add (i * 3 + 1)) = some (.int .u8 e) ∧ W.cell? (x.add (i * 3 + 2)) = some (.bool g) ∧ (-9223372036854775808 ≤ b ∧ b ≤ 9223372036854775807) ∧ 0 ≤ e ∧ e < 256 := by
      intro i hi
      obtain ⟨cs', h1, h2⟩ := hall i (by omega)
      obtain ⟨_, hlen, hcell⟩ := World.cells?_some h1
      obtain ⟨xs, k, _, _, _, hxl, hfl⟩ := DataW.trod_struct Tryd.underlying51 h2
      match xs, hxl, cs', hlen with
      | [y0, y1, y2], _, [v0, v1, v2], _ =>
        have g0 := hfl 0 _ rfl
        have g1 := hfl 1 _ rfl
        have g2 := hfl 2 _ rfl
        have hci : Tryd.prog.cellsOf 3 = 1 := by kernel_rfl
        have hcu : Tryd.prog.cellsOf 5 = 1 := by kernel_rfl
        have hcb : Tryd.prog.cellsOf 4 = 1 := by kernel_rfl
        simp [hci, hcu, hcb] at g0 g1 g2
        obtain ⟨b, e0, _, wb⟩ := DataW.trod_int Tryd.underlying3 g0
        obtain ⟨e, e1, _, we⟩ := DataW.trod_int Tryd.underlying5 g1
        obtain ⟨g, e2, _⟩ := DataW.trod_bool Tryd.underlying4 g2
        simp at e0 e1 e2
        have bb := bounds_i64 wb
        have be := bounds_u8 we
        have c0 := hcell 0 (by omega)
        have c1 := hcell 1 (by omega)
        have c2 := hcell 2 (by omega)
        rw [add_add] at c0 c1 c2
        exact ⟨b, e, g, by simpa [e0] using c0, by simpa [e1] using c1, by simpa [e2] using c2, bb, by omega, by omega⟩
    refine ⟨fun i => if hi : i < len then (key i hi).choose else 0, fun i => if hi : i < len then (key i hi).choose_spec.choose else 0, fun i => if hi : i < len then (key i hi).choose_spec.choose_spec.choose else false, ?_, ?_, ?_, by omega, ?_⟩
    · by_cases h0 : len = 0
      · exact .inl h0
      · obtain ⟨b, off, spot⟩ := x
        have hc := (key 0 (by omega)).choose_spec.choose_spec.choose_spec.1
        have hspot : spot = none := by simpa [Addr.add] using World.cell?_spot hc
        subst hspot
        refine .inr ⟨b, off, rfl, fun i hi j v hv => ?_⟩
        have hk := (key i hi).choose_spec.choose_spec.choose_spec
        have hj3 : j < 3 := (List.getElem?_eq_some_iff.1 hv).1
        unfold rwF at hv
        simp only [hi, dif_pos] at hv
        rw [Nat.add_assoc, ← addr_add]
        obtain rfl | rfl | rfl : j = 0 ∨ j = 1 ∨ j = 2 := by omega
        · rw [← hv]; exact hk.1
        · rw [← hv]; exact hk.2.1
        · rw [← hv]; exact hk.2.2.1
    · intro i
      by_cases hi : i < len
      · simp only [hi, dif_pos]; exact (key i hi).choose_spec.choose_spec.choose_spec.2.2.2.1
      · simp only [hi, dif_neg, not_false_eq_true]; decide
    · intro i
      by_cases hi : i < len
      · simp only [hi, dif_pos]; exact (key i hi).choose_spec.choose_spec.choose_spec.2.2.2.2
      · simp only [hi, dif_neg, not_false_eq_true]; decide
    · intro b off e h0
      injection e with e
      subst e
      have hc := (key 0 h0).choose_spec.choose_spec.choose_spec.1
      exact World.block_lt_of_cell? W _ hc
set_option maxRecDepth 100000 in
theorem chs_in {H : Type} {enc : TypeId × Value → H} {W : World} {a : Option Addr} {len cap : Nat} {d : DataW H} {p : List MemPlace} (h : DataW.Trod enc Tryd.prog W 0 (fun _ => true) true 42 (.slice a len cap) d p) :
    ∃ (xb xt xo : Nat → Int), RRow W a 3 len (chF xb xt xo) ∧ (∀ i, -9223372036854775808 ≤ xb i ∧ xb i ≤ 9223372036854775807) ∧ (∀ i, -9223372036854775808 ≤ xt i ∧ xt i ≤ 9223372036854775807) ∧ (∀ i, 0 ≤ xo i ∧ xo i < 256) ∧ (len : Int) ≤ 9223372036854775807 ∧ (∀ b off, a = some ⟨b, off, none⟩ → 0 < len → b < W.heap.size) := by
  obtain ⟨fuel, hf⟩ := h
  rcases open_slice Tryd.underlying42 hf with ⟨hcs, _⟩ | ⟨x, l, c, m, nn, DD, Pl, hcs, _, hl, hm, hmm, _, hall⟩
  · simp [Value.cells] at hcs
    obtain ⟨rfl, rfl, rfl⟩ := hcs
    exact ⟨fun _ => 0, fun _ => 0, fun _ => 0, .inl rfl, fun _ => ⟨(by decide : (-9223372036854775808 : Int) ≤ 0), (by decide : (0 : Int) ≤ 9223372036854775807)⟩, fun _ => ⟨(by decide : (-9223372036854775808 : Int) ≤ 0), (by decide : (0 : Int) ≤ 9223372036854775807)⟩, fun _ => ⟨Int.le_refl 0, (by decide : (0 : Int) < 256)⟩, by omega, fun b off e => by cases e⟩
  · simp [Value.cells] at hcs
    obtain ⟨rfl, rfl, rfl⟩ := hcs
    have hmax : maxLen = 9223372036854775807 := rfl
    have hlm : len ≤ m := by rw [hmm]; split <;> omega
    have hce : Tryd.prog.cellsOf 54 = 3 := by kernel_rfl
    rw [hce] at hall
    have key : ∀ i, i < len → ∃ (b e g : Int), W.cell? (x.add (i * 3)) = some (.int .i64 b) ∧ W.cell? (x.add (i * 3 + 1)) = some (.int .i64 e) ∧ W.cell? (x.add (i * 3 + 2)) = some (.int .u8 g) ∧ (-9223372036854775808 ≤ b ∧ b ≤ 9223372036854775807) ∧ (-9223372036854775808 ≤ e ∧ e ≤ 9223372036854775807) ∧ 0 ≤ g ∧ g < 256 := by
      intro i hi
      obtain ⟨cs', h1, h2⟩ := hall i (by omega)
      obtain ⟨_, hlen, hcell⟩ := World.cells?_some h1
      obtain ⟨xs, k, _, _, _, hxl, hfl⟩ := DataW.trod_struct Tryd.underlying54 h2
      match xs, hxl, cs', hlen with
      | [y0, y1, y2], _, [v0, v1, v2], _ =>
        have g0 := hfl 0 _ rfl
        have g1 := hfl 1 _ rfl
        have g2 := hfl 2 _ rfl
        have hci : Tryd.prog.cellsOf 3 = 1 := by kernel_rfl
        have hcu : Tryd.prog.cellsOf 5 = 1 := by kernel_rfl
        simp [hci, hcu] at g0 g1 g2
        obtain ⟨b, e0, _, wb⟩ := DataW.trod_int Tryd.underlying3 g0
        obtain ⟨e, e1, _, we⟩ := DataW.trod_int Tryd.underlying3 g1
        obtain ⟨g, e2, _, wg⟩ := DataW.trod_int Tryd.underlying5 g2
        simp at e0 e1 e2
        have bb := bounds_i64 wb
        have be := bounds_i64 we
        have bg := bounds_u8 wg
        have c0 := hcell 0 (by omega)
        have c1 := hcell 1 (by omega)
        have c2 := hcell 2 (by omega)
        rw [add_add] at c0 c1 c2
        exact ⟨b, e, g, by simpa [e0] using c0, by simpa [e1] using c1, by simpa [e2] using c2, bb, be, by omega, by omega⟩
    refine ⟨fun i => if hi : i < len then (key i hi).choose else 0, fun i => if hi : i < len then (key i hi).choose_spec.choose else 0, fun i => if hi : i < len then (key i hi).choose_spec.choose_spec.choose else 0, ?_, ?_, ?_, ?_, by omega, ?_⟩
    · by_cases h0 : len = 0
      · exact .inl h0
      · obtain ⟨b, off, spot⟩ := x
        have hc := (key 0 (by omega)).choose_spec.choose_spec.choose_spec.1
        have hspot : spot = none := by simpa [Addr.add] using World.cell?_spot hc
        subst hspot
        refine .inr ⟨b, off, rfl, fun i hi j v hv => ?_⟩
        have hk := (key i hi).choose_spec.choose_spec.choose_spec
        have hj3 : j < 3 := (List.getElem?_eq_some_iff.1 hv).1
        unfold chF at hv
        simp only [hi, dif_pos] at hv
        rw [Nat.add_assoc, ← addr_add]
        obtain rfl | rfl | rfl : j = 0 ∨ j = 1 ∨ j = 2 := by omega
        · rw [← hv]; exact hk.1
        · rw [← hv]; exact hk.2.1
        · rw [← hv]; exact hk.2.2.1
    · intro i
      by_cases hi : i < len
      · simp only [hi, dif_pos]; exact (key i hi).choose_spec.choose_spec.choose_spec.2.2.2.1
      · simp only [hi, dif_neg, not_false_eq_true]; decide
    · intro i
      by_cases hi : i < len
      · simp only [hi, dif_pos]; exact (key i hi).choose_spec.choose_spec.choose_spec.2.2.2.2.1
      · simp only [hi, dif_neg, not_false_eq_true]; decide
    · intro i
      by_cases hi : i < len
      · simp only [hi, dif_pos]; exact (key i hi).choose_spec.choose_spec.choose_spec.2.2.2.2.2
      · simp only [hi, dif_neg, not_false_eq_true]; decide
    · intro b off e h0
      injection e with e
      subst e
      have hc := (key 0 h0).choose_spec.choose_spec.choose_spec.1
      exact World.block_lt_of_cell? W _ hc
end Go.Proofs.YthkalmdpbhjafaaDoor
