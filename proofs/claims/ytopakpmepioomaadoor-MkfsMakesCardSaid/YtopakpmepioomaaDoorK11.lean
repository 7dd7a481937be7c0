/- Texts of this claim, merged by a program (a claim may have 60 files): Open, Door. -/
import Derived.WalkKit
import Derived.ProofKit
import Derived.OpenShut
import Derived.ChangeOld
import Derived.Below
import Derived.Deep.MidRow
import Derived.Test.YtopakpmepioomaaDoorK01
import Derived.Test.YtopakpmepioomaaDoorK02
import Derived.Test.YtopakpmepioomaaDoorK03
import Derived.Test.YtopakpmepioomaaDoorK10
import Derived.Deep.Slices
import Derived.ChangeSlices
import Derived.LaidMore
import Derived.MakeChecks
import Derived.Lib.LaidTab
/- Arguments that are rows of integers (arrays, structs), opened: what a law's frame tells its walk. No program in sight. -/
namespace Go.Proofs.YtopakpmepioomaaDoor
open Go.RowKit
set_option linter.unusedVariables false
variable {P : Program} {W : World} {base : Nat} {t : TypeId} {v : Value}

theorem int_of_cell {u : TypeId} {k : IntKind} {c : Value} (hu : P.underlying u = some (.int k)) (h : Cell.okWide P W .any base u c) : ∃ n, c = .int k n ∧ k.has n := by
  unfold Cell.okWide at h
  rw [hu] at h
  unfold Cell.ok at h
  rw [hu] at h
  cases c <;> simp at h ⊢
  obtain ⟨rfl, h⟩ := h
  exact ⟨_, ⟨rfl, rfl⟩, h⟩

/-- a row of integers of the kinds ks -/
theorem open_row (ks : List IntKind) (h : Value.okWide P W .any base t v) (hrow : ((P.underlying t).map (·.isRow)) = some true)
    (hts : (P.cellTypes P.depth t).map (fun ts => ts.map P.underlying) = some (ks.map fun k => some (.int k))) (hn : P.cellsOf t = ks.length) :
    ∃ z : Nat → Int, v = .agg ((List.range ks.length).map fun i => .int (ks.getD i .u8) (z i)).toArray ∧ (∀ i, i < ks.length → (ks.getD i .u8).has (z i)) ∧ ∀ i, ks.length ≤ i → z i = 0 := by
  have hv : ∃ cs, v = .agg cs ∧ cs.size = P.cellsOf t ∧ Row.okWide P W .any base t cs := by
    unfold Value.okWide at h
    cases hu : P.underlying t with
    | none => rw [hu] at hrow; cases hrow
    | some d => rw [hu] at hrow h; cases d <;> simp [TypeDesc.isRow] at hrow <;> exact h
  obtain ⟨cs, rfl, hs, ts, hct, _, hc⟩ := hv
  rw [hct, Option.map_some, Option.some.injEq] at hts
  have hl : ts.length = ks.length := by simpa using congrArg List.length hts
  have hcell : ∀ i, i < ks.length → ∃ n, cs[i]? = some (.int (ks.getD i .u8) n) ∧ (ks.getD i .u8).has n := by
    intro i hi
    obtain ⟨u, hu, ho⟩ := hc i (cs[i]'(by omega)) (by simp)
    rw [Nat.mod_eq_of_lt (by omega)] at hu
    have : (ts.map P.underlying)[i]? = some (some (.int (ks.getD i .u8))) := by rw [hts]; simp [hi]
    rw [List.getElem?_map, hu, Option.map_some, Option.some.injEq] at this
    obtain ⟨n, he, hh⟩ := int_of_cell this ho
    exact ⟨n, by rw [← he]; simp, hh⟩
  refine ⟨fun i => if h : i < ks.length then (hcell i h).choose else 0, ?_, fun i hi => by simp only [hi, dif_pos]; exact (hcell i hi).choose_spec.2, fun i hi => dif_neg (by omega)⟩
  congr 1
  apply Array.ext_getElem?
  intro i
  by_cases hi : i < ks.length
  · rw [(hcell i hi).choose_spec.1]; simp [hi]
  · simp [hi]; omega

theorem kHas {k : IntKind} {n : Int} (h : k.has n) : k.min ≤ n ∧ n ≤ k.max := h

/-- an integer -/
theorem open_i {k : IntKind} (hu : P.underlying t = some (.int k)) (h : Value.okWide P W .any base t v) : ∃ n, v = .int k n ∧ k.min ≤ n ∧ n ≤ k.max := by
  unfold Value.okWide at h
  rw [hu] at h
  exact int_of_cell hu h
theorem open_s (hu : P.underlying t = some .string) (h : Value.okWide P W .any base t v) : ∃ s : ByteArray, v = .string s ∧ (s.size : Int) ≤ IntKind.i64.max := by
  unfold Value.okWide at h
  rw [hu] at h
  unfold Cell.okWide at h
  rw [hu] at h
  unfold Cell.ok at h
  rw [hu] at h
  cases v <;> simp at h ⊢
  exact h
/-- an array of bytes -/
theorem open_bytes (n : Nat) (h : Value.okWide P W .any base t v) (hrow : ((P.underlying t).map (·.isRow)) = some true)
    (hts : (P.cellTypes P.depth t).map (fun ts => ts.map P.underlying) = some ((List.replicate n IntKind.u8).map fun k => some (.int k))) (hn : P.cellsOf t = n) :
    ∃ z : Nat → Int, v = .agg (Ks .u8 n z).toArray ∧ ∀ i, 0 ≤ z i ∧ z i < 256 := by
  obtain ⟨z, rfl, hz, h0⟩ := open_row (List.replicate n IntKind.u8) h hrow hts (by simpa using hn)
  simp only [List.length_replicate] at hz h0 ⊢
  refine ⟨z, ?_, ?_⟩
  · unfold Ks
    congr 2
    apply List.map_congr_left
    intro i hi
    rw [List.mem_range] at hi
    simp [List.getD, hi]
  · intro i
    by_cases hi : i < n
    · have := kHas (hz i hi)
      simp [List.getD, hi, IntKind.min, IntKind.max, IntKind.signed, IntKind.bits] at this
      omega
    · rw [h0 i (by omega)]; omega
end Go.Proofs.YtopakpmepioomaaDoor

/- The frame of a tied law: the listed table; geometries, superblocks, descriptors that came in. -/
namespace Go.Proofs.YtopakpmepioomaaDoor
open Go.RowKit Go.ChangeShapes Go.WideShapes Go.ChangeAt Go.Deep
set_option linter.unusedVariables false

theorem tab_of_laid {W : World} (h : laidMetH Tryd.prog [("quern/crc.steps", Rows.laid_quern_crc_steps)] W) : Tab W := by
  rw [MakeChecks.laidMetH_plain _ _ _ (by kernel_rfl)] at h
  have hT := Lib.tabIs_of_head (zs := tabN.map fun (x : Nat) => (x : Int)) (k := .u32) (g := 0) (by kernel_rfl) (by kernel_rfl) Tryd.underlying154 Tryd.underlying40 (by kernel_rfl) (by kernel_rfl) h
  intro i hi
  have := hT.cell (g := 0) (by kernel_rfl) i (by simpa [tabN] using hi)
  rw [this]
  have key : ∀ i, i < 16 → (tabN.map fun (x : Nat) => (x : Int)).getD i 0 = ((tabN.getD i 0 : Nat) : Int) := by decide
  rw [key i hi]
theorem door_met (os : Os) (args : Array Value) : laidMetH Tryd.prog [("quern/crc.steps", Rows.laid_quern_crc_steps)] ((World.doorLaid Tryd.prog 14 os).forCall (fun _ _ => 0) ⟨#[], args, []⟩).memory :=
  laidMetH_of_parts3 (fuel := 8) (laidMet_of_run' 8 (by kernel_rfl) (by kernel_rfl)) (by kernel_rfl) (by kernel_rfl)

set_option maxRecDepth 100000 in
theorem open_geo {W : World} {base : Nat} {v : Value} (h : Value.okWide Tryd.prog W .any base 23 v) : ∃ G S I J : Int, v = gval G S I J ∧ ∀ x ∈ [G, S, I, J], -9223372036854775808 ≤ x ∧ x ≤ 9223372036854775807 := by
  obtain ⟨z, rfl, hz, _⟩ := open_row [.i64, .i64, .i64, .i64] h (by kernel_rfl) (by kernel_rfl) (by kernel_rfl)
  have k0 := kHas (hz 0 (by decide))
  have k1 := kHas (hz 1 (by decide))
  have k2 := kHas (hz 2 (by decide))
  have k3 := kHas (hz 3 (by decide))
  refine ⟨z 0, z 1, z 2, z 3, rfl, ?_⟩
  simp [List.getD, IntKind.min, IntKind.max, IntKind.signed, IntKind.bits] at k0 k1 k2 k3
  intro x hx
  simp only [List.mem_cons, List.not_mem_nil, or_false] at hx
  rcases hx with rfl | rfl | rfl | rfl <;> omega
set_option maxRecDepth 100000 in
theorem open_super {W : World} {base : Nat} {v : Value} (h : Value.okWide Tryd.prog W .any base 42 v) : ∃ G S I J O : Int, v = .agg #[.int .i64 G, .int .i64 S, .int .i64 I, .int .i64 J, .int .u32 O] ∧ (∀ x ∈ [G, S, I, J], -9223372036854775808 ≤ x ∧ x ≤ 9223372036854775807) ∧ 0 ≤ O ∧ O < 4294967296 := by
  obtain ⟨z, rfl, hz, _⟩ := open_row [.i64, .i64, .i64, .i64, .u32] h (by kernel_rfl) (by kernel_rfl) (by kernel_rfl)
  have k0 := kHas (hz 0 (by decide))
  have k1 := kHas (hz 1 (by decide))
  have k2 := kHas (hz 2 (by decide))
  have k3 := kHas (hz 3 (by decide))
  have k4 := kHas (hz 4 (by decide))
  refine ⟨z 0, z 1, z 2, z 3, z 4, rfl, ?_, ?_⟩
  · simp [List.getD, IntKind.min, IntKind.max, IntKind.signed, IntKind.bits] at k0 k1 k2 k3
    intro x hx
    simp only [List.mem_cons, List.not_mem_nil, or_false] at hx
    rcases hx with rfl | rfl | rfl | rfl <;> omega
  · simp [List.getD, IntKind.min, IntKind.max, IntKind.signed, IntKind.bits] at k4
    omega
set_option maxRecDepth 100000 in
theorem descs_in {H : Type} {enc : TypeId × Value → H} {W : World} {a : Option Addr} {len cap : Nat} {d : DataW H} {p : List MemPlace} (h : DataW.Trod enc Tryd.prog W 0 (fun _ => true) true 45 (.slice a len cap) d p) :
    ∃ (B I D : Nat → Int), RRow W a 3 len (df B I D) ∧ (len : Int) ≤ 9223372036854775807 ∧ len ≤ cap ∧ (cap : Int) ≤ 9223372036854775807 ∧ (a = none → len = 0 ∧ cap = 0) := by
  obtain ⟨fuel, hf⟩ := h
  rcases open_slice Tryd.underlying45 hf with ⟨hcs, _⟩ | ⟨x, l, c, m, nn, DD, Pl, hcs, _, hl, hm, hmm, _, hall⟩
  · simp [Value.cells] at hcs
    obtain ⟨rfl, rfl, rfl⟩ := hcs
    exact ⟨fun _ => 0, fun _ => 0, fun _ => 0, .inl rfl, by omega, by omega, by omega, fun _ => ⟨rfl, rfl⟩⟩
  · simp [Value.cells] at hcs
    obtain ⟨rfl, rfl, rfl⟩ := hcs
    have hmax : maxLen = 9223372036854775807 := rfl
    have hlm : len ≤ m := by rw [hmm]; split <;> omega
    have hce : Tryd.prog.cellsOf 50 = 3 := by kernel_rfl
    rw [hce] at hall
    have hS : Tryd.prog.underlying 50 = some (.struct (Tryd.prog.fieldsOf 50)) := by kernel_rfl
    have key : ∀ i, i < len → ∃ b e g : Int, W.cell? (x.add (i * 3)) = some (.int .i64 b) ∧ W.cell? (x.add (i * 3 + 1)) = some (.int .i64 e) ∧ W.cell? (x.add (i * 3 + 2)) = some (.int .i64 g) := by
      intro i hi
      obtain ⟨cs', h1, h2⟩ := hall i (by omega)
      obtain ⟨_, hlen, hcell⟩ := World.cells?_some h1
      obtain ⟨xs, k, _, _, _, hxl, hfl⟩ := DataW.trod_struct Tryd.underlying50 h2
      match xs, hxl, cs', hlen with
      | [y0, y1, y2], _, [v0, v1, v2], _ =>
        have g0 := hfl 0 _ rfl
        have g1 := hfl 1 _ rfl
        have g2 := hfl 2 _ rfl
        have hci : Tryd.prog.cellsOf 3 = 1 := by kernel_rfl
        simp [hci] at g0 g1 g2
        obtain ⟨b, e0, _, _⟩ := DataW.trod_int Tryd.underlying3 g0
        obtain ⟨e, e1, _, _⟩ := DataW.trod_int Tryd.underlying3 g1
        obtain ⟨g, e2, _, _⟩ := DataW.trod_int Tryd.underlying3 g2
        simp at e0 e1 e2
        have c0 := hcell 0 (by omega)
        have c1 := hcell 1 (by omega)
        have c2 := hcell 2 (by omega)
        rw [add_add] at c0 c1 c2
        exact ⟨b, e, g, by simpa [e0] using c0, by simpa [e1] using c1, by simpa [e2] using c2⟩
    refine ⟨fun i => if hi : i < len then (key i hi).choose else 0, fun i => if hi : i < len then (key i hi).choose_spec.choose else 0, fun i => if hi : i < len then (key i hi).choose_spec.choose_spec.choose else 0, ?_, by omega, by omega, by omega, fun h => by cases h⟩
    by_cases h0 : len = 0
    · exact .inl h0
    · obtain ⟨b, off, spot⟩ := x
      have hc := (key 0 (by omega)).choose_spec.choose_spec.choose_spec.1
      have hspot : spot = none := by simpa [Addr.add] using World.cell?_spot hc
      subst hspot
      refine .inr ⟨b, off, rfl, fun i hi j v hv => ?_⟩
      have hk := (key i hi).choose_spec.choose_spec.choose_spec
      have hj3 : j < 3 := (List.getElem?_eq_some_iff.1 hv).1
      unfold df at hv
      simp only [hi, dif_pos] at hv
      rw [Nat.add_assoc, ← addr_add]
      obtain rfl | rfl | rfl : j = 0 ∨ j = 1 ∨ j = 2 := by omega
      · rw [← hv]; exact hk.1
      · rw [← hv]; exact hk.2.1
      · rw [← hv]; exact hk.2.2
end Go.Proofs.YtopakpmepioomaaDoor
