/- Whole blocks loaded and stored, as laws for the walk, in this program's own numbers. -/
import Derived.Test.YtbbcckopkbiojaaBlk
import Derived.Test.YtbbcckopkbiojaaSliceA
import Derived.Laws.Tables
import Derived.Laws.CopyOwn
import Derived.Deep.MidRow
namespace Go.Proofs.Ytbbcckopkbiojaa
open Go.RowKit
set_option linter.unusedVariables false
abbrev bval (z : Nat → Int) : Value := .agg (Ks .u8 256 z).toArray
theorem Blk.range {w : World} {g : Nat} {T : TypeId} {n : Nat} {z : Nat → Int} (h : Blk w g T n z) : w.rangeAt g 0 (Ks .u8 n z) := by
  intro j v hj
  rw [Nat.zero_add]
  exact cell_of_heap h (by simpa using hj)
theorem rangeAt_below {w w' : World} {b o : Nat} {cs : List Value} (h : w.rangeAt b o cs) {B : Nat} (hb : Below B w w') (hB : b < B) : w'.rangeAt b o cs := fun j v hv => (hb.cell (p := ⟨b, o + j, none⟩) hB).trans (h j v hv)
theorem Blk.setRow {w : World} {g : Nat} {T : TypeId} {n : Nat} {z : Nat → Int} (h : Blk w g T n z) (y : Nat → Int) : Blk (w.setRow g (Ks .u8 n y).toArray) g T n y := setRow_heap w g _ _ T (0, 0) h
theorem only_setRow (w : World) (g : Nat) (cs : Array Value) {old : Array Value} {t : TypeId} (h : w.heap[g]? = some (.cells old t (0, 0))) (hs : cs.size = old.size) : Only g w (w.setRow g cs) := by
  refine ⟨rfl, rfl, rfl, size_setRow _ _ _, fun k hk => setRow_other _ _ _ _ hk, fun a => ?_, fun c e fr hc => ?_⟩
  · by_cases ha : a.block = g
    · unfold World.frozen?
      rw [ha, h, setRow_heap w g _ cs t (0, 0) h]
    · exact World.frozen?_of_block (w := w) (setRow_other _ _ _ _ ha)
  · rw [h] at hc
    injection hc with hc
    injection hc with h1 h2 h3
    subst h1 h2 h3
    exact ⟨cs, hs, setRow_heap w g _ cs _ _ h⟩
theorem results_row_tmp {P : Program} {fn : Func} {p u : Tmp} {ty : TypeId} (h : fn.results = #[.cell p ty, .tmp u]) (tmps : Array Value) (w : World) (g : Nat) (t : TypeId) (cs : Array Value) (fr : Nat × Nat) (d : TypeDesc)
    (hp : tmps.getD p undef = .pointer (some ⟨g, 0, none⟩)) (hg : w.heap[g]? = some (.cells cs t fr))
    (hu : P.underlying ty = some d) (hd : (match d with | .struct _ | .array _ _ => true | _ => false) = true) (hi : (P.info? ty).map (·.size) = some cs.size) :
    (results fn tmps).run P w = .ok (.tuple #[.agg cs, tmps.getD u undef]) w := by
  have hp' : tmps[p]?.getD undef = .pointer (some ⟨g, 0, none⟩) := by simpa using hp
  simp [results, h, hp', asAddr, run_loadVar_row w g t ty cs fr d hg hu hd hi]

end Go.Proofs.Ytbbcckopkbiojaa
