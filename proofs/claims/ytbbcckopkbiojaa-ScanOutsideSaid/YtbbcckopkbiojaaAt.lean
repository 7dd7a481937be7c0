/- A struct in a heap block: read, stored. -/
import Derived.Test.YtbbcckopkbiojaaBlkWp
namespace Go.Proofs.Ytbbcckopkbiojaa
open Go.RowKit
set_option linter.unusedVariables false

/-- heap block g is this row of cells -/
def At (w : World) (g : Nat) (T : TypeId) (cs : Array Value) : Prop := w.heap[g]? = some (.cells cs T (0, 0))
theorem At.lt {w : World} {g : Nat} {T : TypeId} {cs : Array Value} (h : At w g T cs) : g < w.heap.size := (Array.getElem?_eq_some_iff.1 h).1
theorem At.new (w : World) (T : TypeId) (cs : Array Value) : At (w.alloc (.cells cs T)) w.heap.size T cs := heap_alloc_new w _
theorem At.alloc {w : World} {g : Nat} {T : TypeId} {cs : Array Value} (h : At w g T cs) (o : Obj) : At (w.alloc o) g T cs := heap_alloc_keep h o
theorem At.below {w w' : World} {g : Nat} {T : TypeId} {cs : Array Value} (h : At w g T cs) {B : Nat} (hb : Below B w w') (hg : g < B) : At w' g T cs := (hb.block g hg).trans h
theorem At.only {w w' : World} {g : Nat} {T : TypeId} {cs : Array Value} (h : At w g T cs) {b : Nat} (hb : Only b w w') (hg : g ≠ b) : At w' g T cs := (hb.block g hg).trans h
theorem At.cell {w : World} {g : Nat} {T : TypeId} {cs : Array Value} (h : At w g T cs) {i : Nat} {v : Value} (hi : cs[i]? = some v) : w.cell? ⟨g, i, none⟩ = some v := cell_of_heap h hi
theorem At.range {w : World} {g : Nat} {T : TypeId} {cs : Array Value} (h : At w g T cs) : w.rangeAt g 0 cs.toList := by
  intro j v hj
  rw [Nat.zero_add]
  exact cell_of_heap h (by simpa using hj)
/-- a struct stored whole -/
theorem wp_storeAt {P : Program} {w : World} {ops : Array Oper} {rest : List Oper} {o : Oper} {a : Act} {Q : Exit → Act → World → Prop} (hgd : o.guard = none) (T : TypeId) (p q : Operand) (ho : o.op = .store T p q)
    (g : Nat) (cs old : Array Value) (hx : a.eval p = .pointer (some ⟨g, 0, none⟩)) (hy : a.eval q = .agg cs) (hI : At w g T old) (hi : (P.info? T).map (·.size) = some cs.size) (hs : old.size = cs.size) (h1 : cs.all (·.oneCell') = true)
    (h : ∀ w', At w' g T cs → Only g w w' → wpList P ops Q rest (a.put o.dst undef) w') : wpList P ops Q (o :: rest) a w :=
  wpList_store_row hgd T p q ho g cs hx hy T _ hI hi hs h1 (h _ (setRow_heap w g _ cs _ _ hI) (only_setRow w g _ hI hs.symm))
theorem wp_loadAtG {P : Program} {w : World} {ops : Array Oper} {rest : List Oper} {o : Oper} {a : Act} {Q : Exit → Act → World → Prop} (hw : Region.wanted o (yielded ops a.tmps) = true) (T : TypeId) (p : Operand) (ho : o.op = .load T p)
    (g : Nat) (cs : Array Value) (d : TypeDesc) (hx : a.eval p = .pointer (some ⟨g, 0, none⟩)) (hI : At w g T cs) (hu : P.underlying T = some d) (hd : (match d with | .struct _ | .array _ _ => true | _ => false) = true) (hi : (P.info? T).map (·.size) = some cs.size)
    (h : wpList P ops Q rest (a.put o.dst (.agg cs)) w) : wpList P ops Q (o :: rest) a w :=
  BigFrame.wpList_want hw fun _ hK => wp_load_row T p ho g hx T cs (0, 0) d hI hu hd hi (hK _ _ h)
end Go.Proofs.Ytbbcckopkbiojaa
