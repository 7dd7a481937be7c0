/- An inode read off bytes; an inode in memory, field by field. -/
import Derived.Test.YtlgjpjccjklnnaaInoPutY
import Derived.Test.YtlgjpjccjklnnaaBlkWp
import Derived.Test.YtlgjpjccjklnnaaTell
namespace Go.Proofs.Ytlgjpjccjklnnaa
open Go.RowKit Go.Shelf
set_option linter.unusedVariables false

def Ino.nil : Ino := ⟨0, 0, 0, 0, fun _ => 0, 0⟩
/-- the inode that the bytes from i on say -/
def inoOf (z : Nat → Int) (i : Nat) : Ino := ⟨z i, g16 z (i + 2), g32 z (i + 4), g32 z (i + 8), fun k => g32 z (i + 12 + 4 * k), g32 z (i + 56)⟩
/-- .. its first k pointers alone, and no next -/
def inoAt' (z : Nat → Int) (i k : Nat) : Ino := ⟨z i, g16 z (i + 2), g32 z (i + 4), g32 z (i + 8), fun j => if j < k then g32 z (i + 12 + 4 * j) else 0, 0⟩
def getOkB (z : Nat → Int) (i : Nat) : Bool := z (i + 1) == 0 && (allZ (fun k => z (i + 60 + k)) 4 && decide (inoOf z i).May)
def getErr (z : Nat → Int) (a : Int) : Int := if placeB a then (if getOkB z a.toNat then 0 else 70) else 2
def getIno (z : Nat → Int) (a : Int) : Ino := if placeB a then (if getOkB z a.toNat then inoOf z a.toNat else .nil) else .nil

theorem inoOf_ok {z : Nat → Int} (hz : Byt z) (i : Nat) : (inoOf z i).Ok := by
  have h2 := g16_bd hz (i + 2)
  have h4 := g32_bd hz (i + 4)
  have h8 := g32_bd hz (i + 8)
  have h56 := g32_bd hz (i + 56)
  have h0 := hz i
  refine ⟨by simp only [inoOf]; omega, by simp only [inoOf]; omega, by simp only [inoOf]; omega, by simp only [inoOf]; omega, fun k => by have := g32_bd hz (i + 12 + 4 * k); simp only [inoOf]; omega, by simp only [inoOf]; omega⟩
theorem nil_ok : Ino.nil.Ok := by
  refine ⟨by simp [Ino.nil], by simp [Ino.nil], by simp [Ino.nil], by simp [Ino.nil], fun k => by simp [Ino.nil], by simp [Ino.nil]⟩
theorem getIno_ok {z : Nat → Int} (hz : Byt z) (a : Int) : (getIno z a).Ok := by
  unfold getIno
  split
  · split
    · exact inoOf_ok hz _
    · exact nil_ok
  · exact nil_ok
theorem arr_of (z : Nat → Int) (i : Nat) : ({ inoAt' z i 11 with next := g32 z (i + 56) } : Ino).arr = (inoOf z i).arr := rfl

theorem heap_setCell_at {w : World} {g : Nat} {cs : Array Value} {T : TypeId} {fr : Nat × Nat} (h : w.heap[g]? = some (.cells cs T fr)) (j : Nat) (v : Value) : (w.setCell ⟨g, j, none⟩ v).heap[g]? = some (.cells (cs.setIfInBounds j v) T fr) := by
  have hlt := (Array.getElem?_eq_some_iff.1 h).1
  have hv := (Array.getElem?_eq_some_iff.1 h).2
  rw [Array.getElem?_eq_getElem (by simpa [World.setCell] using hlt)]
  simp only [World.setCell, Array.getElem_modify, hv, if_true]
  rfl
theorem InoAt.set {w : World} {g : Nat} {T : TypeId} {x y : Ino} (h : InoAt w g T x) (j : Nat) (v : Value) (hy : x.arr.setIfInBounds j v = y.arr) : InoAt (w.setCell ⟨g, j, none⟩ v) g T y := by
  have := heap_setCell_at h j v
  rw [hy] at this
  exact this
theorem arr_ptr (z : Nat → Int) (i k : Nat) (hk : k < 11) : (inoAt' z i k).arr.setIfInBounds (4 + k) (.int .u32 (g32 z (i + 12 + 4 * k))) = (inoAt' z i (k + 1)).arr := by
  obtain rfl | rfl | rfl | rfl | rfl | rfl | rfl | rfl | rfl | rfl | rfl : k = 0 ∨ k = 1 ∨ k = 2 ∨ k = 3 ∨ k = 4 ∨ k = 5 ∨ k = 6 ∨ k = 7 ∨ k = 8 ∨ k = 9 ∨ k = 10 := by omega
  all_goals rfl
theorem InoAt.new (w : World) (x : Ino) : InoAt (w.alloc (.cells x.arr 27)) w.heap.size 27 x := heap_alloc_new w _
theorem InoAt.alloc {w : World} {g : Nat} {T : TypeId} {x : Ino} (h : InoAt w g T x) (o : Obj) : InoAt (w.alloc o) g T x := heap_alloc_keep h o
theorem arr_one (x : Ino) : x.arr.all (·.oneCell') = true := by simp [Ino.arr, Value.oneCell']
theorem info_ino (x : Ino) : (Try.prog.info? 27).map (·.size) = some x.arr.size := by kernel_rfl
theorem wp_loadIno {w : World} {ops : Array Oper} {rest : List Oper} {o : Oper} {a : Act} {Q : Exit → Act → World → Prop} (hgd : o.guard = none) (p : Operand) (ho : o.op = .load 27 p)
    (g : Nat) (x : Ino) (hx : a.eval p = .pointer (some ⟨g, 0, none⟩)) (hI : InoAt w g 27 x)
    (h : wpList Try.prog ops Q rest (a.put o.dst x.val) w) : wpList Try.prog ops Q (o :: rest) a w :=
  wpList_load_row hgd 27 p ho g hx 27 x.arr (0, 0) _ hI Try.underlying27 rfl (info_ino x) h
theorem wp_storeIno {w : World} {ops : Array Oper} {rest : List Oper} {o : Oper} {a : Act} {Q : Exit → Act → World → Prop} (hgd : o.guard = none) (p q : Operand) (ho : o.op = .store 27 p q)
    (g : Nat) (x old : Ino) (hx : a.eval p = .pointer (some ⟨g, 0, none⟩)) (hy : a.eval q = x.val) (hI : InoAt w g 27 old)
    (h : ∀ w', InoAt w' g 27 x → Only g w w' → wpList Try.prog ops Q rest (a.put o.dst undef) w') : wpList Try.prog ops Q (o :: rest) a w :=
  wpList_store_row hgd 27 p q ho g x.arr hx hy 27 _ hI (info_ino x) rfl (arr_one x) (h _ (setRow_heap w g _ x.arr _ _ hI) (only_setRow w g _ hI rfl))
/-- .. of an operation that is guarded, and wanted -/
theorem wp_loadInoG {w : World} {ops : Array Oper} {rest : List Oper} {o : Oper} {a : Act} {Q : Exit → Act → World → Prop} (hw : Region.wanted o (yielded ops a.tmps) = true) (p : Operand) (ho : o.op = .load 27 p)
    (g : Nat) (x : Ino) (hx : a.eval p = .pointer (some ⟨g, 0, none⟩)) (hI : InoAt w g 27 x)
    (h : wpList Try.prog ops Q rest (a.put o.dst x.val) w) : wpList Try.prog ops Q (o :: rest) a w :=
  BigFrame.wpList_want hw fun _ hK => wp_load_row 27 p ho g hx 27 x.arr (0, 0) _ hI Try.underlying27 rfl (info_ino x) (hK _ _ h)
theorem zero_ino (W : World) : (zeroValue 27).run Try.prog W = .ok (.agg Ino.nil.arr) W := by kernel_rfl
theorem results_ino {fn : Func} {p u : Tmp} (h : fn.results = #[.cell p 27, .tmp u]) (tmps : Array Value) (w : World) (g : Nat) (x : Ino)
    (hp : tmps.getD p undef = .pointer (some ⟨g, 0, none⟩)) (hg : InoAt w g 27 x) : (results fn tmps).run Try.prog w = .ok (.tuple #[x.val, tmps.getD u undef]) w :=
  results_row_tmp h tmps w g _ x.arr (0, 0) _ hp hg Try.underlying27 rfl (info_ino x)
end Go.Proofs.Ytlgjpjccjklnnaa
