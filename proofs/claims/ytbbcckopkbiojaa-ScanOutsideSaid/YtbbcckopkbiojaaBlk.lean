/- A block of bytes that fills a heap block: read, written, loaded whole. No program in sight. -/
import Derived.Test.YtbbcckopkbiojaaEq
import Derived.Test.YtbbcckopkbiojaaMore
namespace Go.Proofs.Ytbbcckopkbiojaa
open Go.RowKit
set_option linter.unusedVariables false
/-- heap block g is n bytes z -/
def Blk (w : World) (g : Nat) (T : TypeId) (n : Nat) (z : Nat → Int) : Prop := w.heap[g]? = some (.cells (Ks .u8 n z).toArray T (0, 0))
theorem cell_of_heap {w : World} {g : Nat} {cs : Array Value} {t : TypeId} {fr : Nat × Nat} (h : w.heap[g]? = some (.cells cs t fr)) {i : Nat} {v : Value} (hi : cs[i]? = some v) : w.cell? ⟨g, i, none⟩ = some v := by
  simp only [World.cell?, h]; simpa using hi
theorem soft_of_heap {w : World} {g : Nat} {cs : Array Value} {t : TypeId} (h : w.heap[g]? = some (.cells cs t (0, 0))) (i : Nat) : w.frozen? ⟨g, i, none⟩ = false := by
  simp only [World.frozen?, h]; simp
theorem Blk.lt {w : World} {g : Nat} {T : TypeId} {n : Nat} {z : Nat → Int} (h : Blk w g T n z) : g < w.heap.size := (Array.getElem?_eq_some_iff.1 h).1
theorem Blk.seg {w : World} {g : Nat} {T : TypeId} {n : Nat} {z : Nat → Int} (h : Blk w g T n z) : Seg w g 0 n z := fun i hi =>
  cell_of_heap h (by rw [Nat.zero_add]; simpa using Ks_get .u8 n z i hi)
theorem Blk.soft {w : World} {g : Nat} {T : TypeId} {n : Nat} {z : Nat → Int} (h : Blk w g T n z) (off m : Nat) : Soft w g off m := fun i _ => soft_of_heap h _
theorem Blk.new (w : World) (T : TypeId) (n : Nat) (z : Nat → Int) : Blk (w.alloc (.cells (Ks .u8 n z).toArray T)) w.heap.size T n z := heap_alloc_new w _
theorem Blk.drewN {w : World} {g : Nat} {T : TypeId} {n : Nat} {z : Nat → Int} (h : Blk w g T n z) (m : Nat) : Blk (w.drewN m) g T n z := h
theorem Blk.congr {w : World} {g : Nat} {T : TypeId} {n : Nat} {z y : Nat → Int} (h : Blk w g T n z) (e : ∀ i, i < n → z i = y i) : Blk w g T n y := by
  unfold Blk
  have : Ks .u8 n y = Ks .u8 n z := by unfold Ks; apply List.map_congr_left; intro i hi; rw [e i (by simpa using hi)]
  rw [this]; exact h
/-- a block whose cells are known -/
theorem Blk.of_cells {w : World} {g : Nat} {T : TypeId} {n : Nat} {z : Nat → Int} {c : Array Value} (h : w.heap[g]? = some (.cells c T (0, 0))) (hc : c.size = n) (hs : Seg w g 0 n z) : Blk w g T n z := by
  unfold Blk
  rw [h]
  congr 2
  apply Array.ext'
  apply List.ext_getElem?
  intro i
  by_cases hi : i < n
  · have := hs i hi
    simp only [World.cell?, h, Nat.zero_add] at this
    have h2 := Ks_get .u8 n z i hi
    simp at this ⊢
    rw [this, ← h2]
  · rw [List.getElem?_eq_none (by simp; omega), List.getElem?_eq_none (by simp [Ks_length]; omega)]
theorem Blk.puts {w w' : World} {g : Nat} {T : TypeId} {n lo m : Nat} {z f : Nat → Int} (h : Blk w g T n z) (hp : Puts g lo m f w w') : Blk w' g T n (over z lo m f) := by
  obtain ⟨c', hc, hh⟩ := hp.only.shape _ _ _ h
  exact Blk.of_cells hh (by rw [hc]; simp [Ks_length]) (hp.seg h.seg (by omega))
theorem Blk.setCell {w : World} {g : Nat} {T : TypeId} {n : Nat} {z : Nat → Int} (h : Blk w g T n z) (i : Nat) (v : Int) (hi : i < n) : Blk (w.setCell ⟨g, i, none⟩ (.int .u8 v)) g T n (over z i 1 (fun _ => v)) := by
  have hp : Puts g i 1 (fun _ => v) w (w.setCell ⟨g, i + 0, none⟩ (.int .u8 v)) := (Puts.nil g i (fun _ => v) w).snoc (u := .int .u8 (z i)) (by have := h.seg i hi; simpa using this) rfl
  exact h.puts hp
theorem Blk.below {w w' : World} {g : Nat} {T : TypeId} {n : Nat} {z : Nat → Int} (h : Blk w g T n z) {B : Nat} (hb : Below B w w') (hg : g < B) : Blk w' g T n z := (hb.block g hg).trans h
theorem Blk.only {w w' : World} {g : Nat} {T : TypeId} {n : Nat} {z : Nat → Int} (h : Blk w g T n z) {b : Nat} (hb : Only b w w') (hg : g ≠ b) : Blk w' g T n z := (hb.block g hg).trans h
theorem Blk.alloc {w : World} {g : Nat} {T : TypeId} {n : Nat} {z : Nat → Int} (h : Blk w g T n z) (o : Obj) : Blk (w.alloc o) g T n z := (Below.heap_alloc w o g h.lt).trans h
theorem heap_alloc_keep {w : World} {g : Nat} {x : Obj} (h : w.heap[g]? = some x) (o : Obj) : (w.alloc o).heap[g]? = some x := (Below.heap_alloc w o g (Array.getElem?_eq_some_iff.1 h).1).trans h
theorem Ks_size (k : IntKind) (n : Nat) (z : Nat → Int) : (Ks k n z).toArray.size = n := by simp [Ks]
theorem Ks_one (k : IntKind) (n : Nat) (z : Nat → Int) : (Ks k n z).toArray.all (·.oneCell') = true := by
  rw [Array.all_eq_true]
  intro i hi
  simp [Ks]
  rfl
theorem Ks_congr {k : IntKind} {n : Nat} {z y : Nat → Int} (e : ∀ i, i < n → z i = y i) : Ks k n z = Ks k n y := by
  unfold Ks; apply List.map_congr_left; intro i hi; rw [e i (by simpa using hi)]
/-- two blocks that are the same -/
theorem eqB_refl (z : Nat → Int) (n : Nat) : eqB z z n = true := (eqB_iff z z n).2 fun _ _ => rfl
end Go.Proofs.Ytbbcckopkbiojaa
