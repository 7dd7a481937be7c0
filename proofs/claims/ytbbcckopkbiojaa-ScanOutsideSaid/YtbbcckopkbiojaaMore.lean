/- More plain words on rows of bytes. -/
import Derived.Test.YtbbcckopkbiojaaOwn
namespace Go.Proofs.Ytbbcckopkbiojaa
open Go.RowKit
theorem seg_at {w : World} {e : TypeId} {n b : Nat} {y : Nat → Int} {vs : List Value} (hb : b = w.heap.size) (h : vs = Bs n y) : Seg (w.alloc (.cells vs.toArray e)) b 0 n y := by
  subst hb; exact seg_new w e n y vs h
theorem soft_at {w : World} {e : TypeId} {n b : Nat} {vs : Array Value} (hb : b = w.heap.size) : Soft (w.alloc (.cells vs e)) b 0 n := by
  subst hb; exact soft_new w e n vs
theorem row_at {w : World} {e : TypeId} {n b : Nat} {y : Nat → Int} {vs : List Value} (hb : b = w.heap.size) (h : vs = Bs n y) : Row (w.alloc (.cells vs.toArray e)) (some ⟨b, 0, none⟩) n y :=
  .inr ⟨_, _, rfl, seg_at hb h⟩
theorem Seg.alloc {w : World} {b off n : Nat} {z : Nat → Int} (h : Seg w b off n z) (o : Obj) : Seg (w.alloc o) b off n z := by
  intro i hi
  have h1 := h i hi
  have := World.block_lt_of_cell? w _ h1
  rw [World.cell?_of_block (w := w) (Below.heap_alloc w o b this)]; exact h1
theorem Soft.alloc {w : World} {b off n : Nat} (h : Soft w b off n) (hb : b < w.heap.size) (o : Obj) : Soft (w.alloc o) b off n := by
  intro i hi
  rw [World.frozen?_of_block (w := w) (Below.heap_alloc w o b hb)]; exact h i hi
theorem Row.alloc {w : World} {a : Option Addr} {n : Nat} {z : Nat → Int} (h : Row w a n z) (o : Obj) : Row (w.alloc o) a n z := by
  rcases h with h | ⟨b, off, rfl, hs⟩
  · exact .inl h
  · exact .inr ⟨b, off, rfl, hs.alloc o⟩
theorem Seg.lt {w : World} {b off n : Nat} {z : Nat → Int} (h : Seg w b off n z) (h0 : 0 < n) : b < w.heap.size := World.block_lt_of_cell? w _ (h 0 h0)
theorem Seg.below {w w' : World} {b off n : Nat} {z : Nat → Int} (h : Seg w b off n z) {B : Nat} (hb : Below B w w') (hB : b < B) : Seg w' b off n z :=
  fun i hi => (hb.cell (p := ⟨b, off + i, none⟩) hB).trans (h i hi)
theorem Soft.below {w w' : World} {b off n : Nat} (h : Soft w b off n) {B : Nat} (hb : Below B w w') (hB : b < B) : Soft w' b off n :=
  fun i hi => (hb.frozen (p := ⟨b, off + i, none⟩) hB).trans (h i hi)

theorem Row.take {w : World} {a : Option Addr} {n : Nat} {z : Nat → Int} (h : Row w a n z) (m : Nat) (hm : m ≤ n) : Row w a m z := by
  rcases h with h | ⟨b, off, rfl, hs⟩
  · exact .inl (by omega)
  · exact .inr ⟨b, off, rfl, hs.take m hm⟩
theorem byteOf_sum2 (v : Int) (h0 : 0 ≤ v) (h1 : v < 65536) : byteOf v 0 + 256 * byteOf v 1 = v := by
  rw [byteOf_succ, byteOf_zero, byteOf_zero]; omega
theorem byteOf_sum4 (v : Int) (h0 : 0 ≤ v) (h1 : v < 4294967296) : byteOf v 0 + 256 * byteOf v 1 + 65536 * byteOf v 2 + 16777216 * byteOf v 3 = v := by
  rw [byteOf_succ v 2, byteOf_succ (v / 256) 1, byteOf_succ v 1, byteOf_succ (v / 256) 0, byteOf_succ (v / 256 / 256) 0, byteOf_succ v 0]
  simp only [byteOf_zero]; omega
/-- what was put is got -/
theorem g32_over (z : Nat → Int) (k : Nat) (v : Int) (h0 : 0 ≤ v) (h1 : v < 4294967296) : g32 (over z k 4 (byteOf v)) k = v := by
  unfold g32 over
  rw [if_pos (by omega), if_pos (by omega), if_pos (by omega), if_pos (by omega), Nat.sub_self, show k + 1 - k = 1 by omega, show k + 2 - k = 2 by omega, show k + 3 - k = 3 by omega]
  exact byteOf_sum4 v h0 h1
theorem g16_over (z : Nat → Int) (k : Nat) (v : Int) (h0 : 0 ≤ v) (h1 : v < 65536) : g16 (over z k 2 (byteOf v)) k = v := by
  unfold g16 over
  rw [if_pos (by omega), if_pos (by omega), Nat.sub_self, show k + 1 - k = 1 by omega]
  exact byteOf_sum2 v h0 h1
/-- a number's halves -/
theorem g32_halves (z : Nat → Int) (k : Nat) : g32 z k = g16 z k + 65536 * g16 z (k + 2) := by unfold g32 g16; rw [show k + 2 + 1 = k + 3 from rfl]; omega
/-- elsewhere nothing is changed -/
theorem over_out (z : Nat → Int) (k n i : Nat) (f : Nat → Int) (h : i < k ∨ k + n ≤ i) : over z k n f i = z i := by unfold over; rw [if_neg (by omega)]
theorem over_in (z : Nat → Int) (k n i : Nat) (f : Nat → Int) (h : k ≤ i ∧ i < k + n) : over z k n f i = f (i - k) := by unfold over; rw [if_pos h]
theorem g32_out (z : Nat → Int) (k n i : Nat) (f : Nat → Int) (h : i + 4 ≤ k ∨ k + n ≤ i) : g32 (over z k n f) i = g32 z i := by
  unfold g32
  rw [over_out z k n i f (by omega), over_out z k n (i + 1) f (by omega), over_out z k n (i + 2) f (by omega), over_out z k n (i + 3) f (by omega)]
theorem g16_out (z : Nat → Int) (k n i : Nat) (f : Nat → Int) (h : i + 2 ≤ k ∨ k + n ≤ i) : g16 (over z k n f) i = g16 z i := by
  unfold g16
  rw [over_out z k n i f (by omega), over_out z k n (i + 1) f (by omega)]
theorem byteOf_g32 (z : Nat → Int) (hz : Byt z) (k i : Nat) (hi : i < 4) : byteOf (g32 z k) i = z (k + i) := by
  have h0 := hz k; have h1 := hz (k + 1); have h2 := hz (k + 2); have h3 := hz (k + 3)
  obtain rfl | rfl | rfl | rfl : i = 0 ∨ i = 1 ∨ i = 2 ∨ i = 3 := by omega
  · rw [byteOf_zero, Nat.add_zero]; unfold g32; omega
  · rw [byteOf_succ, byteOf_zero]; unfold g32; omega
  · rw [byteOf_succ, byteOf_succ, byteOf_zero]; unfold g32; omega
  · rw [byteOf_succ, byteOf_succ, byteOf_succ, byteOf_zero]; unfold g32; omega
theorem byteOf_g16 (z : Nat → Int) (hz : Byt z) (k i : Nat) (hi : i < 2) : byteOf (g16 z k) i = z (k + i) := by
  have h0 := hz k; have h1 := hz (k + 1)
  obtain rfl | rfl : i = 0 ∨ i = 1 := by omega
  · rw [byteOf_zero, Nat.add_zero]; unfold g16; omega
  · rw [byteOf_succ, byteOf_zero]; unfold g16; omega
end Go.Proofs.Ytbbcckopkbiojaa
