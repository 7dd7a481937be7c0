/- An inode's bytes, plainly. -/
import Derived.Test.YtopakpmepioomaaDoorIno
import Derived.Test.YtopakpmepioomaaDoorMg0
namespace Go.Proofs.YtopakpmepioomaaDoor
open Go.RowKit
set_option linter.unusedVariables false
/-- an inode's numbers of 32 bits, the k-th at 4 + 4 k -/
def Ino.word (x : Ino) (k : Nat) : Int := if k = 0 then x.gen else if k = 1 then x.size else if k < 13 then x.p (k - 2) else x.next
/-- an inode's bytes -/
def Ino.byte (x : Ino) (i : Nat) : Int :=
  if i = 0 then x.kind else if i = 1 then 0 else if i < 4 then byteOf x.links (i - 2) else if i < 60 then byteOf (x.word ((i - 4) / 4)) ((i - 4) % 4) else 0
/-- .. of which the first m words are written -/
def Ino.stage (x : Ino) (m : Nat) (i : Nat) : Int := if i < 4 + 4 * m then x.byte i else 0
theorem Ino.stage_all (x : Ino) (i : Nat) : x.stage 14 i = x.byte i := by
  unfold Ino.stage
  split
  · rfl
  · unfold Ino.byte; rw [if_neg (by omega), if_neg (by omega), if_neg (by omega), if_neg (by omega)]
theorem Ino.stage_next (x : Ino) (z : Nat → Int) (at' m : Nat) (hm : m < 14) (i : Nat) :
    over (over z at' 64 (x.stage m)) (at' + (4 + 4 * m)) 4 (byteOf (x.word m)) i = over z at' 64 (x.stage (m + 1)) i := by
  by_cases h1 : at' ≤ i ∧ i < at' + 64
  · rw [over_in z _ _ _ _ h1]
    by_cases h2 : at' + (4 + 4 * m) ≤ i ∧ i < at' + (4 + 4 * m) + 4
    · rw [over_in _ _ _ _ _ h2]
      unfold Ino.stage
      rw [if_pos (by omega)]
      unfold Ino.byte
      rw [if_neg (by omega), if_neg (by omega), if_neg (by omega), if_pos (by omega), show (i - at' - 4) / 4 = m by omega]
      congr 1; omega
    · rw [over_out _ _ _ _ _ (by omega), over_in z _ _ _ _ h1]
      unfold Ino.stage
      by_cases h3 : i - at' < 4 + 4 * m
      · rw [if_pos h3, if_pos (by omega)]
      · rw [if_neg h3, if_neg (by omega)]
  · rw [over_out z _ _ _ _ (by omega), over_out _ _ _ _ _ (by omega), over_out z _ _ _ _ (by omega)]
theorem Ino.stage_zero (x : Ino) (z : Nat → Int) (at' : Nat) (i : Nat) :
    over (over (over z at' 64 (fun _ => 0)) at' 1 (fun _ => x.kind)) (at' + 2) 2 (byteOf x.links) i = over z at' 64 (x.stage 0) i := by
  by_cases h1 : at' ≤ i ∧ i < at' + 64
  · rw [over_in z at' 64 i (x.stage 0) h1]
    unfold Ino.stage Ino.byte
    by_cases h2 : at' + 2 ≤ i ∧ i < at' + 2 + 2
    · rw [over_in _ _ _ _ _ h2, if_pos (by omega), if_neg (by omega), if_neg (by omega), if_pos (by omega), show i - (at' + 2) = i - at' - 2 by omega]
    · rw [over_out _ _ _ _ _ (by omega)]
      by_cases h3 : i = at'
      · rw [over_in _ _ _ _ _ ⟨by omega, by omega⟩, if_pos (by omega), if_pos (by omega)]
      · rw [over_out _ _ _ _ _ (by omega), over_in z _ _ _ _ h1]
        by_cases h4 : i - at' < 4 + 4 * 0
        · rw [if_pos h4, if_neg (by omega), if_pos (by omega)]
        · rw [if_neg h4]
  · rw [over_out _ _ _ _ _ (by omega), over_out _ _ _ _ _ (by omega), over_out z _ _ _ _ (by omega), over_out z _ _ _ _ (by omega)]
theorem Ino.word_bd {x : Ino} (hx : x.Ok) (hs : 0 ≤ x.size ∧ x.size ≤ 16777216) (k : Nat) : 0 ≤ x.word k ∧ x.word k < 4294967296 := by
  unfold Ino.word
  have h1 := hx.gen; have h2 := hx.p (k - 2); have h3 := hx.next
  split
  · exact h1
  · split
    · omega
    · split
      · exact h2
      · exact h3
theorem Ino.may_bd {x : Ino} (h : x.May) : (0 ≤ x.size ∧ x.size ≤ 16777216) ∧ (0 ≤ x.links ∧ x.links ≤ 1000) ∧ (x.kind = 0 ∨ x.kind = 1 ∨ x.kind = 2) := by
  rcases h with ⟨h1, h2, h3, _⟩ | ⟨h1, h2, h3, h4, h5⟩ | ⟨h1, h2, h3, h4, _⟩ <;> omega
theorem Ino.byt_stage {x : Ino} (hx : x.Ok) (hk : x.kind = 0 ∨ x.kind = 1 ∨ x.kind = 2) (m : Nat) : Byt (x.stage m) := by
  intro i
  unfold Ino.stage
  split
  · unfold Ino.byte
    split
    · omega
    · split
      · omega
      · split
        · exact byteOf_bd _ _
        · split
          · exact byteOf_bd _ _
          · omega
  · omega
/-- the heap cells of an inode -/
abbrev Ino.arr (x : Ino) : Array Value := #[.int .u8 x.kind, .int .i64 x.links, .int .u32 x.gen, .int .i64 x.size, .int .u32 (x.p 0), .int .u32 (x.p 1), .int .u32 (x.p 2), .int .u32 (x.p 3), .int .u32 (x.p 4), .int .u32 (x.p 5), .int .u32 (x.p 6), .int .u32 (x.p 7), .int .u32 (x.p 8), .int .u32 (x.p 9), .int .u32 (x.p 10), .int .u32 x.next]
/-- heap block g is the inode x -/
def InoAt (w : World) (g : Nat) (T : TypeId) (x : Ino) : Prop := w.heap[g]? = some (.cells x.arr T (0, 0))
theorem InoAt.lt {w : World} {g : Nat} {T : TypeId} {x : Ino} (h : InoAt w g T x) : g < w.heap.size := (Array.getElem?_eq_some_iff.1 h).1
theorem InoAt.cell {w : World} {g : Nat} {T : TypeId} {x : Ino} (h : InoAt w g T x) {i : Nat} {v : Value} (hi : x.arr[i]? = some v) : w.cell? ⟨g, i, none⟩ = some v := cell_of_heap h hi
theorem InoAt.below {w w' : World} {g : Nat} {T : TypeId} {x : Ino} (h : InoAt w g T x) {B : Nat} (hb : Below B w w') (hg : g < B) : InoAt w' g T x := (hb.block g hg).trans h
theorem InoAt.only {w w' : World} {g : Nat} {T : TypeId} {x : Ino} (h : InoAt w g T x) {b : Nat} (hb : Only b w w') (hg : g ≠ b) : InoAt w' g T x := (hb.block g hg).trans h
theorem InoAt.ptr {w : World} {g : Nat} {T : TypeId} {x : Ino} (h : InoAt w g T x) (i : Nat) (hi : i < 11) : w.cell? ⟨g, 4 + i, none⟩ = some (.int .u32 (x.p i)) := by
  refine h.cell ?_
  obtain rfl | rfl | rfl | rfl | rfl | rfl | rfl | rfl | rfl | rfl | rfl : i = 0 ∨ i = 1 ∨ i = 2 ∨ i = 3 ∨ i = 4 ∨ i = 5 ∨ i = 6 ∨ i = 7 ∨ i = 8 ∨ i = 9 ∨ i = 10 := by omega
  all_goals rfl
end Go.Proofs.YtopakpmepioomaaDoor
