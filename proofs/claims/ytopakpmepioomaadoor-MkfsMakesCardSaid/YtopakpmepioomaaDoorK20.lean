/- Texts of this claim, merged by a program (a claim may have 60 files): InoP, Words. -/
import Derived.Test.YtopakpmepioomaaDoorK19
import Derived.Test.YtopakpmepioomaaDoorK01
import Derived.Shelf.Abstract
import Derived.TacticsInMore
import Derived.LoopNIn
import Derived.LoopIn
/- An inode's bytes, plainly. -/
namespace Go.Proofs.YtopakpmepioomaaDoor
open Go.RowKit
set_option linter.unusedVariables false
/-- an inode's numbers of 32 bits, the k-th at 4 + 4 k -/
def Ino.word (x : Ino) (k : Nat) : Int := if k = 0 then x.gen else if k = 1 then x.size else if k < 13 then x.p (k - 2) else x.next
/-- an inode's bytes -/
def Ino.byte (x : Ino) (i : Nat) : Int :=
  if i = 0 then x.kind else if i = 1 then 0 else if i < 4 then byteOf x.links (i - 2) else if i < 60 then byteOf (x.word ((i - 4) / 4)) ((i - 4) % 4) else 0
/-- .. of which the first m words are written -/
def Ino.stage (x : Ino) (m : Nat) (i : Nat) : Int := if i < 4 + 4 * m then x.byte i else 0
theorem Ino.stage_all (x : Ino) (i : Nat) : x.stage 14 i = x.byte i := by
  unfold Ino.stage
  split
  · rfl
  · unfold Ino.byte; rw [if_neg (by omega), if_neg (by omega), if_neg (by omega), if_neg (by omega)]
theorem Ino.stage_next (x : Ino) (z : Nat → Int) (at' m : Nat) (hm : m < 14) (i : Nat) :
    over (over z at' 64 (x.stage m)) (at' + (4 + 4 * m)) 4 (byteOf (x.word m)) i = over z at' 64 (x.stage (m + 1)) i := by
  by_cases h1 : at' ≤ i ∧ i < at' + 64
  · rw [over_in z _ _ _ _ h1]
    by_cases h2 : at' + (4 + 4 * m) ≤ i ∧ i < at' + (4 + 4 * m) + 4
    · rw [over_in _ _ _ _ _ h2]
      unfold Ino.stage
      rw [if_pos (by omega)]
      unfold Ino.byte
      rw [if_neg (by omega), if_neg (by omega), if_neg (by omega), if_pos (by omega), show (i - at' - 4) / 4 = m by omega]
      congr 1; omega
    · rw [over_out _ _ _ _ _ (by omega), over_in z _ _ _ _ h1]
      unfold Ino.stage
      by_cases h3 : i - at' < 4 + 4 * m
      · rw [if_pos h3, if_pos (by omega)]
      · rw [if_neg h3, if_neg (by omega)]
  · rw [over_out z _ _ _ _ (by omega), over_out _ _ _ _ _ (by omega), over_out z _ _ _ _ (by omega)]
theorem Ino.stage_zero (x : Ino) (z : Nat → Int) (at' : Nat) (i : Nat) :
    over (over (over z at' 64 (fun _ => 0)) at' 1 (fun _ => x.kind)) (at' + 2) 2 (byteOf x.links) i = over z at' 64 (x.stage 0) i := by
  by_cases h1 : at' ≤ i ∧ i < at' + 64
  · rw [over_in z at' 64 i (x.stage 0) h1]
    unfold Ino.stage Ino.byte
    by_cases h2 : at' + 2 ≤ i ∧ i < at' + 2 + 2
    · rw [over_in _ _ _ _ _ h2, if_pos (by omega), if_neg (by omega), if_neg (by omega), if_pos (by omega), show i - (at' + 2) = i - at' - 2 by omega]
    · rw [over_out _ _ _ _ _ (by omega)]
      by_cases h3 : i = at'
      · rw [over_in _ _ _ _ _ ⟨by omega, by omega⟩, if_pos (by omega), if_pos (by omega)]
      · rw [over_out _ _ _ _ _ (by omega), over_in z _ _ _ _ h1]
        by_cases h4 : i - at' < 4 + 4 * 0
        · rw [if_pos h4, if_neg (by omega), if_pos (by omega)]
        · rw [if_neg h4]
  · rw [over_out _ _ _ _ _ (by omega), over_out _ _ _ _ _ (by omega), over_out z _ _ _ _ (by omega), over_out z _ _ _ _ (by omega)]
theorem Ino.word_bd {x : Ino} (hx : x.Ok) (hs : 0 ≤ x.size ∧ x.size ≤ 16777216) (k : Nat) : 0 ≤ x.word k ∧ x.word k < 4294967296 := by
  unfold Ino.word
  have h1 := hx.gen; have h2 := hx.p (k - 2); have h3 := hx.next
  split
  · exact h1
  · split
    · omega
    · split
      · exact h2
      · exact h3
theorem Ino.may_bd {x : Ino} (h : x.May) : (0 ≤ x.size ∧ x.size ≤ 16777216) ∧ (0 ≤ x.links ∧ x.links ≤ 1000) ∧ (x.kind = 0 ∨ x.kind = 1 ∨ x.kind = 2) := by
  rcases h with ⟨h1, h2, h3, _⟩ | ⟨h1, h2, h3, h4, h5⟩ | ⟨h1, h2, h3, h4, _⟩ <;> omega
theorem Ino.byt_stage {x : Ino} (hx : x.Ok) (hk : x.kind = 0 ∨ x.kind = 1 ∨ x.kind = 2) (m : Nat) : Byt (x.stage m) := by
  intro i
  unfold Ino.stage
  split
  · unfold Ino.byte
    split
    · omega
    · split
      · omega
      · split
        · exact byteOf_bd _ _
        · split
          · exact byteOf_bd _ _
          · omega
  · omega
/-- the heap cells of an inode -/
abbrev Ino.arr (x : Ino) : Array Value := #[.int .u8 x.kind, .int .i64 x.links, .int .u32 x.gen, .int .i64 x.size, .int .u32 (x.p 0), .int .u32 (x.p 1), .int .u32 (x.p 2), .int .u32 (x.p 3), .int .u32 (x.p 4), .int .u32 (x.p 5), .int .u32 (x.p 6), .int .u32 (x.p 7), .int .u32 (x.p 8), .int .u32 (x.p 9), .int .u32 (x.p 10), .int .u32 x.next]
/-- heap block g is the inode x -/
def InoAt (w : World) (g : Nat) (T : TypeId) (x : Ino) : Prop := w.heap[g]? = some (.cells x.arr T (0, 0))
theorem InoAt.lt {w : World} {g : Nat} {T : TypeId} {x : Ino} (h : InoAt w g T x) : g < w.heap.size := (Array.getElem?_eq_some_iff.1 h).1
theorem InoAt.cell {w : World} {g : Nat} {T : TypeId} {x : Ino} (h : InoAt w g T x) {i : Nat} {v : Value} (hi : x.arr[i]? = some v) : w.cell? ⟨g, i, none⟩ = some v := cell_of_heap h hi
theorem InoAt.below {w w' : World} {g : Nat} {T : TypeId} {x : Ino} (h : InoAt w g T x) {B : Nat} (hb : Below B w w') (hg : g < B) : InoAt w' g T x := (hb.block g hg).trans h
theorem InoAt.only {w w' : World} {g : Nat} {T : TypeId} {x : Ino} (h : InoAt w g T x) {b : Nat} (hb : Only b w w') (hg : g ≠ b) : InoAt w' g T x := (hb.block g hg).trans h
theorem InoAt.ptr {w : World} {g : Nat} {T : TypeId} {x : Ino} (h : InoAt w g T x) (i : Nat) (hi : i < 11) : w.cell? ⟨g, 4 + i, none⟩ = some (.int .u32 (x.p i)) := by
  refine h.cell ?_
  obtain rfl | rfl | rfl | rfl | rfl | rfl | rfl | rfl | rfl | rfl | rfl : i = 0 ∨ i = 1 ∨ i = 2 ∨ i = 3 ∨ i = 4 ∨ i = 5 ∨ i = 6 ∨ i = 7 ∨ i = 8 ∨ i = 9 ∨ i = 10 := by omega
  all_goals rfl
end Go.Proofs.YtopakpmepioomaaDoor

/- The iterator of inode.words: it hands over an inode's fourteen numbers. -/
namespace Go.Proofs.YtopakpmepioomaaDoor
open Go.RowKit Go.Shelf
set_option linter.unusedVariables false
attribute [local go_sem] Oper.semAt_some

def wordEnc (x : Ino) (k : Nat) : Array Value := #[.int .i64 (4 + 4 * (k : Int)), .int .u32 (x.word k)]
def WordsNeed (B g : Nat) (x : Ino) : Nat → World → Prop := fun _ W => W.cell? ⟨B, 0, none⟩ = some (.pointer (some ⟨g, 0, none⟩)) ∧ InoAt W g 69 x

theorem run_index_ptrs (p : Nat → Int) (k : Nat) (hk : k < 11) (W : World) :
    (Instr.index 67 (.agg #[.int .u32 (p 0), .int .u32 (p 1), .int .u32 (p 2), .int .u32 (p 3), .int .u32 (p 4), .int .u32 (p 5), .int .u32 (p 6), .int .u32 (p 7), .int .u32 (p 8), .int .u32 (p 9), .int .u32 (p 10)]) (.int .i64 (k : Int))).run Tryd.prog W = .ok (.int .u32 (p k)) W := by
  obtain rfl | rfl | rfl | rfl | rfl | rfl | rfl | rfl | rfl | rfl | rfl : k = 0 ∨ k = 1 ∨ k = 2 ∨ k = 3 ∨ k = 4 ∨ k = 5 ∨ k = 6 ∨ k = 7 ∨ k = 8 ∨ k = 9 ∨ k = 10 := by omega
  all_goals kernel_rfl

set_option maxRecDepth 100000 in
set_option maxHeartbeats 4000000 in
theorem words_iter (n : Nat) (hn : 1 ≤ n) (B g : Nat) (x : Ino) (hx : x.Ok) (hs : 0 ≤ x.size ∧ x.size ≤ 16777216) :
    IterIx Fence.wide n Tryd.prog 94 #[.pointer (some ⟨B, 0, none⟩)] (wordEnc x) 14 (fun _ => False) (WordsNeed B g x) := by
  intro l J Jx W _ _ hY h0 hN
  have HY := Lib.hid hY
  clear hY
  have hs0 := hs.1
  have hs1 := hs.2
  refine callsIn_of_wp Tryd.func94 rfl trivial ?_ rfl
  simp only [Tryd.ntmps94, List.size_toArray, List.length_cons, List.length_nil, Nat.reduceAdd, Nat.reduceSub, Array.replicate_succ, Array.replicate_zero, List.push_toArray, List.append_toArray, List.nil_append, List.cons_append]
  have c0 := hN.1
  have c2 : W.cell? ⟨g, 2, none⟩ = some (.int .u32 x.gen) := hN.2.cell (i := 2) rfl
  obtain ⟨fn, tmps, assign, body, hy, hR⟩ := HY.out 0 W (by omega) h0 hN
  dsimp only [wordEnc] at hy
  rw [show (4 : Int) + 4 * ((0 : Nat) : Int) = 4 from rfl, show x.word 0 = x.gen from rfl] at hy
  gi_wp2
  refine hR.mono ?_
  clear hR hy
  rintro e W1 (⟨rfl, hJ1, hN1⟩ | ⟨rfl, hJx1⟩)
  rotate_left
  · gi_wp2
    refine ⟨fun _ h => (by cases h), ?_⟩
    gi_wp2
    refine bodyPost_ret (results_none rfl _ _ _) rfl ?_
    exact ⟨⟨_, rfl⟩, .inr ⟨0, by omega, hJx1⟩⟩
  clear c0 c2
  have c0 := hN1.1
  have c3 : W1.cell? ⟨g, 3, none⟩ = some (.int .i64 x.size) := hN1.2.cell (i := 3) rfl
  obtain ⟨fn, tmps, assign, body, hy, hR⟩ := HY.out 1 W1 (by omega) hJ1 hN1
  dsimp only [wordEnc] at hy
  rw [show (4 : Int) + 4 * ((1 : Nat) : Int) = 8 from rfl, show x.word 1 = x.size from rfl] at hy
  gi_wp2
  refine hR.mono ?_
  clear hR hy
  rintro e W2 (⟨rfl, hJ2, hN2⟩ | ⟨rfl, hJx2⟩)
  rotate_left
  · gi_wp2
    refine bodyPost_ret (results_none rfl _ _ _) rfl ?_
    exact ⟨⟨_, rfl⟩, .inr ⟨1, by omega, hJx2⟩⟩
  clear c0 c3
  have c0 := hN2.1
  have d0 : W2.cell? ⟨g, 4, none⟩ = some (.int .u32 (x.p 0)) := hN2.2.cell (i := 4) rfl
  have d1 : W2.cell? ⟨g, 4 + 1, none⟩ = some (.int .u32 (x.p 1)) := hN2.2.cell (i := 5) rfl
  have d2 : W2.cell? ⟨g, 4 + 2, none⟩ = some (.int .u32 (x.p 2)) := hN2.2.cell (i := 6) rfl
  have d3 : W2.cell? ⟨g, 4 + 3, none⟩ = some (.int .u32 (x.p 3)) := hN2.2.cell (i := 7) rfl
  have d4 : W2.cell? ⟨g, 4 + 4, none⟩ = some (.int .u32 (x.p 4)) := hN2.2.cell (i := 8) rfl
  have d5 : W2.cell? ⟨g, 4 + 5, none⟩ = some (.int .u32 (x.p 5)) := hN2.2.cell (i := 9) rfl
  have d6 : W2.cell? ⟨g, 4 + 6, none⟩ = some (.int .u32 (x.p 6)) := hN2.2.cell (i := 10) rfl
  have d7 : W2.cell? ⟨g, 4 + 7, none⟩ = some (.int .u32 (x.p 7)) := hN2.2.cell (i := 11) rfl
  have d8 : W2.cell? ⟨g, 4 + 8, none⟩ = some (.int .u32 (x.p 8)) := hN2.2.cell (i := 12) rfl
  have d9 : W2.cell? ⟨g, 4 + 9, none⟩ = some (.int .u32 (x.p 9)) := hN2.2.cell (i := 13) rfl
  have d10 : W2.cell? ⟨g, 4 + 10, none⟩ = some (.int .u32 (x.p 10)) := hN2.2.cell (i := 14) rfl
  simp only [Nat.reduceAdd] at d1 d2 d3 d4 d5 d6 d7 d8 d9 d10
  gi_wp2
  clear c0 d0 d1 d2 d3 d4 d5 d6 d7 d8 d9 d10
  gi_loopw [26] (fun i wr => ∃ k : Nat, k ≤ 11 ∧ i = .int .i64 (k : Int) ∧ J (k + 2) wr ∧ WordsNeed B g x (k + 2) wr) (fun i _ => 11 - (intOf i).toNat)
  case atStart => exact ⟨0, by omega, rfl, hJ2, hN2⟩
  case round =>
    obtain ⟨k, hk, rfl, hJ, hnd⟩ := hrel
    by_cases hlt : k < 11
    · obtain ⟨fn, tmps, assign, body, hy, hR⟩ := HY.out (k + 2) wr (by omega) hJ hnd
      have e1 : x.word (k + 2) = x.p k := by unfold Ino.word; rw [if_neg (by omega), if_neg (by omega), if_pos (by omega)]; rfl
      dsimp only [wordEnc] at hy
      rw [show (4 : Int) + 4 * ((k + 2 : Nat) : Int) = 12 + 4 * (k : Int) by omega, e1] at hy
      clear e1
      have hq := fun W => run_index_ptrs x.p k hlt W
      gi_wp2
      refine hR.mono ?_
      clear hR hy
      rintro e W3 (⟨rfl, hJ3, hN3⟩ | ⟨rfl, hJx3⟩)
      · gi_wp2
        go_roundw
        case rel => exact ⟨k + 1, by omega, by go_num, by rw [show k + 1 + 2 = k + 2 + 1 by omega]; exact hJ3, hN3⟩
        case measure => simp [intOf]; omega
      · gi_wp2
        refine bodyPost_ret (results_none rfl _ _ _) rfl ?_
        exact ⟨⟨_, rfl⟩, .inr ⟨k + 2, by omega, hJx3⟩⟩
    · obtain rfl : k = 11 := by omega
      have c0 := hnd.1
      have c15 : wr.cell? ⟨g, 15, none⟩ = some (.int .u32 x.next) := hnd.2.cell (i := 15) rfl
      obtain ⟨fn, tmps, assign, body, hy, hR⟩ := HY.out 13 wr (by omega) hJ hnd
      dsimp only [wordEnc] at hy
      rw [show (4 : Int) + 4 * ((13 : Nat) : Int) = 56 from rfl, show x.word 13 = x.next from rfl] at hy
      gi_wp2
      refine hR.mono ?_
      clear hR hy
      rintro e W3 (⟨rfl, hJ3, hN3⟩ | ⟨rfl, hJx3⟩)
      · gi_wp2
        refine bodyPost_end (results_none rfl _ _ _) rfl ?_
        exact ⟨⟨_, rfl⟩, .inl hJ3⟩
      · gi_wp2
        refine bodyPost_end (results_none rfl _ _ _) rfl ?_
        exact ⟨⟨_, rfl⟩, .inr ⟨13, by omega, hJx3⟩⟩

theorem words_any (g : Nat) (w : World) :
    Calls Tryd.prog 69 #[.pointer (some ⟨g, 0, none⟩)] w fun e w' => e = .returned (.func (.func 94) #[] #[.pointer (some ⟨w.heap.size, 0, none⟩)]) ∧ w.alloc (.cells #[.pointer (some ⟨g, 0, none⟩)] 121) = w' := by
  go_enter Tryd.func69, Tryd.ntmps69
  go_wp2
  go_ret
  exact ⟨rfl, rfl⟩
end Go.Proofs.YtopakpmepioomaaDoor
