/- Texts of this claim, merged by a program (a claim may have 60 files): SliceA, Clear, InoP, Words, InoPut, InoPutY. -/
import Derived.Test.YtnbmmhoofilmfaaGreatDoorK02
import Derived.WalkKit
import Derived.Lib.SliceRun
import Derived.Test.YtnbmmhoofilmfaaGreatDoorK03
import Derived.Test.YtnbmmhoofilmfaaGreatDoorK04
import Derived.Shelf.Abstract
import Derived.TacticsInMore
import Derived.LoopNIn
import Derived.LoopIn
/- Slices of a block of 256 bytes, by a pointer to it, in this program's own numbers. -/
namespace Go.Proofs.YtnbmmhoofilmfaaGreatDoor
open Go.RowKit
set_option linter.unusedVariables false
theorem addr_add (g o k : Nat) : (⟨g, o, none⟩ : Addr).add k = ⟨g, o + k, none⟩ := by
  unfold Addr.add; split
  · next h => subst h; rfl
  · rfl
theorem run_sliceBlk (g o lo hi : Nat) (L H : Int) (hL : L = (lo : Int)) (hH : H = (hi : Int)) (h1 : lo ≤ hi) (h2 : hi ≤ 256) (h3 : lo < 256) (W : World) :
    (Instr.sliceAt 32 (.pointer (some ⟨g, o, none⟩)) (some (.int .i64 L)) (some (.int .i64 H)) none).run Tryz.prog W = .ok (.slice (some ⟨g, o + lo, none⟩) (hi - lo) (256 - lo)) W := by
  subst hL hH
  have hal : Tryz.prog.arrayLen 32 = 256 := by kernel_rfl
  have hsz : ∀ W, (Go.sizeOf (Tryz.prog.elem 32)).run Tryz.prog W = .ok 1 W := fun W => by kernel_rfl
  rw [run_sliceAt_array_lh W 32 _ (by kernel_rfl) .i64 .i64 (lo : Int) (hi : Int) (by omega) (by omega) (by rw [hal]; omega), hsz, hal]
  simp only [Result.andThen, slicedAt, Int.toNat_natCast, Nat.mul_one]
  rw [if_neg (by omega), addr_add]
theorem run_sliceBlkAll (g o : Nat) (W : World) :
    (Instr.sliceAt 32 (.pointer (some ⟨g, o, none⟩)) none none none).run Tryz.prog W = .ok (.slice (some ⟨g, o, none⟩) 256 256) W := by
  have hal : Tryz.prog.arrayLen 32 = 256 := by kernel_rfl
  have hsz : ∀ W, (Go.sizeOf (Tryz.prog.elem 32)).run Tryz.prog W = .ok 1 W := fun W => by kernel_rfl
  rw [run_sliceAt_array_all W 32 _ (by kernel_rfl), hsz, hal]
  simp only [Result.andThen, slicedAt]
  rfl
end Go.Proofs.YtnbmmhoofilmfaaGreatDoor

/- clear of a row of bytes, as a law for the walk. -/
namespace Go.Proofs.YtnbmmhoofilmfaaGreatDoor
open Go.RowKit
set_option linter.unusedVariables false
theorem only_setCells (b : Nat) : ∀ (vs : List Value) (o : Nat) (w : World), Only b w (w.setCells b o vs)
  | [], _, w => Only.refl _ _
  | v :: r, o, w => (Only.setCell w ⟨b, o, none⟩ v).trans (only_setCells b r (o + 1) _)
theorem puts_setCells (b o n : Nat) (f : Nat → Int) (vs : List Value) (w : World) (hl : vs.length = n) (hv : ∀ i (h : i < vs.length), vs[i] = .int .u8 (f i)) (hc : ∀ j, j < n → (w.cell? ⟨b, o + j, none⟩).isSome = true) :
    Puts b o n f w (w.setCells b o vs) := by
  refine ⟨only_setCells b vs o w, fun x => ?_⟩
  by_cases h : o ≤ x ∧ x < o + n
  · rw [if_pos h]
    have := World.cell?_setCells_in b vs o w (fun j hj => hc j (by omega)) (x - o) (by omega)
    rw [show o + (x - o) = x by omega, hv _ (by omega)] at this
    exact this
  · rw [if_neg h]
    exact World.cell?_setCells_out b vs o w _ (fun _ _ => by simp; omega)
theorem wpList_clearB {P : Program} {w : World} {ops : Array Oper} {rest : List Oper} {o : Oper} {a : Act} {Q : Exit → Act → World → Prop} (hgd : o.guard = none) (s : Operand) (t : TypeId)
    (ho : o.op = .call { callee := .builtin .clear, args := #[s], argTypes := #[t] }) (e : TypeId) (ht : P.underlying t = some (.slice e)) (hz : ∀ w, (zeroValue e).run P w = .ok (.int .u8 0) w)
    (b off n c : Nat) (z : Nat → Int) (hs : a.eval s = .slice (some ⟨b, off, none⟩) n c) (hn : 0 < n) (hseg : Seg w b off n z) (hf : Soft w b off n)
    (h : ∀ w', Puts b off n (fun _ => 0) w w' → wpList P ops Q rest (a.put o.dst (.tuple #[])) w') : wpList P ops Q (o :: rest) a w := by
  refine wpList_plain hgd fun K hK => ?_
  have hc : ∀ j, j < n → (w.cell? ⟨b, off + j, none⟩).isSome = true := fun j hj => by rw [hseg j hj]; rfl
  have hrun := Lib.run_clear_slice (P := P) w t e o.type (.int .u8 0) ht hz rfl rfl b off n c hn hc hf
  unfold Oper.wp
  simp [execOp, ho, resolve, invoke, builtin, hs, hrun, Result.andThen]
  exact hK _ _ (h _ (puts_setCells b off n (fun _ => 0) _ w (by simp) (by simp) hc))
theorem grown_trans {a b c : World} {row : Option Nat} (h : a.grownBy b row) (k : b.grownBy c row) : a.grownBy c row :=
  ⟨k.os.trans h.os, k.tape.trans h.tape, k.output.trans h.output, Nat.le_trans h.size k.size, fun j hj hne => (k.block j (Nat.lt_of_lt_of_le hj h.size) hne).trans (h.block j hj hne)⟩
theorem grown_only {a b : World} {g : Nat} (h : Only g a b) : a.grownBy b (some g) :=
  ⟨h.os, h.tape, h.output, Nat.le_of_eq h.size.symm, fun j _ hne => h.block j (fun e => hne (by rw [e]))⟩
theorem grown_below {a b : World} {row : Option Nat} (h : Below a.heap.size a b) : a.grownBy b row := ⟨h.os, h.tape, h.output, h.size, fun j hj _ => h.block j hj⟩
theorem grown_below_ge {a b : World} {row : Option Nat} {B : Nat} (h : a.grownBy b row) (hB : B ≤ a.heap.size) (hr : ∀ k, row = some k → B ≤ k) : Below B a b := (Below.refl B a).grown h hB hr
end Go.Proofs.YtnbmmhoofilmfaaGreatDoor

/- An inode's bytes, plainly. -/
namespace Go.Proofs.YtnbmmhoofilmfaaGreatDoor
open Go.RowKit
set_option linter.unusedVariables false
/-- an inode's numbers of 32 bits, the k-th at 4 + 4 k -/
def Ino.word (x : Ino) (k : Nat) : Int := if k = 0 then x.gen else if k = 1 then x.size else if k < 13 then x.p (k - 2) else x.next
/-- an inode's bytes -/
def Ino.byte (x : Ino) (i : Nat) : Int :=
  if i = 0 then x.kind else if i = 1 then 0 else if i < 4 then byteOf x.links (i - 2) else if i < 60 then byteOf (x.word ((i - 4) / 4)) ((i - 4) % 4) else 0
/-- .. of which the first m words are written -/
def Ino.stage (x : Ino) (m : Nat) (i : Nat) : Int := if i < 4 + 4 * m then x.byte i else 0
theorem Ino.stage_all (x : Ino) (i : Nat) : x.stage 14 i = x.byte i := by
  unfold Ino.stage
  split
  · rfl
  · unfold Ino.byte; rw [if_neg (by omega), if_neg (by omega), if_neg (by omega), if_neg (by omega)]
theorem Ino.stage_next (x : Ino) (z : Nat → Int) (at' m : Nat) (hm : m < 14) (i : Nat) :
    over (over z at' 64 (x.stage m)) (at' + (4 + 4 * m)) 4 (byteOf (x.word m)) i = over z at' 64 (x.stage (m + 1)) i := by
  by_cases h1 : at' ≤ i ∧ i < at' + 64
  · rw [over_in z _ _ _ _ h1]
    by_cases h2 : at' + (4 + 4 * m) ≤ i ∧ i < at' + (4 + 4 * m) + 4
    · rw [over_in _ _ _ _ _ h2]
      unfold Ino.stage
      rw [if_pos (by omega)]
      unfold Ino.byte
      rw [if_neg (by omega), if_neg (by omega), if_neg (by omega), if_pos (by omega), show (i - at' - 4) / 4 = m by omega]
      congr 1; omega
    · rw [over_out _ _ _ _ _ (by omega), over_in z _ _ _ _ h1]
      unfold Ino.stage
      by_cases h3 : i - at' < 4 + 4 * m
      · rw [if_pos h3, if_pos (by omega)]
      · rw [if_neg h3, if_neg (by omega)]
  · rw [over_out z _ _ _ _ (by omega), over_out _ _ _ _ _ (by omega), over_out z _ _ _ _ (by omega)]
theorem Ino.stage_zero (x : Ino) (z : Nat → Int) (at' : Nat) (i : Nat) :
    over (over (over z at' 64 (fun _ => 0)) at' 1 (fun _ => x.kind)) (at' + 2) 2 (byteOf x.links) i = over z at' 64 (x.stage 0) i := by
  by_cases h1 : at' ≤ i ∧ i < at' + 64
  · rw [over_in z at' 64 i (x.stage 0) h1]
    unfold Ino.stage Ino.byte
    by_cases h2 : at' + 2 ≤ i ∧ i < at' + 2 + 2
    · rw [over_in _ _ _ _ _ h2, if_pos (by omega), if_neg (by omega), if_neg (by omega), if_pos (by omega), show i - (at' + 2) = i - at' - 2 by omega]
    · rw [over_out _ _ _ _ _ (by omega)]
      by_cases h3 : i = at'
      · rw [over_in _ _ _ _ _ ⟨by omega, by omega⟩, if_pos (by omega), if_pos (by omega)]
      · rw [over_out _ _ _ _ _ (by omega), over_in z _ _ _ _ h1]
        by_cases h4 : i - at' < 4 + 4 * 0
        · rw [if_pos h4, if_neg (by omega), if_pos (by omega)]
        · rw [if_neg h4]
  · rw [over_out _ _ _ _ _ (by omega), over_out _ _ _ _ _ (by omega), over_out z _ _ _ _ (by omega), over_out z _ _ _ _ (by omega)]
theorem Ino.word_bd {x : Ino} (hx : x.Ok) (hs : 0 ≤ x.size ∧ x.size ≤ 16777216) (k : Nat) : 0 ≤ x.word k ∧ x.word k < 4294967296 := by
  unfold Ino.word
  have h1 := hx.gen; have h2 := hx.p (k - 2); have h3 := hx.next
  split
  · exact h1
  · split
    · omega
    · split
      · exact h2
      · exact h3
theorem Ino.may_bd {x : Ino} (h : x.May) : (0 ≤ x.size ∧ x.size ≤ 16777216) ∧ (0 ≤ x.links ∧ x.links ≤ 1000) ∧ (x.kind = 0 ∨ x.kind = 1 ∨ x.kind = 2) := by
  rcases h with ⟨h1, h2, h3, _⟩ | ⟨h1, h2, h3, h4, h5⟩ | ⟨h1, h2, h3, h4, _⟩ <;> omega
/-- the heap cells of an inode -/
abbrev Ino.arr (x : Ino) : Array Value := #[.int .u8 x.kind, .int .i64 x.links, .int .u32 x.gen, .int .i64 x.size, .int .u32 (x.p 0), .int .u32 (x.p 1), .int .u32 (x.p 2), .int .u32 (x.p 3), .int .u32 (x.p 4), .int .u32 (x.p 5), .int .u32 (x.p 6), .int .u32 (x.p 7), .int .u32 (x.p 8), .int .u32 (x.p 9), .int .u32 (x.p 10), .int .u32 x.next]
/-- heap block g is the inode x -/
def InoAt (w : World) (g : Nat) (T : TypeId) (x : Ino) : Prop := w.heap[g]? = some (.cells x.arr T (0, 0))
theorem InoAt.lt {w : World} {g : Nat} {T : TypeId} {x : Ino} (h : InoAt w g T x) : g < w.heap.size := (Array.getElem?_eq_some_iff.1 h).1
theorem InoAt.cell {w : World} {g : Nat} {T : TypeId} {x : Ino} (h : InoAt w g T x) {i : Nat} {v : Value} (hi : x.arr[i]? = some v) : w.cell? ⟨g, i, none⟩ = some v := cell_of_heap h hi
theorem InoAt.below {w w' : World} {g : Nat} {T : TypeId} {x : Ino} (h : InoAt w g T x) {B : Nat} (hb : Below B w w') (hg : g < B) : InoAt w' g T x := (hb.block g hg).trans h
theorem InoAt.only {w w' : World} {g : Nat} {T : TypeId} {x : Ino} (h : InoAt w g T x) {b : Nat} (hb : Only b w w') (hg : g ≠ b) : InoAt w' g T x := (hb.block g hg).trans h
theorem InoAt.ptr {w : World} {g : Nat} {T : TypeId} {x : Ino} (h : InoAt w g T x) (i : Nat) (hi : i < 11) : w.cell? ⟨g, 4 + i, none⟩ = some (.int .u32 (x.p i)) := by
  refine h.cell ?_
  obtain rfl | rfl | rfl | rfl | rfl | rfl | rfl | rfl | rfl | rfl | rfl : i = 0 ∨ i = 1 ∨ i = 2 ∨ i = 3 ∨ i = 4 ∨ i = 5 ∨ i = 6 ∨ i = 7 ∨ i = 8 ∨ i = 9 ∨ i = 10 := by omega
  all_goals rfl
end Go.Proofs.YtnbmmhoofilmfaaGreatDoor

/- The iterator of inode.words: it hands over an inode's fourteen numbers. -/
namespace Go.Proofs.YtnbmmhoofilmfaaGreatDoor
open Go.RowKit Go.Shelf
set_option linter.unusedVariables false
attribute [local go_sem] Oper.semAt_some

def wordEnc (x : Ino) (k : Nat) : Array Value := #[.int .i64 (4 + 4 * (k : Int)), .int .u32 (x.word k)]
def WordsNeed (B g : Nat) (x : Ino) : Nat → World → Prop := fun _ W => W.cell? ⟨B, 0, none⟩ = some (.pointer (some ⟨g, 0, none⟩)) ∧ InoAt W g 63 x

theorem run_index_ptrs (p : Nat → Int) (k : Nat) (hk : k < 11) (W : World) :
    (Instr.index 61 (.agg #[.int .u32 (p 0), .int .u32 (p 1), .int .u32 (p 2), .int .u32 (p 3), .int .u32 (p 4), .int .u32 (p 5), .int .u32 (p 6), .int .u32 (p 7), .int .u32 (p 8), .int .u32 (p 9), .int .u32 (p 10)]) (.int .i64 (k : Int))).run Tryz.prog W = .ok (.int .u32 (p k)) W := by
  obtain rfl | rfl | rfl | rfl | rfl | rfl | rfl | rfl | rfl | rfl | rfl : k = 0 ∨ k = 1 ∨ k = 2 ∨ k = 3 ∨ k = 4 ∨ k = 5 ∨ k = 6 ∨ k = 7 ∨ k = 8 ∨ k = 9 ∨ k = 10 := by omega
  all_goals kernel_rfl

set_option maxRecDepth 100000 in
set_option maxHeartbeats 4000000 in
theorem words_iter (n : Nat) (hn : 1 ≤ n) (B g : Nat) (x : Ino) (hx : x.Ok) (hs : 0 ≤ x.size ∧ x.size ≤ 16777216) :
    IterIx Fence.wide n Tryz.prog 178 #[.pointer (some ⟨B, 0, none⟩)] (wordEnc x) 14 (fun _ => False) (WordsNeed B g x) := by
  intro l J Jx W _ _ hY h0 hN
  have HY := Lib.hid hY
  clear hY
  have hs0 := hs.1
  have hs1 := hs.2
  refine callsIn_of_wp Tryz.func178 rfl trivial ?_ rfl
  simp only [Tryz.ntmps178, List.size_toArray, List.length_cons, List.length_nil, Nat.reduceAdd, Nat.reduceSub, Array.replicate_succ, Array.replicate_zero, List.push_toArray, List.append_toArray, List.nil_append, List.cons_append]
  have c0 := hN.1
  have c2 : W.cell? ⟨g, 2, none⟩ = some (.int .u32 x.gen) := hN.2.cell (i := 2) rfl
  obtain ⟨fn, tmps, assign, body, hy, hR⟩ := HY.out 0 W (by omega) h0 hN
  dsimp only [wordEnc] at hy
  rw [show (4 : Int) + 4 * ((0 : Nat) : Int) = 4 from rfl, show x.word 0 = x.gen from rfl] at hy
  gi_wp2
  refine hR.mono ?_
  clear hR hy
  rintro e W1 (⟨rfl, hJ1, hN1⟩ | ⟨rfl, hJx1⟩)
  rotate_left
  · gi_wp2
    refine ⟨fun _ h => (by cases h), ?_⟩
    gi_wp2
    refine bodyPost_ret (results_none rfl _ _ _) rfl ?_
    exact ⟨⟨_, rfl⟩, .inr ⟨0, by omega, hJx1⟩⟩
  clear c0 c2
  have c0 := hN1.1
  have c3 : W1.cell? ⟨g, 3, none⟩ = some (.int .i64 x.size) := hN1.2.cell (i := 3) rfl
  obtain ⟨fn, tmps, assign, body, hy, hR⟩ := HY.out 1 W1 (by omega) hJ1 hN1
  dsimp only [wordEnc] at hy
  rw [show (4 : Int) + 4 * ((1 : Nat) : Int) = 8 from rfl, show x.word 1 = x.size from rfl] at hy
  gi_wp2
  refine hR.mono ?_
  clear hR hy
  rintro e W2 (⟨rfl, hJ2, hN2⟩ | ⟨rfl, hJx2⟩)
  rotate_left
  · gi_wp2
    refine bodyPost_ret (results_none rfl _ _ _) rfl ?_
    exact ⟨⟨_, rfl⟩, .inr ⟨1, by omega, hJx2⟩⟩
  clear c0 c3
  have c0 := hN2.1
  have d0 : W2.cell? ⟨g, 4, none⟩ = some (.int .u32 (x.p 0)) := hN2.2.cell (i := 4) rfl
  have d1 : W2.cell? ⟨g, 4 + 1, none⟩ = some (.int .u32 (x.p 1)) := hN2.2.cell (i := 5) rfl
  have d2 : W2.cell? ⟨g, 4 + 2, none⟩ = some (.int .u32 (x.p 2)) := hN2.2.cell (i := 6) rfl
  have d3 : W2.cell? ⟨g, 4 + 3, none⟩ = some (.int .u32 (x.p 3)) := hN2.2.cell (i := 7) rfl
  have d4 : W2.cell? ⟨g, 4 + 4, none⟩ = some (.int .u32 (x.p 4)) := hN2.2.cell (i := 8) rfl
  have d5 : W2.cell? ⟨g, 4 + 5, none⟩ = some (.int .u32 (x.p 5)) := hN2.2.cell (i := 9) rfl
  have d6 : W2.cell? ⟨g, 4 + 6, none⟩ = some (.int .u32 (x.p 6)) := hN2.2.cell (i := 10) rfl
  have d7 : W2.cell? ⟨g, 4 + 7, none⟩ = some (.int .u32 (x.p 7)) := hN2.2.cell (i := 11) rfl
  have d8 : W2.cell? ⟨g, 4 + 8, none⟩ = some (.int .u32 (x.p 8)) := hN2.2.cell (i := 12) rfl
  have d9 : W2.cell? ⟨g, 4 + 9, none⟩ = some (.int .u32 (x.p 9)) := hN2.2.cell (i := 13) rfl
  have d10 : W2.cell? ⟨g, 4 + 10, none⟩ = some (.int .u32 (x.p 10)) := hN2.2.cell (i := 14) rfl
  simp only [Nat.reduceAdd] at d1 d2 d3 d4 d5 d6 d7 d8 d9 d10
  gi_wp2
  clear c0 d0 d1 d2 d3 d4 d5 d6 d7 d8 d9 d10
  gi_loopw [26] (fun i wr => ∃ k : Nat, k ≤ 11 ∧ i = .int .i64 (k : Int) ∧ J (k + 2) wr ∧ WordsNeed B g x (k + 2) wr) (fun i _ => 11 - (intOf i).toNat)
  case atStart => exact ⟨0, by omega, rfl, hJ2, hN2⟩
  case round =>
    obtain ⟨k, hk, rfl, hJ, hnd⟩ := hrel
    by_cases hlt : k < 11
    · obtain ⟨fn, tmps, assign, body, hy, hR⟩ := HY.out (k + 2) wr (by omega) hJ hnd
      have e1 : x.word (k + 2) = x.p k := by unfold Ino.word; rw [if_neg (by omega), if_neg (by omega), if_pos (by omega)]; rfl
      dsimp only [wordEnc] at hy
      rw [show (4 : Int) + 4 * ((k + 2 : Nat) : Int) = 12 + 4 * (k : Int) by omega, e1] at hy
      clear e1
      have hq := fun W => run_index_ptrs x.p k hlt W
      gi_wp2
      refine hR.mono ?_
      clear hR hy
      rintro e W3 (⟨rfl, hJ3, hN3⟩ | ⟨rfl, hJx3⟩)
      · gi_wp2
        go_roundw
        case rel => exact ⟨k + 1, by omega, by go_num, by rw [show k + 1 + 2 = k + 2 + 1 by omega]; exact hJ3, hN3⟩
        case measure => simp [intOf]; omega
      · gi_wp2
        refine bodyPost_ret (results_none rfl _ _ _) rfl ?_
        exact ⟨⟨_, rfl⟩, .inr ⟨k + 2, by omega, hJx3⟩⟩
    · obtain rfl : k = 11 := by omega
      have c0 := hnd.1
      have c15 : wr.cell? ⟨g, 15, none⟩ = some (.int .u32 x.next) := hnd.2.cell (i := 15) rfl
      obtain ⟨fn, tmps, assign, body, hy, hR⟩ := HY.out 13 wr (by omega) hJ hnd
      dsimp only [wordEnc] at hy
      rw [show (4 : Int) + 4 * ((13 : Nat) : Int) = 56 from rfl, show x.word 13 = x.next from rfl] at hy
      gi_wp2
      refine hR.mono ?_
      clear hR hy
      rintro e W3 (⟨rfl, hJ3, hN3⟩ | ⟨rfl, hJx3⟩)
      · gi_wp2
        refine bodyPost_end (results_none rfl _ _ _) rfl ?_
        exact ⟨⟨_, rfl⟩, .inl hJ3⟩
      · gi_wp2
        refine bodyPost_end (results_none rfl _ _ _) rfl ?_
        exact ⟨⟨_, rfl⟩, .inr ⟨13, by omega, hJx3⟩⟩

theorem words_any (g : Nat) (w : World) :
    Calls Tryz.prog 125 #[.pointer (some ⟨g, 0, none⟩)] w fun e w' => e = .returned (.func (.func 178) #[] #[.pointer (some ⟨w.heap.size, 0, none⟩)]) ∧ w.alloc (.cells #[.pointer (some ⟨g, 0, none⟩)] 169) = w' := by
  go_enter Tryz.func125, Tryz.ntmps125
  go_wp2
  go_ret
  exact ⟨rfl, rfl⟩
end Go.Proofs.YtnbmmhoofilmfaaGreatDoor

/- The contract of inode.Put. -/
namespace Go.Proofs.YtnbmmhoofilmfaaGreatDoor
open Go.RowKit Go.Shelf
set_option linter.unusedVariables false
attribute [local go_sem] Oper.semAt_some

/-- may x be put at a place? -/
def putOk (a : Int) (x : Ino) : Bool := placeB a && decide x.May
end Go.Proofs.YtnbmmhoofilmfaaGreatDoor

/- The contract of inode.Put, where the inode may be put. -/
namespace Go.Proofs.YtnbmmhoofilmfaaGreatDoor
open Go.RowKit Go.Shelf
set_option linter.unusedVariables false
attribute [local go_sem] Oper.semAt_some

set_option maxRecDepth 100000 in
set_option maxHeartbeats 4000000 in
theorem inoPut_yes (g : Nat) (T : TypeId) (z : Nat → Int) (hz : Byt z) (a : Int) (x : Ino) (hx : x.Ok) (w : World) (hB : Blk w g T 256 z) (hok : putOk a x = true) :
    Calls Tryz.prog 70 #[.pointer (some ⟨g, 0, none⟩), .int .i64 a, x.val] w fun e w' => e = .returned (.int .i64 0) ∧ Blk w' g T 256 (over z a.toNat 64 x.byte) ∧ w.grownBy w' (some g) := by
  refine (callsIn_wide (n := 5)).1 (callsIn_of_wp_marks Tryz.func70 rfl trivial ?_ rfl)
  refine wpIn_wide.2 ?_
  simp only [Tryz.ntmps70, List.size_toArray, List.length_cons, List.length_nil, Nat.reduceAdd, Nat.reduceSub, Array.replicate_succ, Array.replicate_zero, List.push_toArray, List.append_toArray, List.nil_append, List.cons_append]
  unfold putOk at hok
  rw [Bool.and_eq_true] at hok
  obtain ⟨hp, hm⟩ := hok
  have hpl := (placeB_iff a).1 hp
  have hmay : x.May := of_decide_eq_true hm
  obtain ⟨hsz, hlk, hkd⟩ := Ino.may_bd hmay
  have HP := Lib.hid hp
  have HM := Lib.hid hm
  have HPL := Lib.hid hpl
  have ha0 : 0 ≤ a := by omega
  have ha1 : a ≤ 192 := by omega
  have hgl := hB.lt
  clear hp hm hpl hkd
  obtain ⟨i, rfl⟩ := Int.eq_ofNat_of_zero_le ha0
  obtain ⟨hl0, hl1⟩ := hlk
  go_wp2_with fail
  refine (place_any _ _ (by omega) (by omega)).mono ?_
  rintro e w1 ⟨rfl, rfl⟩
  rw [HP.out]
  go_wp2_with fail
  refine (may_any x hx _).mono ?_
  rintro e w2 ⟨rfl, hb2⟩
  rw [HM.out]
  simp only [World.size_alloc] at hb2
  have hI2 : InoAt w2 w.heap.size 63 x := (hb2.block _ (by omega)).trans (heap_alloc_new w _)
  have hB2 : Blk w2 g T 256 z := (hB.alloc _).below hb2 (by omega)
  have hg2 : w.grownBy w2 (some g) := grown_trans (World.grownBy_alloc w _ _) (by have := grown_below (row := some g) (a := w.alloc (.cells x.arr 63)) (b := w2) (by simp only [World.size_alloc]; exact hb2); exact this)
  have hs2 := hb2.size
  simp only [World.size_alloc] at hs2
  clear hb2 hB
  have hsl := fun W => run_sliceBlk g 0 i (i + 64) (i : Int) ((i : Int) + 64) rfl (by omega) (by omega) (by omega) (by omega) W
  simp only [Nat.zero_add, Nat.add_sub_cancel_left] at hsl
  have hsoft : Hid (∀ W off m, Blk W g T 256 z → Soft W g off m) := fun W off m h => h.soft off m
  go_wp2_with (first | (with_reducible refine wpList_clearB rfl (.tmp 27) 128 rfl 5 Tryz.underlying128 (fun _ => by kernel_rfl) g i 64 _ (fun k => z (i + k)) rfl (by omega) ?seg ?soft ?rest))
  case seg => have := (hB2.alloc (Obj.cells #[Value.slice (some ⟨g, i, none⟩) 64 (256 - i)] 128)).seg.sub i 64 (by omega); rwa [Nat.zero_add] at this
  case soft => exact (hB2.alloc _).soft i 64
  case' rest => intro w3 hp3
  have hB3 := (hB2.alloc (Obj.cells #[Value.slice (some ⟨g, i, none⟩) 64 (256 - i)] 128)).puts hp3
  have hO3 : Boxed w3 w2.heap.size 128 (.slice (some ⟨g, i, none⟩) 64 (256 - i)) := (hp3.only.block _ (by have := hB2.lt; omega)).trans (Boxed.new _ _ _)
  have hI3 : InoAt w3 w.heap.size 63 x := (hp3.only.block _ (by omega)).trans (heap_alloc_keep hI2 _)
  have hg3 : w.grownBy w3 (some g) := grown_trans (grown_trans hg2 (World.grownBy_alloc _ _ _)) (grown_only hp3.only)
  have hs3 : w3.heap.size = w2.heap.size + 1 := by rw [hp3.only.size]; simp
  clear hp3 hB2 hI2 hg2
  have HS3 := Lib.hid hs3
  clear hs3 hsoft
  have c1 := hO3.cell
  have c2 : w3.cell? ⟨w.heap.size, 0, none⟩ = some (.int .u8 x.kind) := hI3.cell (i := 0) rfl
  have c3 : w3.cell? ⟨g, i, none⟩ = some (.int .u8 (over z i 64 (fun _ => 0) i)) := by have := hB3.seg i (by omega); rwa [Nat.zero_add] at this
  have f3 : w3.frozen? ⟨g, i, none⟩ = false := soft_of_heap hB3 i
  have hB4 := hB3.setCell i x.kind (by omega)
  have hO := Only.setCell w3 ⟨g, i, none⟩ (.int .u8 x.kind)
  have hO4 : Boxed (w3.setCell ⟨g, i, none⟩ (.int .u8 x.kind)) w2.heap.size 128 (.slice (some ⟨g, i, none⟩) 64 (256 - i)) := (hO.block _ (by have := hB3.lt; simp; omega)).trans hO3
  have hI4 : InoAt (w3.setCell ⟨g, i, none⟩ (.int .u8 x.kind)) w.heap.size 63 x := (hO.block _ (by simp; omega)).trans hI3
  have hg4 : w.grownBy (w3.setCell ⟨g, i, none⟩ (.int .u8 x.kind)) (some g) := grown_trans hg3 (grown_only hO)
  have d1 := hO4.cell
  have d2 : (w3.setCell ⟨g, i, none⟩ (.int .u8 x.kind)).cell? ⟨w.heap.size, 1, none⟩ = some (.int .i64 x.links) := hI4.cell (i := 1) rfl
  go_wp2_with fail
  refine (put16_yes g i 64 _ 2 x.links _ _ (by omega) (by omega) (by omega) hl0 (by omega) (by have := hB4.seg.sub i 64 (by omega); rw [Nat.zero_add] at this; exact this) (hB4.soft i 64)).mono ?_
  rintro e w5 ⟨rfl, hp5⟩
  rw [show i + (2 : Int).toNat = i + 2 from rfl] at hp5
  have hB5 := hB4.puts hp5
  have hO5 : Boxed w5 w2.heap.size 128 (.slice (some ⟨g, i, none⟩) 64 (256 - i)) := (hp5.only.block _ (by have := hB3.lt; omega)).trans hO4
  have hI5 : InoAt w5 w.heap.size 63 x := (hp5.only.block _ (by omega)).trans hI4
  have hg5 : w.grownBy w5 (some g) := grown_trans hg4 (grown_only hp5.only)
  have hs5 : Hid (w5.heap.size = w2.heap.size + 1) := by show _ = _; rw [hp5.only.size, hO.size]; exact HS3.out
  have hB5 := hB5.congr (fun j _ => x.stage_zero z i j)
  clear hp5 c1 c2 c3 f3 hB4 hO hO4 hI4 hg4 d1 d2 hB3 hO3 hI3 hg3
  go_wp2_with fail
  refine (words_any w.heap.size _).mono ?_
  rintro e w6 ⟨rfl, rfl⟩
  go_wp2_with fail
  have hs5' : w2.heap.size + 1 ≤ w5.heap.size := Nat.le_of_eq hs5.out.symm
  have hlt5 : w.heap.size < w5.heap.size := by omega
  have hgl5 : g < w5.heap.size := hB5.lt
  refine wp_rangeIx (gf := 178) (lb := #[.pointer (some ⟨w5.heap.size, 0, none⟩)]) rfl (enters_of Tryz.func178 (by kernel_rfl) rfl)
    (words_iter 4 (by decide) w5.heap.size w.heap.size x hx hsz) (fun k => rfl)
    (fun k W => Boxed W w2.heap.size 128 (.slice (some ⟨g, i, none⟩) 64 (256 - i)) ∧ Blk W g T 256 (over z i 64 (x.stage k)) ∧ w.grownBy W (some g))
    (fun _ _ _ => False)
    (fun k => { tmps := #[.pointer (some ⟨g, 0, none⟩), .int .i64 (i : Int), x.val, undef, undef, .pointer (some ⟨w.heap.size, 0, none⟩), .int .i64 0, .pointer (some ⟨w2.heap.size, 0, none⟩), .int .i64 (4 + 4 * (k : Int)), .int .u32 (x.word k), .bool false, .pointer (some ⟨g, 0, none⟩), .bool false, .bool false, .int .i64 (i : Int), .bool true, .bool false, .bool false, .agg #[.int .u8 x.kind, .int .i64 x.links, .int .u32 x.gen, .int .i64 x.size, .int .u32 (x.p 0), .int .u32 (x.p 1), .int .u32 (x.p 2), .int .u32 (x.p 3), .int .u32 (x.p 4), .int .u32 (x.p 5), .int .u32 (x.p 6), .int .u32 (x.p 7), .int .u32 (x.p 8), .int .u32 (x.p 9), .int .u32 (x.p 10), .int .u32 x.next], .bool true, .bool false, .pointer (some ⟨g, 0, none⟩), .pointer (some ⟨g, 0, none⟩), .int .i64 (i : Int), .int .i64 (i : Int), .int .i64 ((i : Int) + 64), .slice (some ⟨g, i, none⟩) 64 (256 - i), .slice (some ⟨g, i, none⟩) 64 (256 - i), .slice (some ⟨g, i, none⟩) 64 (256 - i), .pointer (some ⟨w.heap.size, 0, none⟩), .int .u8 x.kind, .pointer (some ⟨g, i, none⟩), .slice (some ⟨g, i, none⟩) 64 (256 - i), .pointer (some ⟨w.heap.size, 1, none⟩), .int .i64 x.links, .int .u32 x.links, .bool true, .func (.func 178) #[] #[.pointer (some ⟨w5.heap.size, 0, none⟩)], .int .i64 (4 + 4 * (k : Int)), .int .u32 (x.word k), undef, undef, undef, undef], defers := [] })
    (fun k => (LocalP.boxed _ _ (by simp; omega)).and ((LocalP.heap _ (by simp; omega)).and (LocalP.grown _ (by simp; omega))))
    (fun c k => LocalP.pure _ _)
    (fun k => (LocalP.cell _ _ (by simp)).and (LocalP.heap _ (by simp; omega)))
    ⟨hO5.alloc _, hB5.alloc _, grown_trans hg5 (World.grownBy_alloc _ _ _)⟩
    ⟨(Boxed.new w5 169 (.pointer (some ⟨w.heap.size, 0, none⟩))).cell, heap_alloc_keep hI5 _⟩
    ?assign ?body ?done ?stop
  case assign =>
    intro l k W K hk hK
    dsimp only [wordEnc]
    gi_wp2
    exact hK
  case body =>
    rintro l k W hk ⟨h0, h1, h2⟩ hN
    have c0 := h0.cell
    have hwb := x.word_bd hx hsz k
    have hseg : Seg W g i 64 (fun j => over z i 64 (x.stage k) (i + j)) := by have := h1.seg.sub i 64 (by omega); rwa [Nat.zero_add] at this
    have hsoft := h1.soft i 64
    have hwb0 := hwb.1
    gi_wp2_with (refine ⟨trivial, ?_⟩; gi_at_call 126; refine (CallsIn.inRound l (callsIn_wide.2 (put32_yes g i 64 _ _ _ _ _ (by omega) (by omega) (by omega) hwb0 (by exact hseg) (by exact hsoft)))).mono ?_; rintro e W1 ⟨rfl, hp⟩)
    rw [show i + (4 + 4 * (k : Int)).toNat = i + (4 + 4 * k) by omega] at hp
    refine ⟨hp.only.keeps (hseg 0 (by omega)), ⟨(hp.only.block _ (by omega)).trans h0, (h1.puts hp).congr (fun j _ => x.stage_next z i k hk j), grown_trans h2 (grown_only hp.only)⟩, (hp.only.cell (p := ⟨w5.heap.size, 0, none⟩) (by simp; omega)).trans hN.1, (hp.only.block _ (by omega)).trans hN.2⟩
  case done =>
    rintro D W hD ⟨h0, h1, h2⟩ hK
    go_wp2_with fail
    refine bodyPostM_done (D := D) hK (results_tmp rfl _ _ _) ⟨rfl, ?_, ?_⟩
    · have : Blk (W.putObj D (.deferred none)) g T 256 (over z i 64 (x.stage 14)) := (World.putObj_heap_other (by simp at hD; omega)).trans h1
      refine this.congr (fun j _ => ?_)
      rw [Int.toNat_natCast]
      by_cases hj : i ≤ j ∧ j < i + 64
      · rw [over_in _ _ _ _ _ hj, over_in _ _ _ _ _ hj, x.stage_all]
      · rw [over_out _ _ _ _ _ (by omega), over_out _ _ _ _ _ (by omega)]
    · exact ⟨h2.os, h2.tape, h2.output, by simp [World.putObj]; exact h2.size, fun j hj hne => (World.putObj_heap_other (by simp at hD; omega)).trans (h2.block j hj hne)⟩
  case stop =>
    rintro D c k W hD hk h hK
    exact h.elim
end Go.Proofs.YtnbmmhoofilmfaaGreatDoor
