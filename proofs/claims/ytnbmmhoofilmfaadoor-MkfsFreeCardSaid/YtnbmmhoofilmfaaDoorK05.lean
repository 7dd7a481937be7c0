/- Texts of this claim, merged by a program (a claim may have 60 files): Ino, InoP, Range2, Words. -/
import Derived.Test.YtnbmmhoofilmfaaDoorK04
import Derived.Test.YtnbmmhoofilmfaaDoorK03
import Derived.RangeFuncBox
import Derived.Shelf.Abstract
import Derived.TacticsInMore
import Derived.LoopNIn
import Derived.LoopIn
/- Inodes as plain data, and the contracts of inode.May and inode.place. -/
namespace Go.Proofs.YtnbmmhoofilmfaaDoor
open Go.RowKit
set_option linter.unusedVariables false

/-- an inode's fields -/
structure Ino where
  kind : Int
  links : Int
  gen : Int
  size : Int
  p : Nat → Int
  next : Int

/-- an inode as a value -/
abbrev Ino.val (x : Ino) : Value := .agg #[.int .u8 x.kind, .int .i64 x.links, .int .u32 x.gen, .int .i64 x.size, .int .u32 (x.p 0), .int .u32 (x.p 1), .int .u32 (x.p 2), .int .u32 (x.p 3), .int .u32 (x.p 4), .int .u32 (x.p 5), .int .u32 (x.p 6), .int .u32 (x.p 7), .int .u32 (x.p 8), .int .u32 (x.p 9), .int .u32 (x.p 10), .int .u32 x.next]
/-- its fields fit their kinds -/
structure Ino.Ok (x : Ino) : Prop where
  kind : 0 ≤ x.kind ∧ x.kind < 256
  links : -9223372036854775808 ≤ x.links ∧ x.links ≤ 9223372036854775807
  gen : 0 ≤ x.gen ∧ x.gen < 4294967296
  size : -9223372036854775808 ≤ x.size ∧ x.size ≤ 9223372036854775807
  p : ∀ i, 0 ≤ x.p i ∧ x.p i < 4294967296
  next : 0 ≤ x.next ∧ x.next < 4294967296
/-- may it be? -/
def Ino.May (x : Ino) : Prop :=
  (x.kind = 0 ∧ x.links = 0 ∧ x.size = 0 ∧ x.next = 0 ∧ allZ x.p 11 = true) ∨
  (x.kind = 1 ∧ 0 ≤ x.links ∧ x.links ≤ 1000 ∧ 0 ≤ x.size ∧ x.size ≤ 16777216) ∨
  (x.kind = 2 ∧ x.links = 1 ∧ 0 ≤ x.size ∧ x.size ≤ 16777216 ∧ x.size % 256 = 0 ∧ x.next = 0)
instance (x : Ino) : Decidable x.May := by unfold Ino.May; infer_instance


/-- are two inodes the same? -/
def inoEq (x y : Ino) : Bool := x.kind == y.kind && (x.links == y.links && (x.gen == y.gen && (x.size == y.size && (eqB x.p y.p 11 && x.next == y.next))))
theorem inoEq_iff (x y : Ino) : inoEq x y = true ↔ x.kind = y.kind ∧ x.links = y.links ∧ x.gen = y.gen ∧ x.size = y.size ∧ (∀ i, i < 11 → x.p i = y.p i) ∧ x.next = y.next := by
  unfold inoEq; simp only [Bool.and_eq_true, beq_iff_eq, eqB_iff]
theorem run_eql_ino (x y : Ino) (w : World) : (binOp .eql 88 x.val y.val).run Tryd.prog w = .ok (.bool (inoEq x y)) w := by
  obtain ⟨i, hi, _⟩ := info_parts (show (Tryd.prog.info? 34).map (fun i => (i.zero, i.size, i.bytes)) = some (some (.int .u32 0), 1, 4) by kernel_rfl)
  have hS : Tryd.prog.underlying 88 = some (.struct (Tryd.prog.fieldsOf 88)) := by kernel_rfl
  have hp : Tryd.prog.stoodInHeld 88 = false := by kernel_rfl
  have ha := fun w => run_equalIn_ints (P := Tryd.prog) w 9997 (t := 86) (e := 34) (n := 11) (k := .u32) Tryd.underlying86 hi Tryd.underlying34 (by kernel_rfl) x.p y.p
  have ex : ∀ u : Nat → Int, (Ks .u32 11 u).toArray = #[.int .u32 (u 0), .int .u32 (u 1), .int .u32 (u 2), .int .u32 (u 3), .int .u32 (u 4), .int .u32 (u 5), .int .u32 (u 6), .int .u32 (u 7), .int .u32 (u 8), .int .u32 (u 9), .int .u32 (u 10)] := fun u => rfl
  rw [ex, ex] at ha
  rw [run_eql_struct, show (10000 : Nat) = 9999 + 1 from rfl, run_equalIn_agg w 9999 _ _ _ hS hp]
  simp only [Program.fieldsOf, Tryd.underlying88]
  clear hi hS hp ex
  go_simp
  clear ha
  unfold inoEq
  by_cases h1 : x.kind = y.kind
  rotate_left
  · simp [*]
  by_cases h2 : x.links = y.links
  rotate_left
  · simp [*]
  by_cases h3 : x.gen = y.gen
  rotate_left
  · simp [*]
  by_cases h4 : x.size = y.size
  rotate_left
  · simp [*]
  cases h5 : eqB x.p y.p 11 with
  | false => simp [h1, h2, h3, h4]
  | true =>
    by_cases h6 : x.next = y.next
    · simp [h1, h2, h3, h4, h6]
    · have h7 : (x.next == y.next) = false := by simp [h6]
      simp [h1, h2, h3, h4, h6]

/-- is a place one? -/
def placeB (a : Int) : Bool := decide (a = 0 ∨ a = 64 ∨ a = 128 ∨ a = 192)
theorem placeB_iff (a : Int) : placeB a = true ↔ a = 0 ∨ a = 64 ∨ a = 128 ∨ a = 192 := by simp [placeB]
theorem placeB_no {a : Int} (h : ¬ (a = 0 ∨ a = 64 ∨ a = 128 ∨ a = 192)) : placeB a = false := by simp only [placeB, decide_eq_false_iff_not]; exact h
theorem place_any (a : Int) (w : World) (h0 : -9223372036854775808 ≤ a) (h1 : a ≤ 9223372036854775807) :
    Calls Tryd.prog 84 #[.int .i64 a] w fun e w' => e = .returned (.bool (placeB a)) ∧ w = w' := by
  by_cases c1 : 0 ≤ a
  · by_cases c2 : a < 256
    · by_cases c3 : a % 64 = 0
      · have q : (a % 64 == 0) = true := by simp [c3]
        have hd : Hid (placeB a = true) := (placeB_iff a).2 (by omega)
        clear c3
        go_enter Tryd.func84, Tryd.ntmps84
        go_wp2
        go_ret
        exact ⟨ret_bool hd.out.symm, rfl⟩
      · have q : (a % 64 == 0) = false := by simp [c3]
        have hd : Hid (placeB a = false) := placeB_no (by omega)
        clear c3
        go_enter Tryd.func84, Tryd.ntmps84
        go_wp2
        go_ret
        exact ⟨ret_bool hd.out.symm, rfl⟩
    · have hd : Hid (placeB a = false) := placeB_no (by omega)
      go_enter Tryd.func84, Tryd.ntmps84
      go_wp2
      go_ret
      exact ⟨ret_bool hd.out.symm, rfl⟩
  · have hd : Hid (placeB a = false) := placeB_no (by omega)
    go_enter Tryd.func84, Tryd.ntmps84
    go_wp2
    go_ret
    exact ⟨ret_bool hd.out.symm, rfl⟩

/-- May's answers, way by way -/
theorem may_0 (l g s n : Int) (p : Nat → Int) : decide (Ino.May ⟨0, l, g, s, p, n⟩) = inoEq ⟨0, l, g, s, p, n⟩ ⟨0, 0, g, 0, fun _ => 0, 0⟩ := by
  rw [Bool.eq_iff_iff, inoEq_iff, decide_eq_true_eq]
  unfold Ino.May
  simp only [allZ_iff]
  constructor
  · rintro (⟨_, h1, h2, h3, h4⟩ | ⟨h, _⟩ | ⟨h, _⟩)
    · exact ⟨trivial, h1, trivial, h2, h4, h3⟩
    · omega
    · omega
  · rintro ⟨_, h1, _, h2, h4, h3⟩
    exact .inl ⟨trivial, h1, h2, h3, h4⟩
theorem may_1 (l g s n : Int) (p : Nat → Int) : decide (Ino.May ⟨1, l, g, s, p, n⟩) = decide (0 ≤ l ∧ l ≤ 1000 ∧ 0 ≤ s ∧ s ≤ 16777216) := by
  rw [decide_eq_decide]; unfold Ino.May; simp
theorem may_2 (l g s n : Int) (p : Nat → Int) : decide (Ino.May ⟨2, l, g, s, p, n⟩) = decide (l = 1 ∧ 0 ≤ s ∧ s ≤ 16777216 ∧ s % 256 = 0 ∧ n = 0) := by
  rw [decide_eq_decide]; unfold Ino.May; simp
theorem may_3 (k l g s n : Int) (p : Nat → Int) (h : k ≠ 0 ∧ k ≠ 1 ∧ k ≠ 2) : decide (Ino.May ⟨k, l, g, s, p, n⟩) = false := by
  rw [decide_eq_false_iff_not]; unfold Ino.May; simp only; omega

set_option maxHeartbeats 4000000 in
theorem may_any (x : Ino) (hx : x.Ok) (w : World) :
    Calls Tryd.prog 85 #[x.val] w fun e w' => e = .returned (.bool (decide x.May)) ∧ Below w.heap.size w w' := by
  obtain ⟨k, l, g, s, p, n⟩ := x
  obtain ⟨⟨hk0, hk1⟩, ⟨hl0, hl1⟩, _, ⟨hs0, hs1⟩, _, _⟩ := hx
  dsimp only at hk0 hk1 hl0 hl1 hs0 hs1
  dsimp only [Ino.val]
  have fin : ∀ t, Hid (Below w.heap.size w (w.alloc t)) := fun t => (Below.refl _ _).alloc (Nat.le_refl _) _
  generalize hD' : decide (Ino.May ⟨k, l, g, s, p, n⟩) = D
  have hD := Lib.hid hD'
  clear hD'
  by_cases k0 : k = 0
  · subst k0
    have hq := fun w => run_eql_ino ⟨0, l, g, s, p, n⟩ ⟨0, 0, g, 0, fun _ => 0, 0⟩ w
    dsimp only [Ino.val] at hq
    have HD := hD.out
    rw [may_0] at HD
    rw [HD] at hq
    clear HD
    go_enter Tryd.func85, Tryd.ntmps85
    go_wp2
    go_ret
    exact ⟨rfl, (fin _).out⟩
  have q0 : (k == 0) = false := by simp [k0]
  by_cases k2 : k = 2
  · subst k2
    by_cases c1 : l = 1
    · subst c1
      by_cases c4 : 0 ≤ s
      · by_cases c2 : s % 256 = 0
        · have d2 : (s % 256 != 0) = false := by simp [c2]
          by_cases c3 : n = 0
          · subst c3
            by_cases c5 : s ≤ 16777216
            · have HD : Hid (D = true) := by show D = true; rw [← hD.out, may_2]; simp; omega
              clear c2
              go_enter Tryd.func85, Tryd.ntmps85
              go_wp2
              go_ret
              exact ⟨ret_bool HD.out.symm, (fin _).out⟩
            · have HD : Hid (D = false) := by show D = false; rw [← hD.out, may_2]; simp; omega
              clear c2
              go_enter Tryd.func85, Tryd.ntmps85
              go_wp2
              go_ret
              exact ⟨ret_bool HD.out.symm, (fin _).out⟩
          · have HD : Hid (D = false) := by show D = false; rw [← hD.out, may_2]; simp; omega
            have d3 : (n != 0) = true := by simp [c3]
            clear c2 c3
            go_enter Tryd.func85, Tryd.ntmps85
            go_wp2
            go_ret
            exact ⟨ret_bool HD.out.symm, (fin _).out⟩
        · have HD : Hid (D = false) := by show D = false; rw [← hD.out, may_2]; simp; omega
          have d2 : (s % 256 != 0) = true := by simp [c2]
          clear c2
          go_enter Tryd.func85, Tryd.ntmps85
          go_wp2
          go_ret
          exact ⟨ret_bool HD.out.symm, (fin _).out⟩
      · by_cases c2 : s.tmod 256 = 0
        · have d2 : (s.tmod 256 != 0) = false := by simp [c2]
          by_cases c3 : n = 0
          · subst c3
            have HD : Hid (D = false) := by show D = false; rw [← hD.out, may_2]; simp; omega
            clear c2
            go_enter Tryd.func85, Tryd.ntmps85
            go_wp2
            go_ret
            exact ⟨ret_bool HD.out.symm, (fin _).out⟩
          · have HD : Hid (D = false) := by show D = false; rw [← hD.out, may_2]; simp; omega
            have d3 : (n != 0) = true := by simp [c3]
            clear c2 c3
            go_enter Tryd.func85, Tryd.ntmps85
            go_wp2
            go_ret
            exact ⟨ret_bool HD.out.symm, (fin _).out⟩
        · have HD : Hid (D = false) := by show D = false; rw [← hD.out, may_2]; simp; omega
          have d2 : (s.tmod 256 != 0) = true := by simp [c2]
          clear c2
          go_enter Tryd.func85, Tryd.ntmps85
          go_wp2
          go_ret
          exact ⟨ret_bool HD.out.symm, (fin _).out⟩
    · have HD : Hid (D = false) := by show D = false; rw [← hD.out, may_2]; simp; omega
      have d1 : (l != 1) = true := by simp [c1]
      clear c1
      go_enter Tryd.func85, Tryd.ntmps85
      go_wp2
      go_ret
      exact ⟨ret_bool HD.out.symm, (fin _).out⟩
  have q2 : (k == 2) = false := by simp [k2]
  by_cases k1 : k = 1
  · subst k1
    by_cases c1 : 0 ≤ l
    · by_cases c2 : l ≤ 1000
      · by_cases c3 : 0 ≤ s
        · by_cases c4 : s ≤ 16777216
          · have HD : Hid (D = true) := by show D = true; rw [← hD.out, may_1]; simp; omega
            go_enter Tryd.func85, Tryd.ntmps85
            go_wp2
            go_ret
            exact ⟨ret_bool HD.out.symm, (fin _).out⟩
          · have HD : Hid (D = false) := by show D = false; rw [← hD.out, may_1]; simp; omega
            go_enter Tryd.func85, Tryd.ntmps85
            go_wp2
            go_ret
            exact ⟨ret_bool HD.out.symm, (fin _).out⟩
        · have HD : Hid (D = false) := by show D = false; rw [← hD.out, may_1]; simp; omega
          go_enter Tryd.func85, Tryd.ntmps85
          go_wp2
          go_ret
          exact ⟨ret_bool HD.out.symm, (fin _).out⟩
      · have HD : Hid (D = false) := by show D = false; rw [← hD.out, may_1]; simp; omega
        go_enter Tryd.func85, Tryd.ntmps85
        go_wp2
        go_ret
        exact ⟨ret_bool HD.out.symm, (fin _).out⟩
    · have HD : Hid (D = false) := by show D = false; rw [← hD.out, may_1]; simp; omega
      go_enter Tryd.func85, Tryd.ntmps85
      go_wp2
      go_ret
      exact ⟨ret_bool HD.out.symm, (fin _).out⟩
  have q1 : (k == 1) = false := by simp [k1]
  have HD : Hid (D = false) := by show D = false; rw [← hD.out]; exact may_3 _ _ _ _ _ _ (by omega)
  go_enter Tryd.func85, Tryd.ntmps85
  go_wp2
  go_ret
  exact ⟨ret_bool HD.out.symm, (fin _).out⟩
end Go.Proofs.YtnbmmhoofilmfaaDoor

/- An inode's bytes, plainly. -/
namespace Go.Proofs.YtnbmmhoofilmfaaDoor
open Go.RowKit
set_option linter.unusedVariables false
/-- an inode's numbers of 32 bits, the k-th at 4 + 4 k -/
def Ino.word (x : Ino) (k : Nat) : Int := if k = 0 then x.gen else if k = 1 then x.size else if k < 13 then x.p (k - 2) else x.next
/-- an inode's bytes -/
def Ino.byte (x : Ino) (i : Nat) : Int :=
  if i = 0 then x.kind else if i = 1 then 0 else if i < 4 then byteOf x.links (i - 2) else if i < 60 then byteOf (x.word ((i - 4) / 4)) ((i - 4) % 4) else 0
/-- .. of which the first m words are written -/
def Ino.stage (x : Ino) (m : Nat) (i : Nat) : Int := if i < 4 + 4 * m then x.byte i else 0
theorem Ino.stage_all (x : Ino) (i : Nat) : x.stage 14 i = x.byte i := by
  unfold Ino.stage
  split
  · rfl
  · unfold Ino.byte; rw [if_neg (by omega), if_neg (by omega), if_neg (by omega), if_neg (by omega)]
theorem Ino.stage_next (x : Ino) (z : Nat → Int) (at' m : Nat) (hm : m < 14) (i : Nat) :
    over (over z at' 64 (x.stage m)) (at' + (4 + 4 * m)) 4 (byteOf (x.word m)) i = over z at' 64 (x.stage (m + 1)) i := by
  by_cases h1 : at' ≤ i ∧ i < at' + 64
  · rw [over_in z _ _ _ _ h1]
    by_cases h2 : at' + (4 + 4 * m) ≤ i ∧ i < at' + (4 + 4 * m) + 4
    · rw [over_in _ _ _ _ _ h2]
      unfold Ino.stage
      rw [if_pos (by omega)]
      unfold Ino.byte
      rw [if_neg (by omega), if_neg (by omega), if_neg (by omega), if_pos (by omega), show (i - at' - 4) / 4 = m by omega]
      congr 1; omega
    · rw [over_out _ _ _ _ _ (by omega), over_in z _ _ _ _ h1]
      unfold Ino.stage
      by_cases h3 : i - at' < 4 + 4 * m
      · rw [if_pos h3, if_pos (by omega)]
      · rw [if_neg h3, if_neg (by omega)]
  · rw [over_out z _ _ _ _ (by omega), over_out _ _ _ _ _ (by omega), over_out z _ _ _ _ (by omega)]
theorem Ino.stage_zero (x : Ino) (z : Nat → Int) (at' : Nat) (i : Nat) :
    over (over (over z at' 64 (fun _ => 0)) at' 1 (fun _ => x.kind)) (at' + 2) 2 (byteOf x.links) i = over z at' 64 (x.stage 0) i := by
  by_cases h1 : at' ≤ i ∧ i < at' + 64
  · rw [over_in z at' 64 i (x.stage 0) h1]
    unfold Ino.stage Ino.byte
    by_cases h2 : at' + 2 ≤ i ∧ i < at' + 2 + 2
    · rw [over_in _ _ _ _ _ h2, if_pos (by omega), if_neg (by omega), if_neg (by omega), if_pos (by omega), show i - (at' + 2) = i - at' - 2 by omega]
    · rw [over_out _ _ _ _ _ (by omega)]
      by_cases h3 : i = at'
      · rw [over_in _ _ _ _ _ ⟨by omega, by omega⟩, if_pos (by omega), if_pos (by omega)]
      · rw [over_out _ _ _ _ _ (by omega), over_in z _ _ _ _ h1]
        by_cases h4 : i - at' < 4 + 4 * 0
        · rw [if_pos h4, if_neg (by omega), if_pos (by omega)]
        · rw [if_neg h4]
  · rw [over_out _ _ _ _ _ (by omega), over_out _ _ _ _ _ (by omega), over_out z _ _ _ _ (by omega), over_out z _ _ _ _ (by omega)]
theorem Ino.word_bd {x : Ino} (hx : x.Ok) (hs : 0 ≤ x.size ∧ x.size ≤ 16777216) (k : Nat) : 0 ≤ x.word k ∧ x.word k < 4294967296 := by
  unfold Ino.word
  have h1 := hx.gen; have h2 := hx.p (k - 2); have h3 := hx.next
  split
  · exact h1
  · split
    · omega
    · split
      · exact h2
      · exact h3
theorem Ino.may_bd {x : Ino} (h : x.May) : (0 ≤ x.size ∧ x.size ≤ 16777216) ∧ (0 ≤ x.links ∧ x.links ≤ 1000) ∧ (x.kind = 0 ∨ x.kind = 1 ∨ x.kind = 2) := by
  rcases h with ⟨h1, h2, h3, _⟩ | ⟨h1, h2, h3, h4, h5⟩ | ⟨h1, h2, h3, h4, _⟩ <;> omega
/-- the heap cells of an inode -/
abbrev Ino.arr (x : Ino) : Array Value := #[.int .u8 x.kind, .int .i64 x.links, .int .u32 x.gen, .int .i64 x.size, .int .u32 (x.p 0), .int .u32 (x.p 1), .int .u32 (x.p 2), .int .u32 (x.p 3), .int .u32 (x.p 4), .int .u32 (x.p 5), .int .u32 (x.p 6), .int .u32 (x.p 7), .int .u32 (x.p 8), .int .u32 (x.p 9), .int .u32 (x.p 10), .int .u32 x.next]
/-- heap block g is the inode x -/
def InoAt (w : World) (g : Nat) (T : TypeId) (x : Ino) : Prop := w.heap[g]? = some (.cells x.arr T (0, 0))
theorem InoAt.lt {w : World} {g : Nat} {T : TypeId} {x : Ino} (h : InoAt w g T x) : g < w.heap.size := (Array.getElem?_eq_some_iff.1 h).1
theorem InoAt.cell {w : World} {g : Nat} {T : TypeId} {x : Ino} (h : InoAt w g T x) {i : Nat} {v : Value} (hi : x.arr[i]? = some v) : w.cell? ⟨g, i, none⟩ = some v := cell_of_heap h hi
theorem InoAt.below {w w' : World} {g : Nat} {T : TypeId} {x : Ino} (h : InoAt w g T x) {B : Nat} (hb : Below B w w') (hg : g < B) : InoAt w' g T x := (hb.block g hg).trans h
theorem InoAt.only {w w' : World} {g : Nat} {T : TypeId} {x : Ino} (h : InoAt w g T x) {b : Nat} (hb : Only b w w') (hg : g ≠ b) : InoAt w' g T x := (hb.block g hg).trans h
theorem InoAt.ptr {w : World} {g : Nat} {T : TypeId} {x : Ino} (h : InoAt w g T x) (i : Nat) (hi : i < 11) : w.cell? ⟨g, 4 + i, none⟩ = some (.int .u32 (x.p i)) := by
  refine h.cell ?_
  obtain rfl | rfl | rfl | rfl | rfl | rfl | rfl | rfl | rfl | rfl | rfl : i = 0 ∨ i = 1 ∨ i = 2 ∨ i = 3 ∨ i = 4 ∨ i = 5 ∨ i = 6 ∨ i = 7 ∨ i = 8 ∨ i = 9 ∨ i = 10 := by omega
  all_goals rfl
end Go.Proofs.YtnbmmhoofilmfaaDoor

/- The law of a range over a function, for states that speak of the blocks that lay ahead of the loop alone. No program in sight. -/
namespace Go.Proofs.YtnbmmhoofilmfaaDoor
open Go.RowKit
variable {P : Program}
set_option linter.unusedVariables false

/-- C lies as A did below B -/
structure Still (B : Nat) (A C : World) : Prop where
  os : C.os = A.os
  tape : C.tape = A.tape
  output : C.output = A.output
  size : A.heap.size ≤ C.heap.size
  block : ∀ k, k < B → k < A.heap.size → C.heap[k]? = A.heap[k]?
/-- X speaks of the blocks below B alone -/
def LocalP (B : Nat) (X : World → Prop) : Prop := ∀ A C, X A → Still B A C → X C

theorem Still.of_grown {B : Nat} {A C : World} {row : Option Nat} (h : A.grownBy C row) (hr : ∀ r, row = some r → B ≤ r) : Still B A C :=
  ⟨h.os, h.tape, h.output, h.size, fun k hk hl => h.block k hl (fun e => by have := hr k e.symm; omega)⟩
theorem LocalP.own {B : Nat} {J : Nat → World → Prop} (h : ∀ k, LocalP B (J k)) : OwnFrom B J :=
  fun s A C row hs hg hr => h s A C hs (Still.of_grown hg (fun r e => (hr r e).1))
theorem LocalP.turns {B : Nat} {X : World → Prop} (h : LocalP B X) {A C : World} (hs : X A) (ht : Turns (fun _ => False) A C) : X C := by
  obtain ⟨row, hg, hr⟩ := ht
  exact h A C hs (Still.of_grown hg (fun r e => (hr r e).elim))
theorem LocalP.and {B : Nat} {X Y : World → Prop} (h : LocalP B X) (k : LocalP B Y) : LocalP B (fun W => X W ∧ Y W) := fun A C hs hg => ⟨h A C hs.1 hg, k A C hs.2 hg⟩
theorem LocalP.pure (B : Nat) (p : Prop) : LocalP B (fun _ => p) := fun _ _ h _ => h
theorem LocalP.ex {B : Nat} {α : Type} {X : α → World → Prop} (h : ∀ x, LocalP B (X x)) : LocalP B (fun W => ∃ x, X x W) := fun A C hs hg => let ⟨x, hx⟩ := hs; ⟨x, h x A C hx hg⟩
theorem LocalP.boxed {B b : Nat} (t : TypeId) (v : Value) (hb : b < B) : LocalP B (fun W => Boxed W b t v) := fun A C hs hg => (hg.block b hb hs.lt).trans hs
theorem LocalP.below {B n : Nat} (w : World) (hn : n ≤ B) (hw : n ≤ w.heap.size) : LocalP B (fun W => Below n w W) := fun A C hs hg =>
  ⟨hg.os.trans hs.os, hg.tape.trans hs.tape, hg.output.trans hs.output, Nat.le_trans hs.size hg.size, fun k hk => (hg.block k (by omega) (by have := hs.size; omega)).trans (hs.block k hk)⟩
theorem LocalP.cell {B : Nat} (p : Addr) (v : Value) (hb : p.block < B) : LocalP B (fun W => W.cell? p = some v) := fun A C hs hg =>
  (World.cell?_of_block (w := A) (hg.block p.block hb (World.block_lt_of_cell? A _ hs))).trans hs
theorem LocalP.seg {B b : Nat} (off n : Nat) (z : Nat → Int) (hb : b < B) : LocalP B (fun W => Seg W b off n z) := fun A C hs hg i hi => LocalP.cell ⟨b, off + i, none⟩ _ hb A C (hs i hi) hg
theorem LocalP.row {B : Nat} {a : Option Addr} (n : Nat) (z : Nat → Int) (hb : ∀ x, a = some x → x.block < B) : LocalP B (fun W => Row W a n z) := fun A C hs hg => by
  rcases hs with h0 | ⟨b, off, rfl, hs⟩
  · exact .inl h0
  · exact .inr ⟨b, off, rfl, LocalP.seg off n z (hb _ rfl) A C hs hg⟩
theorem LocalP.heap {B b : Nat} (o : Obj) (hb : b < B) : LocalP B (fun W => W.heap[b]? = some o) := fun A C hs hg => (hg.block b hb (Array.getElem?_eq_some_iff.1 hs).1).trans hs

theorem LocalP.grown {B : Nat} {w : World} (row : Option Nat) (hB : w.heap.size ≤ B) : LocalP B (fun W => w.grownBy W row) := fun A C hs hg =>
  ⟨hg.os.trans hs.os, hg.tape.trans hs.tape, hg.output.trans hs.output, Nat.le_trans hs.size hg.size, fun k hk hne => (hg.block k (by omega) (Nat.lt_of_lt_of_le hk hs.size)).trans (hs.block k hk hne)⟩

theorem Below.keeps {B : Nat} {W W' : World} (h : Below W.heap.size W W') : KeepsFrom B W W' :=
  ⟨h.size, fun k o _ hk _ => (h.block k (Array.getElem?_eq_some_iff.1 hk).1).trans hk⟩
theorem Only.keeps {B b : Nat} {W W' : World} (h : Only b W W') {off : Nat} {v : Value} (hc : W.cell? ⟨b, off, none⟩ = some v) : KeepsFrom B W W' :=
  ⟨Nat.le_of_eq h.size.symm, fun k o _ hk ho => by
    by_cases hkb : k = b
    · subst hkb
      simp only [World.cell?, hk] at hc
      cases o with
      | cells c e f => cases ho
      | _ => cases hc
    · exact (h.block k hkb).trans hk⟩
theorem drewN_keeps {B : Nat} (W : World) (m : Nat) : KeepsFrom B W (W.drewN m) := ⟨Nat.le_refl _, fun _ _ _ hk _ => hk⟩

/-- **A range over a function in a plain walk.** -/
theorem wp_rangeIx {g : Operand} {ps : Array Tmp} {assign body : Code} {Q : Exit → Act → World → Prop} {a : Act} {w : World} {gf : Nat} {lb : Array Value}
    (hg : a.eval g = .func (.func gf) #[] lb) (eg : ∀ args w, (callFunc gf args).run P w = .ok (.enter gf args) w)
    {encs : Nat → Array Value} {N : Nat} {Need : Nat → World → Prop} (hit : IterIx Fence.wide 4 P gf lb encs N (fun _ => False) Need) (hps : ∀ k, (encs k).size = ps.size)
    (J : Nat → World → Prop) (Jx : Code → Nat → World → Prop) (A1 : Nat → Act)
    (hJ : ∀ k, LocalP w.heap.size (J k)) (hJx : ∀ c k, LocalP w.heap.size (Jx c k)) (hN : ∀ k, LocalP w.heap.size (Need k)) (h0 : J 0 w) (hn0 : Need 0 w)
    (hassign : ∀ (l k : Nat) (W : World) (K : Act → World → Prop), k < N → K (A1 k) W →
      assign.wpIn (Fence.wide.inRound l) 3 P (Exit.then K (fun _ _ _ => False)) { tmps := (ps.zip (encs k)).foldl (fun t (p, v) => t.setIfInBounds p v) a.tmps, defers := [] } W)
    (hbody : ∀ (l k : Nat) (W : World), k < N → J k W → Need k W → body.wpIn (Fence.wide.inRound l) 3 P (roundIx w.heap.size J Jx Need k W) (A1 k) W)
    (hdone : ∀ (D : Nat) (W : World), w.heap.size ≤ D → J N W → W.heap[D]? = some (.deferred (some [])) → Q .normal { a with defers := { target := .collected D, args := #[] } :: a.defers } W)
    (hstop : ∀ (D : Nat) (c : Code) (k : Nat) (W : World), w.heap.size ≤ D → k < N → Jx c k W → W.heap[D]? = some (.deferred (some [])) → c.wp P Q { a with defers := { target := .collected D, args := #[] } :: a.defers } W) :
    (Code.rangeFunc g ps assign body).wp P Q a w := by
  refine (wpIn_wide (n := 5)).1 ?_
  exact wpIn_rangeIx rfl (by decide) hg trivial eg hit (fun r h => h.elim) hps J Jx (fun k a' _ => a' = A1 k)
    (LocalP.own hJ) (fun c => LocalP.own (hJx c)) (LocalP.own hN) (fun a' => LocalP.own (fun k => LocalP.pure _ _))
    (fun k A C hs ht => (hJ k).turns hs ht) (fun c k A C hs ht => (hJx c k).turns hs ht) h0 hn0
    (fun l k W K hk hj hn hK => hassign l k W K hk (hK _ _ (KeepsFrom.refl _ _) hj hn rfl))
    (fun l k a' W hk hj hn ha => by subst ha; exact hbody l k W hk hj hn)
    hdone (fun D c k W h1 h2 h3 h4 => wpIn_wide.2 (hstop D c k W h1 h2 h3 h4))

/-- the end of a function that holds such a loop: the block for deferred calls is shut -/
theorem bodyPostM_done {P : Program} {fn : Func} {R : Ending → World → Prop} {n : Nat} {tmps : Array Value} {D : Nat} {W : World} {v : Value} (hD : W.heap[D]? = some (.deferred (some [])))
    (hres : (results fn tmps).run P (W.putObj D (.deferred none)) = .ok v (W.putObj D (.deferred none))) (hR : R (.returned v) (W.putObj D (.deferred none))) :
    bodyPostM Fence.wide n P fn R .ret { tmps := tmps, defers := [{ target := .collected D, args := #[] }] } W :=
  ⟨by simp, .inl ⟨_, _, rfl, run_takeDeferred hD, ⟨_, hres, hR⟩⟩⟩
/-- .. ahead of the loop -/
theorem bodyPostM_early {P : Program} {fn : Func} {R : Ending → World → Prop} {n : Nat} {tmps : Array Value} {W : World} {v : Value}
    (hres : (results fn tmps).run P W = .ok v W) (hR : R (.returned v) W) :
    bodyPostM Fence.wide n P fn R .ret { tmps := tmps, defers := [] } W := ⟨_, hres, hR⟩
theorem cell_putObj {W : World} {D : Nat} {o o' : Obj} {p : Addr} {v : Value} (hD : W.heap[D]? = some o) (ho : o.isCells = false) (hc : W.cell? p = some v) : (W.putObj D o').cell? p = some v := by
  have hne : p.block ≠ D := by
    intro e
    simp only [World.cell?, e, hD] at hc
    cases o with
    | cells c e f => cases ho
    | _ => cases hc
  rw [World.cell?_of_block (w := W) (World.putObj_heap_other hne)]; exact hc
theorem below_putObj {W w : World} {n D : Nat} (h : Below n w W) (o' : Obj) (hn : n ≤ w.heap.size) (hD : n ≤ D) : Below n w (W.putObj D o') :=
  h.grown (grownBy_putObj' W D o') (Nat.le_trans hn h.size) (fun k e => by cases e; exact hD)
end Go.Proofs.YtnbmmhoofilmfaaDoor

/- The iterator of inode.words: it hands over an inode's fourteen numbers. -/
namespace Go.Proofs.YtnbmmhoofilmfaaDoor
open Go.RowKit Go.Shelf
set_option linter.unusedVariables false
attribute [local go_sem] Oper.semAt_some

def wordEnc (x : Ino) (k : Nat) : Array Value := #[.int .i64 (4 + 4 * (k : Int)), .int .u32 (x.word k)]
def WordsNeed (B g : Nat) (x : Ino) : Nat → World → Prop := fun _ W => W.cell? ⟨B, 0, none⟩ = some (.pointer (some ⟨g, 0, none⟩)) ∧ InoAt W g 88 x

theorem run_index_ptrs (p : Nat → Int) (k : Nat) (hk : k < 11) (W : World) :
    (Instr.index 86 (.agg #[.int .u32 (p 0), .int .u32 (p 1), .int .u32 (p 2), .int .u32 (p 3), .int .u32 (p 4), .int .u32 (p 5), .int .u32 (p 6), .int .u32 (p 7), .int .u32 (p 8), .int .u32 (p 9), .int .u32 (p 10)]) (.int .i64 (k : Int))).run Tryd.prog W = .ok (.int .u32 (p k)) W := by
  obtain rfl | rfl | rfl | rfl | rfl | rfl | rfl | rfl | rfl | rfl | rfl : k = 0 ∨ k = 1 ∨ k = 2 ∨ k = 3 ∨ k = 4 ∨ k = 5 ∨ k = 6 ∨ k = 7 ∨ k = 8 ∨ k = 9 ∨ k = 10 := by omega
  all_goals kernel_rfl

set_option maxRecDepth 100000 in
set_option maxHeartbeats 4000000 in
theorem words_iter (n : Nat) (hn : 1 ≤ n) (B g : Nat) (x : Ino) (hx : x.Ok) (hs : 0 ≤ x.size ∧ x.size ≤ 16777216) :
    IterIx Fence.wide n Tryd.prog 128 #[.pointer (some ⟨B, 0, none⟩)] (wordEnc x) 14 (fun _ => False) (WordsNeed B g x) := by
  intro l J Jx W _ _ hY h0 hN
  have HY := Lib.hid hY
  clear hY
  have hs0 := hs.1
  have hs1 := hs.2
  refine callsIn_of_wp Tryd.func128 rfl trivial ?_ rfl
  simp only [Tryd.ntmps128, List.size_toArray, List.length_cons, List.length_nil, Nat.reduceAdd, Nat.reduceSub, Array.replicate_succ, Array.replicate_zero, List.push_toArray, List.append_toArray, List.nil_append, List.cons_append]
  have c0 := hN.1
  have c2 : W.cell? ⟨g, 2, none⟩ = some (.int .u32 x.gen) := hN.2.cell (i := 2) rfl
  obtain ⟨fn, tmps, assign, body, hy, hR⟩ := HY.out 0 W (by omega) h0 hN
  dsimp only [wordEnc] at hy
  rw [show (4 : Int) + 4 * ((0 : Nat) : Int) = 4 from rfl, show x.word 0 = x.gen from rfl] at hy
  gi_wp2
  refine hR.mono ?_
  clear hR hy
  rintro e W1 (⟨rfl, hJ1, hN1⟩ | ⟨rfl, hJx1⟩)
  rotate_left
  · gi_wp2
    refine ⟨fun _ h => (by cases h), ?_⟩
    gi_wp2
    refine bodyPost_ret (results_none rfl _ _ _) rfl ?_
    exact ⟨⟨_, rfl⟩, .inr ⟨0, by omega, hJx1⟩⟩
  clear c0 c2
  have c0 := hN1.1
  have c3 : W1.cell? ⟨g, 3, none⟩ = some (.int .i64 x.size) := hN1.2.cell (i := 3) rfl
  obtain ⟨fn, tmps, assign, body, hy, hR⟩ := HY.out 1 W1 (by omega) hJ1 hN1
  dsimp only [wordEnc] at hy
  rw [show (4 : Int) + 4 * ((1 : Nat) : Int) = 8 from rfl, show x.word 1 = x.size from rfl] at hy
  gi_wp2
  refine hR.mono ?_
  clear hR hy
  rintro e W2 (⟨rfl, hJ2, hN2⟩ | ⟨rfl, hJx2⟩)
  rotate_left
  · gi_wp2
    refine bodyPost_ret (results_none rfl _ _ _) rfl ?_
    exact ⟨⟨_, rfl⟩, .inr ⟨1, by omega, hJx2⟩⟩
  clear c0 c3
  have c0 := hN2.1
  have d0 : W2.cell? ⟨g, 4, none⟩ = some (.int .u32 (x.p 0)) := hN2.2.cell (i := 4) rfl
  have d1 : W2.cell? ⟨g, 4 + 1, none⟩ = some (.int .u32 (x.p 1)) := hN2.2.cell (i := 5) rfl
  have d2 : W2.cell? ⟨g, 4 + 2, none⟩ = some (.int .u32 (x.p 2)) := hN2.2.cell (i := 6) rfl
  have d3 : W2.cell? ⟨g, 4 + 3, none⟩ = some (.int .u32 (x.p 3)) := hN2.2.cell (i := 7) rfl
  have d4 : W2.cell? ⟨g, 4 + 4, none⟩ = some (.int .u32 (x.p 4)) := hN2.2.cell (i := 8) rfl
  have d5 : W2.cell? ⟨g, 4 + 5, none⟩ = some (.int .u32 (x.p 5)) := hN2.2.cell (i := 9) rfl
  have d6 : W2.cell? ⟨g, 4 + 6, none⟩ = some (.int .u32 (x.p 6)) := hN2.2.cell (i := 10) rfl
  have d7 : W2.cell? ⟨g, 4 + 7, none⟩ = some (.int .u32 (x.p 7)) := hN2.2.cell (i := 11) rfl
  have d8 : W2.cell? ⟨g, 4 + 8, none⟩ = some (.int .u32 (x.p 8)) := hN2.2.cell (i := 12) rfl
  have d9 : W2.cell? ⟨g, 4 + 9, none⟩ = some (.int .u32 (x.p 9)) := hN2.2.cell (i := 13) rfl
  have d10 : W2.cell? ⟨g, 4 + 10, none⟩ = some (.int .u32 (x.p 10)) := hN2.2.cell (i := 14) rfl
  simp only [Nat.reduceAdd] at d1 d2 d3 d4 d5 d6 d7 d8 d9 d10
  gi_wp2
  clear c0 d0 d1 d2 d3 d4 d5 d6 d7 d8 d9 d10
  gi_loopw [26] (fun i wr => ∃ k : Nat, k ≤ 11 ∧ i = .int .i64 (k : Int) ∧ J (k + 2) wr ∧ WordsNeed B g x (k + 2) wr) (fun i _ => 11 - (intOf i).toNat)
  case atStart => exact ⟨0, by omega, rfl, hJ2, hN2⟩
  case round =>
    obtain ⟨k, hk, rfl, hJ, hnd⟩ := hrel
    by_cases hlt : k < 11
    · obtain ⟨fn, tmps, assign, body, hy, hR⟩ := HY.out (k + 2) wr (by omega) hJ hnd
      have e1 : x.word (k + 2) = x.p k := by unfold Ino.word; rw [if_neg (by omega), if_neg (by omega), if_pos (by omega)]; rfl
      dsimp only [wordEnc] at hy
      rw [show (4 : Int) + 4 * ((k + 2 : Nat) : Int) = 12 + 4 * (k : Int) by omega, e1] at hy
      clear e1
      have hq := fun W => run_index_ptrs x.p k hlt W
      gi_wp2
      refine hR.mono ?_
      clear hR hy
      rintro e W3 (⟨rfl, hJ3, hN3⟩ | ⟨rfl, hJx3⟩)
      · gi_wp2
        go_roundw
        case rel => exact ⟨k + 1, by omega, by go_num, by rw [show k + 1 + 2 = k + 2 + 1 by omega]; exact hJ3, hN3⟩
        case measure => simp [intOf]; omega
      · gi_wp2
        refine bodyPost_ret (results_none rfl _ _ _) rfl ?_
        exact ⟨⟨_, rfl⟩, .inr ⟨k + 2, by omega, hJx3⟩⟩
    · obtain rfl : k = 11 := by omega
      have c0 := hnd.1
      have c15 : wr.cell? ⟨g, 15, none⟩ = some (.int .u32 x.next) := hnd.2.cell (i := 15) rfl
      obtain ⟨fn, tmps, assign, body, hy, hR⟩ := HY.out 13 wr (by omega) hJ hnd
      dsimp only [wordEnc] at hy
      rw [show (4 : Int) + 4 * ((13 : Nat) : Int) = 56 from rfl, show x.word 13 = x.next from rfl] at hy
      gi_wp2
      refine hR.mono ?_
      clear hR hy
      rintro e W3 (⟨rfl, hJ3, hN3⟩ | ⟨rfl, hJx3⟩)
      · gi_wp2
        refine bodyPost_end (results_none rfl _ _ _) rfl ?_
        exact ⟨⟨_, rfl⟩, .inl hJ3⟩
      · gi_wp2
        refine bodyPost_end (results_none rfl _ _ _) rfl ?_
        exact ⟨⟨_, rfl⟩, .inr ⟨13, by omega, hJx3⟩⟩

theorem words_any (g : Nat) (w : World) :
    Calls Tryd.prog 87 #[.pointer (some ⟨g, 0, none⟩)] w fun e w' => e = .returned (.func (.func 128) #[] #[.pointer (some ⟨w.heap.size, 0, none⟩)]) ∧ w.alloc (.cells #[.pointer (some ⟨g, 0, none⟩)] 163) = w' := by
  go_enter Tryd.func87, Tryd.ntmps87
  go_wp2
  go_ret
  exact ⟨rfl, rfl⟩
end Go.Proofs.YtnbmmhoofilmfaaDoor
