/- Texts of this claim, merged by a program (a claim may have 60 files): Ino. -/
import Derived.Test.YtopakpmepioomaaDoorK02
import Derived.Test.YtopakpmepioomaaDoorK01
/- Inodes as plain data, and the contracts of inode.May and inode.place. -/
namespace Go.Proofs.YtopakpmepioomaaDoor
open Go.RowKit
set_option linter.unusedVariables false

/-- an inode's fields -/
structure Ino where
  kind : Int
  links : Int
  gen : Int
  size : Int
  p : Nat → Int
  next : Int

/-- an inode as a value -/
abbrev Ino.val (x : Ino) : Value := .agg #[.int .u8 x.kind, .int .i64 x.links, .int .u32 x.gen, .int .i64 x.size, .int .u32 (x.p 0), .int .u32 (x.p 1), .int .u32 (x.p 2), .int .u32 (x.p 3), .int .u32 (x.p 4), .int .u32 (x.p 5), .int .u32 (x.p 6), .int .u32 (x.p 7), .int .u32 (x.p 8), .int .u32 (x.p 9), .int .u32 (x.p 10), .int .u32 x.next]
/-- its fields fit their kinds -/
structure Ino.Ok (x : Ino) : Prop where
  kind : 0 ≤ x.kind ∧ x.kind < 256
  links : -9223372036854775808 ≤ x.links ∧ x.links ≤ 9223372036854775807
  gen : 0 ≤ x.gen ∧ x.gen < 4294967296
  size : -9223372036854775808 ≤ x.size ∧ x.size ≤ 9223372036854775807
  p : ∀ i, 0 ≤ x.p i ∧ x.p i < 4294967296
  next : 0 ≤ x.next ∧ x.next < 4294967296
/-- may it be? -/
def Ino.May (x : Ino) : Prop :=
  (x.kind = 0 ∧ x.links = 0 ∧ x.size = 0 ∧ x.next = 0 ∧ allZ x.p 11 = true) ∨
  (x.kind = 1 ∧ 0 ≤ x.links ∧ x.links ≤ 1000 ∧ 0 ≤ x.size ∧ x.size ≤ 16777216) ∨
  (x.kind = 2 ∧ x.links = 1 ∧ 0 ≤ x.size ∧ x.size ≤ 16777216 ∧ x.size % 256 = 0 ∧ x.next = 0)
instance (x : Ino) : Decidable x.May := by unfold Ino.May; infer_instance


/-- are two inodes the same? -/
def inoEq (x y : Ino) : Bool := x.kind == y.kind && (x.links == y.links && (x.gen == y.gen && (x.size == y.size && (eqB x.p y.p 11 && x.next == y.next))))
theorem inoEq_iff (x y : Ino) : inoEq x y = true ↔ x.kind = y.kind ∧ x.links = y.links ∧ x.gen = y.gen ∧ x.size = y.size ∧ (∀ i, i < 11 → x.p i = y.p i) ∧ x.next = y.next := by
  unfold inoEq; simp only [Bool.and_eq_true, beq_iff_eq, eqB_iff]
theorem run_eql_ino (x y : Ino) (w : World) : (binOp .eql 69 x.val y.val).run Tryd.prog w = .ok (.bool (inoEq x y)) w := by
  obtain ⟨i, hi, _⟩ := info_parts (show (Tryd.prog.info? 40).map (fun i => (i.zero, i.size, i.bytes)) = some (some (.int .u32 0), 1, 4) by kernel_rfl)
  have hS : Tryd.prog.underlying 69 = some (.struct (Tryd.prog.fieldsOf 69)) := by kernel_rfl
  have hp : Tryd.prog.stoodInHeld 69 = false := by kernel_rfl
  have ha := fun w => run_equalIn_ints (P := Tryd.prog) w 9997 (t := 67) (e := 40) (n := 11) (k := .u32) Tryd.underlying67 hi Tryd.underlying40 (by kernel_rfl) x.p y.p
  have ex : ∀ u : Nat → Int, (Ks .u32 11 u).toArray = #[.int .u32 (u 0), .int .u32 (u 1), .int .u32 (u 2), .int .u32 (u 3), .int .u32 (u 4), .int .u32 (u 5), .int .u32 (u 6), .int .u32 (u 7), .int .u32 (u 8), .int .u32 (u 9), .int .u32 (u 10)] := fun u => rfl
  rw [ex, ex] at ha
  rw [run_eql_struct, show (10000 : Nat) = 9999 + 1 from rfl, run_equalIn_agg w 9999 _ _ _ hS hp]
  simp only [Program.fieldsOf, Tryd.underlying69]
  clear hi hS hp ex
  go_simp
  clear ha
  unfold inoEq
  by_cases h1 : x.kind = y.kind
  rotate_left
  · simp [*]
  by_cases h2 : x.links = y.links
  rotate_left
  · simp [*]
  by_cases h3 : x.gen = y.gen
  rotate_left
  · simp [*]
  by_cases h4 : x.size = y.size
  rotate_left
  · simp [*]
  cases h5 : eqB x.p y.p 11 with
  | false => simp [h1, h2, h3, h4]
  | true =>
    by_cases h6 : x.next = y.next
    · simp [h1, h2, h3, h4, h6]
    · have h7 : (x.next == y.next) = false := by simp [h6]
      simp [h1, h2, h3, h4, h6]

/-- is a place one? -/
def placeB (a : Int) : Bool := decide (a = 0 ∨ a = 64 ∨ a = 128 ∨ a = 192)
theorem placeB_iff (a : Int) : placeB a = true ↔ a = 0 ∨ a = 64 ∨ a = 128 ∨ a = 192 := by simp [placeB]
theorem placeB_no {a : Int} (h : ¬ (a = 0 ∨ a = 64 ∨ a = 128 ∨ a = 192)) : placeB a = false := by simp only [placeB, decide_eq_false_iff_not]; exact h
theorem place_any (a : Int) (w : World) (h0 : -9223372036854775808 ≤ a) (h1 : a ≤ 9223372036854775807) :
    Calls Tryd.prog 66 #[.int .i64 a] w fun e w' => e = .returned (.bool (placeB a)) ∧ w = w' := by
  by_cases c1 : 0 ≤ a
  · by_cases c2 : a < 256
    · by_cases c3 : a % 64 = 0
      · have q : (a % 64 == 0) = true := by simp [c3]
        have hd : Hid (placeB a = true) := (placeB_iff a).2 (by omega)
        clear c3
        go_enter Tryd.func66, Tryd.ntmps66
        go_wp2
        go_ret
        exact ⟨ret_bool hd.out.symm, rfl⟩
      · have q : (a % 64 == 0) = false := by simp [c3]
        have hd : Hid (placeB a = false) := placeB_no (by omega)
        clear c3
        go_enter Tryd.func66, Tryd.ntmps66
        go_wp2
        go_ret
        exact ⟨ret_bool hd.out.symm, rfl⟩
    · have hd : Hid (placeB a = false) := placeB_no (by omega)
      go_enter Tryd.func66, Tryd.ntmps66
      go_wp2
      go_ret
      exact ⟨ret_bool hd.out.symm, rfl⟩
  · have hd : Hid (placeB a = false) := placeB_no (by omega)
    go_enter Tryd.func66, Tryd.ntmps66
    go_wp2
    go_ret
    exact ⟨ret_bool hd.out.symm, rfl⟩

/-- May's answers, way by way -/
theorem may_0 (l g s n : Int) (p : Nat → Int) : decide (Ino.May ⟨0, l, g, s, p, n⟩) = inoEq ⟨0, l, g, s, p, n⟩ ⟨0, 0, g, 0, fun _ => 0, 0⟩ := by
  rw [Bool.eq_iff_iff, inoEq_iff, decide_eq_true_eq]
  unfold Ino.May
  simp only [allZ_iff]
  constructor
  · rintro (⟨_, h1, h2, h3, h4⟩ | ⟨h, _⟩ | ⟨h, _⟩)
    · exact ⟨trivial, h1, trivial, h2, h4, h3⟩
    · omega
    · omega
  · rintro ⟨_, h1, _, h2, h4, h3⟩
    exact .inl ⟨trivial, h1, h2, h3, h4⟩
theorem may_1 (l g s n : Int) (p : Nat → Int) : decide (Ino.May ⟨1, l, g, s, p, n⟩) = decide (0 ≤ l ∧ l ≤ 1000 ∧ 0 ≤ s ∧ s ≤ 16777216) := by
  rw [decide_eq_decide]; unfold Ino.May; simp
theorem may_2 (l g s n : Int) (p : Nat → Int) : decide (Ino.May ⟨2, l, g, s, p, n⟩) = decide (l = 1 ∧ 0 ≤ s ∧ s ≤ 16777216 ∧ s % 256 = 0 ∧ n = 0) := by
  rw [decide_eq_decide]; unfold Ino.May; simp
theorem may_3 (k l g s n : Int) (p : Nat → Int) (h : k ≠ 0 ∧ k ≠ 1 ∧ k ≠ 2) : decide (Ino.May ⟨k, l, g, s, p, n⟩) = false := by
  rw [decide_eq_false_iff_not]; unfold Ino.May; simp only; omega

set_option maxHeartbeats 4000000 in
theorem may_any (x : Ino) (hx : x.Ok) (w : World) :
    Calls Tryd.prog 67 #[x.val] w fun e w' => e = .returned (.bool (decide x.May)) ∧ Below w.heap.size w w' := by
  obtain ⟨k, l, g, s, p, n⟩ := x
  obtain ⟨⟨hk0, hk1⟩, ⟨hl0, hl1⟩, _, ⟨hs0, hs1⟩, _, _⟩ := hx
  dsimp only at hk0 hk1 hl0 hl1 hs0 hs1
  dsimp only [Ino.val]
  have fin : ∀ t, Hid (Below w.heap.size w (w.alloc t)) := fun t => (Below.refl _ _).alloc (Nat.le_refl _) _
  generalize hD' : decide (Ino.May ⟨k, l, g, s, p, n⟩) = D
  have hD := Lib.hid hD'
  clear hD'
  by_cases k0 : k = 0
  · subst k0
    have hq := fun w => run_eql_ino ⟨0, l, g, s, p, n⟩ ⟨0, 0, g, 0, fun _ => 0, 0⟩ w
    dsimp only [Ino.val] at hq
    have HD := hD.out
    rw [may_0] at HD
    rw [HD] at hq
    clear HD
    go_enter Tryd.func67, Tryd.ntmps67
    go_wp2
    go_ret
    exact ⟨rfl, (fin _).out⟩
  have q0 : (k == 0) = false := by simp [k0]
  by_cases k2 : k = 2
  · subst k2
    by_cases c1 : l = 1
    · subst c1
      by_cases c4 : 0 ≤ s
      · by_cases c2 : s % 256 = 0
        · have d2 : (s % 256 != 0) = false := by simp [c2]
          by_cases c3 : n = 0
          · subst c3
            by_cases c5 : s ≤ 16777216
            · have HD : Hid (D = true) := by show D = true; rw [← hD.out, may_2]; simp; omega
              clear c2
              go_enter Tryd.func67, Tryd.ntmps67
              go_wp2
              go_ret
              exact ⟨ret_bool HD.out.symm, (fin _).out⟩
            · have HD : Hid (D = false) := by show D = false; rw [← hD.out, may_2]; simp; omega
              clear c2
              go_enter Tryd.func67, Tryd.ntmps67
              go_wp2
              go_ret
              exact ⟨ret_bool HD.out.symm, (fin _).out⟩
          · have HD : Hid (D = false) := by show D = false; rw [← hD.out, may_2]; simp; omega
            have d3 : (n != 0) = true := by simp [c3]
            clear c2 c3
            go_enter Tryd.func67, Tryd.ntmps67
            go_wp2
            go_ret
            exact ⟨ret_bool HD.out.symm, (fin _).out⟩
        · have HD : Hid (D = false) := by show D = false; rw [← hD.out, may_2]; simp; omega
          have d2 : (s % 256 != 0) = true := by simp [c2]
          clear c2
          go_enter Tryd.func67, Tryd.ntmps67
          go_wp2
          go_ret
          exact ⟨ret_bool HD.out.symm, (fin _).out⟩
      · by_cases c2 : s.tmod 256 = 0
        · have d2 : (s.tmod 256 != 0) = false := by simp [c2]
          by_cases c3 : n = 0
          · subst c3
            have HD : Hid (D = false) := by show D = false; rw [← hD.out, may_2]; simp; omega
            clear c2
            go_enter Tryd.func67, Tryd.ntmps67
            go_wp2
            go_ret
            exact ⟨ret_bool HD.out.symm, (fin _).out⟩
          · have HD : Hid (D = false) := by show D = false; rw [← hD.out, may_2]; simp; omega
            have d3 : (n != 0) = true := by simp [c3]
            clear c2 c3
            go_enter Tryd.func67, Tryd.ntmps67
            go_wp2
            go_ret
            exact ⟨ret_bool HD.out.symm, (fin _).out⟩
        · have HD : Hid (D = false) := by show D = false; rw [← hD.out, may_2]; simp; omega
          have d2 : (s.tmod 256 != 0) = true := by simp [c2]
          clear c2
          go_enter Tryd.func67, Tryd.ntmps67
          go_wp2
          go_ret
          exact ⟨ret_bool HD.out.symm, (fin _).out⟩
    · have HD : Hid (D = false) := by show D = false; rw [← hD.out, may_2]; simp; omega
      have d1 : (l != 1) = true := by simp [c1]
      clear c1
      go_enter Tryd.func67, Tryd.ntmps67
      go_wp2
      go_ret
      exact ⟨ret_bool HD.out.symm, (fin _).out⟩
  have q2 : (k == 2) = false := by simp [k2]
  by_cases k1 : k = 1
  · subst k1
    by_cases c1 : 0 ≤ l
    · by_cases c2 : l ≤ 1000
      · by_cases c3 : 0 ≤ s
        · by_cases c4 : s ≤ 16777216
          · have HD : Hid (D = true) := by show D = true; rw [← hD.out, may_1]; simp; omega
            go_enter Tryd.func67, Tryd.ntmps67
            go_wp2
            go_ret
            exact ⟨ret_bool HD.out.symm, (fin _).out⟩
          · have HD : Hid (D = false) := by show D = false; rw [← hD.out, may_1]; simp; omega
            go_enter Tryd.func67, Tryd.ntmps67
            go_wp2
            go_ret
            exact ⟨ret_bool HD.out.symm, (fin _).out⟩
        · have HD : Hid (D = false) := by show D = false; rw [← hD.out, may_1]; simp; omega
          go_enter Tryd.func67, Tryd.ntmps67
          go_wp2
          go_ret
          exact ⟨ret_bool HD.out.symm, (fin _).out⟩
      · have HD : Hid (D = false) := by show D = false; rw [← hD.out, may_1]; simp; omega
        go_enter Tryd.func67, Tryd.ntmps67
        go_wp2
        go_ret
        exact ⟨ret_bool HD.out.symm, (fin _).out⟩
    · have HD : Hid (D = false) := by show D = false; rw [← hD.out, may_1]; simp; omega
      go_enter Tryd.func67, Tryd.ntmps67
      go_wp2
      go_ret
      exact ⟨ret_bool HD.out.symm, (fin _).out⟩
  have q1 : (k == 1) = false := by simp [k1]
  have HD : Hid (D = false) := by show D = false; rw [← hD.out]; exact may_3 _ _ _ _ _ _ (by omega)
  go_enter Tryd.func67, Tryd.ntmps67
  go_wp2
  go_ret
  exact ⟨ret_bool HD.out.symm, (fin _).out⟩
end Go.Proofs.YtopakpmepioomaaDoor
