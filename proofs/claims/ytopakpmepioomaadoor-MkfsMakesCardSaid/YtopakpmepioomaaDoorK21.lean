/- Texts of this claim, merged by a program (a claim may have 60 files): RMay. -/
import Derived.Test.YtopakpmepioomaaDoorK20
/- Contracts of quernref07.May and quernref07.Place. -/
namespace Go.Proofs.YtopakpmepioomaaDoor
open Go.RowKit
set_option linter.unusedVariables false

theorem rplace_any (a : Int) (w : World) :
    Calls Tryd.prog 55 #[.int .i64 a] w fun e w' => e = .returned (.bool (placeB a)) ∧ w = w' := by
  by_cases c1 : a = 0
  · subst c1
    have hd : Hid (placeB 0 = true) := (placeB_iff _).2 (by omega)
    go_enter Tryd.func55, Tryd.ntmps55
    go_wp2
    go_ret
    exact ⟨ret_bool hd.out.symm, rfl⟩
  have q1 : (a == 0) = false := by simp [c1]
  by_cases c2 : a = 64
  · subst c2
    have hd : Hid (placeB 64 = true) := (placeB_iff _).2 (by omega)
    go_enter Tryd.func55, Tryd.ntmps55
    go_wp2
    go_ret
    exact ⟨ret_bool hd.out.symm, rfl⟩
  have q2 : (a == 64) = false := by simp [c2]
  by_cases c3 : a = 128
  · subst c3
    have hd : Hid (placeB 128 = true) := (placeB_iff _).2 (by omega)
    go_enter Tryd.func55, Tryd.ntmps55
    go_wp2
    go_ret
    exact ⟨ret_bool hd.out.symm, rfl⟩
  have q3 : (a == 128) = false := by simp [c3]
  by_cases c4 : a = 192
  · subst c4
    have hd : Hid (placeB 192 = true) := (placeB_iff _).2 (by omega)
    go_enter Tryd.func55, Tryd.ntmps55
    go_wp2
    go_ret
    exact ⟨ret_bool hd.out.symm, rfl⟩
  · have q4 : (a == 192) = false := by simp [c4]
    have hd : Hid (placeB a = false) := placeB_no (by omega)
    clear c1 c2 c3 c4
    go_enter Tryd.func55, Tryd.ntmps55
    go_wp2
    go_ret
    exact ⟨ret_bool hd.out.symm, rfl⟩

/-- kind 0: the loop over the pointers -/
theorem may_0' (l g s n : Int) (p : Nat → Int) : decide (Ino.May ⟨0, l, g, s, p, n⟩) = ((l == 0 && (s == 0 && n == 0)) && allZ p 11) := by
  rw [Bool.eq_iff_iff, decide_eq_true_eq]
  unfold Ino.May
  simp only [Bool.and_eq_true, beq_iff_eq]
  constructor
  · rintro (⟨_, h1, h2, h3, h4⟩ | ⟨h, _⟩ | ⟨h, _⟩)
    · exact ⟨⟨h1, h2, h3⟩, h4⟩
    · omega
    · omega
  · rintro ⟨⟨h1, h2, h3⟩, h4⟩
    exact .inl ⟨trivial, h1, h2, h3, h4⟩

set_option maxHeartbeats 4000000 in
theorem rmay_0 (l g s n : Int) (p : Nat → Int) (w : World) :
    Calls Tryd.prog 56 #[(Ino.mk 0 l g s p n).val] w fun e w' => e = .returned (.bool (decide (Ino.May ⟨0, l, g, s, p, n⟩))) ∧ Below w.heap.size w w' := by
  rw [may_0']
  dsimp only [Ino.val]
  generalize hb0 : (l == 0 && (s == 0 && n == 0)) = b0
  have HB0 := Lib.hid hb0
  clear hb0
  have h00 : Hid (allZ p 0 = true) := rfl
  have fin : ∀ t, Hid (Below w.heap.size w (w.alloc t)) := fun t => (Below.refl _ _).alloc (Nat.le_refl _) _
  have hptr : Hid (∀ k, k < 11 → (w.alloc (.cells (Ino.mk 0 l g s p n).arr 69)).cell? ⟨w.heap.size, 4 + k, none⟩ = some (.int .u32 (p k))) := fun k hk =>
    InoAt.ptr (x := Ino.mk 0 l g s p n) (T := 69) (heap_alloc_new w _) k hk
  have start : (l == 0) = true ∧ (s == 0) = true ∧ (n == 0) = true ∧ b0 = true ∨ (l == 0) = false ∧ b0 = false ∨ (l == 0) = true ∧ (s == 0) = false ∧ b0 = false ∨ (l == 0) = true ∧ (s == 0) = true ∧ (n == 0) = false ∧ b0 = false := by
    have := HB0.out
    cases h1 : (l == 0) <;> cases h2 : (s == 0) <;> cases h3 : (n == 0) <;> rw [h1, h2, h3] at this <;> simp [← this]
  rcases start with ⟨q1, q2, q3, hb⟩ | ⟨q1, hb⟩ | ⟨q1, q2, hb⟩ | ⟨q1, q2, q3, hb⟩
  all_goals
    subst hb
    clear HB0
    go_enter Tryd.func56, Tryd.ntmps56
    go_wp2
    go_loop [3, 4] (fun u i => ∃ k : Nat, k ≤ 11 ∧ i = .int .i64 (k : Int) ∧ ∃ b : Bool, Hid (b = (_ && allZ p k)) ∧ u = .bool b) (fun _ i => 11 - (intOf i).toNat)
    case atStart => exact ⟨0, by omega, rfl, _, (by first | (exact (Bool.true_and _).symm) | (exact (Bool.false_and _).symm)), rfl⟩
    case round =>
      obtain ⟨k, hk, rfl, b, hb, rfl⟩ := hrel
      by_cases hlt : k < 11
      · have hc := hptr.out k hlt
        dsimp only [Ino.arr] at hc
        cases b with
        | false =>
          go_wp2
          go_round
          case rel => exact ⟨k + 1, by omega, by go_num, _, (by show _ = _; rw [allZ_succ, ← Bool.and_assoc, ← hb.out]; rfl), rfl⟩
          case measure => simp [intOf]; omega
        | true =>
          by_cases hp : p k = 0
          · have q : (p k == 0) = true := by simp [hp]
            have HP := Lib.hid hp
            clear hp
            go_wp2
            all_goals
              go_round
              case rel => exact ⟨k + 1, by omega, by go_num, _, (by show _ = _; rw [allZ_succ, ← Bool.and_assoc, ← hb.out, HP.out]; rfl), rfl⟩
              case measure => simp [intOf]; omega
          · have q : (p k == 0) = false := by simp [hp]
            have HP : Hid (decide (p k = 0) = false) := by show _ = _; simp [hp]
            clear hp
            go_wp2
            all_goals
              go_round
              case rel => exact ⟨k + 1, by omega, by go_num, _, (by show _ = _; rw [allZ_succ, ← Bool.and_assoc, ← hb.out, HP.out]; rfl), rfl⟩
              case measure => simp [intOf]; omega
      · obtain rfl : k = 11 := by omega
        go_wp2
        go_ret
        exact ⟨ret_bool hb.out, (fin _).out⟩

set_option maxHeartbeats 4000000 in
theorem rmay_any (x : Ino) (hx : x.Ok) (w : World) :
    Calls Tryd.prog 56 #[x.val] w fun e w' => e = .returned (.bool (decide x.May)) ∧ Below w.heap.size w w' := by
  obtain ⟨k, l, g, s, p, n⟩ := x
  obtain ⟨⟨hk0, hk1⟩, ⟨hl0, hl1⟩, _, ⟨hs0, hs1⟩, _, _⟩ := hx
  dsimp only at hk0 hk1 hl0 hl1 hs0 hs1
  have fin : ∀ t, Hid (Below w.heap.size w (w.alloc t)) := fun t => (Below.refl _ _).alloc (Nat.le_refl _) _
  by_cases k0 : k = 0
  · subst k0
    exact rmay_0 l g s n p w
  dsimp only [Ino.val]
  generalize hD' : decide (Ino.May ⟨k, l, g, s, p, n⟩) = D
  have hD := Lib.hid hD'
  clear hD'
  have q0 : (k == 0) = false := by simp [k0]
  by_cases k1 : k = 1
  · subst k1
    by_cases c1 : 0 ≤ l
    · by_cases c2 : l ≤ 1000
      · by_cases c3 : 0 ≤ s
        · by_cases c4 : s ≤ 16777216
          · have HD : Hid (D = true) := by show D = true; rw [← hD.out, may_1]; simp; omega
            go_enter Tryd.func56, Tryd.ntmps56
            go_wp2
            go_ret
            exact ⟨ret_bool HD.out.symm, (fin _).out⟩
          · have HD : Hid (D = false) := by show D = false; rw [← hD.out, may_1]; simp; omega
            go_enter Tryd.func56, Tryd.ntmps56
            go_wp2
            go_ret
            exact ⟨ret_bool HD.out.symm, (fin _).out⟩
        · have HD : Hid (D = false) := by show D = false; rw [← hD.out, may_1]; simp; omega
          go_enter Tryd.func56, Tryd.ntmps56
          go_wp2
          go_ret
          exact ⟨ret_bool HD.out.symm, (fin _).out⟩
      · have HD : Hid (D = false) := by show D = false; rw [← hD.out, may_1]; simp; omega
        go_enter Tryd.func56, Tryd.ntmps56
        go_wp2
        go_ret
        exact ⟨ret_bool HD.out.symm, (fin _).out⟩
    · have HD : Hid (D = false) := by show D = false; rw [← hD.out, may_1]; simp; omega
      go_enter Tryd.func56, Tryd.ntmps56
      go_wp2
      go_ret
      exact ⟨ret_bool HD.out.symm, (fin _).out⟩
  have q1 : (k == 1) = false := by simp [k1]
  by_cases k2 : k = 2
  · subst k2
    by_cases c1 : l = 1
    · subst c1
      by_cases c2 : 0 ≤ s
      · by_cases c3 : s ≤ 16777216
        · by_cases c4 : s % 256 = 0
          · by_cases c5 : n = 0
            · subst c5
              have HD : Hid (D = true) := by show D = true; rw [← hD.out, may_2]; simp; omega
              have d2 : (s % 256 == 0) = true := by simp [c4]
              clear c4
              go_enter Tryd.func56, Tryd.ntmps56
              go_wp2
              go_ret
              exact ⟨ret_bool HD.out.symm, (fin _).out⟩
            · have HD : Hid (D = false) := by show D = false; rw [← hD.out, may_2]; simp; omega
              have d2 : (s % 256 == 0) = true := by simp [c4]
              have d3 : (n == 0) = false := by simp [c5]
              clear c4 c5
              go_enter Tryd.func56, Tryd.ntmps56
              go_wp2
              go_ret
              exact ⟨ret_bool HD.out.symm, (fin _).out⟩
          · have HD : Hid (D = false) := by show D = false; rw [← hD.out, may_2]; simp; omega
            have d2 : (s % 256 == 0) = false := by simp [c4]
            clear c4
            go_enter Tryd.func56, Tryd.ntmps56
            go_wp2
            go_ret
            exact ⟨ret_bool HD.out.symm, (fin _).out⟩
        · have HD : Hid (D = false) := by show D = false; rw [← hD.out, may_2]; simp; omega
          go_enter Tryd.func56, Tryd.ntmps56
          go_wp2
          go_ret
          exact ⟨ret_bool HD.out.symm, (fin _).out⟩
      · have HD : Hid (D = false) := by show D = false; rw [← hD.out, may_2]; simp; omega
        go_enter Tryd.func56, Tryd.ntmps56
        go_wp2
        go_ret
        exact ⟨ret_bool HD.out.symm, (fin _).out⟩
    · have HD : Hid (D = false) := by show D = false; rw [← hD.out, may_2]; simp; omega
      have d1 : (l == 1) = false := by simp [c1]
      clear c1
      go_enter Tryd.func56, Tryd.ntmps56
      go_wp2
      go_ret
      exact ⟨ret_bool HD.out.symm, (fin _).out⟩
  have q2 : (k == 2) = false := by simp [k2]
  have HD : Hid (D = false) := by show D = false; rw [← hD.out]; exact may_3 _ _ _ _ _ _ (by omega)
  go_enter Tryd.func56, Tryd.ntmps56
  go_wp2
  go_ret
  exact ⟨ret_bool HD.out.symm, (fin _).out⟩
end Go.Proofs.YtopakpmepioomaaDoor
