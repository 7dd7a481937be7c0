/- strings.IndexByte, slots.MayName. -/
import Derived.Test.YtmghpmbjimdegaaNew
import Derived.Lib.Strings
import Derived.Lib.Slices
import Derived.Lib.Walk
import Derived.Lib.Bytealg
namespace Go.Proofs.Ytmghpmbjimdegaa
open Go.RowKit
set_option linter.unusedVariables false

set_option maxHeartbeats 1000000 in
set_option maxRecDepth 100000 in
theorem lite_IndexByte (s : ByteArray) (c : Int) (w : World) :
    Calls Try.prog 36 #[.string s, .int .u8 c] w fun e w' => e = .returned (.int .i64 (Lib.indexByte s.data.toList c.toNat.toUInt8)) ∧ w' = w := by
  go_enter Try.func36, Try.ntmps36
  go_wp2
  rw [run_callFunc_extern Try.func40 (by kernel_rfl) (by kernel_rfl) (by kernel_rfl) (e := Extern.BytealgIndexByte.indexByte) (by kernel_rfl), Lib.run_indexByteString]
  simp only [Result.andThen]
  rw [Oper.upon_value]
  go_wp2
  go_ret
  exact ⟨rfl, rfl⟩
set_option maxHeartbeats 1000000 in
theorem strings_IndexByte (s : ByteArray) (c : Int) (w : World) :
    Calls Try.prog 29 #[.string s, .int .u8 c] w fun e w' => e = .returned (.int .i64 (Lib.indexByte s.data.toList c.toNat.toUInt8)) ∧ w' = w := by
  go_enter Try.func29, Try.ntmps29
  go_wp2_with fail
  refine (lite_IndexByte _ _ _).mono ?_
  rintro e w' ⟨rfl, rfl⟩
  go_wp2_with fail
  go_ret
  exact ⟨rfl, rfl⟩

/-- may a name be? -/
def mayL (l : List UInt8) : Bool := decide (1 ≤ l.length) && (decide (l.length ≤ 27) && (l != [46] && (l != [46, 46] && (!l.contains 47 && !l.contains 0))))
def mayB (s : ByteArray) : Bool := mayL s.data.toList
theorem indexByte_neg (l : List UInt8) (c : UInt8) : decide (Lib.indexByte l c < 0) = !l.contains c := by
  induction l with
  | nil => rfl
  | cons b l ih =>
    have hge := Lib.indexByte_ge l c
    unfold Lib.indexByte
    by_cases hb : (b == c) = true
    · have : b = c := by simpa using hb
      subst this; simp
    · have hb' : (b == c) = false := by simpa using hb
      have hcb : (c == b) = false := by rw [beq_eq_false_iff_ne] at hb' ⊢; exact fun h => hb' h.symm
      rw [List.contains_cons, hcb, Bool.false_or, ← ih, hb']
      simp only [Bool.false_eq_true, if_false]
      split
      · rename_i h1; have h2 := beq_iff_eq.1 h1; rw [h2]
      · rename_i h1
        have : Lib.indexByte l c ≠ -1 := by simpa using h1
        rw [decide_eq_false (by omega), decide_eq_false (by omega)]
set_option maxHeartbeats 1000000 in
theorem mayName_any (s : ByteArray) (hs : s.size ≤ 9223372036854775807) (w : World) : Calls Try.prog 15 #[.string s] w fun e w' => e = .returned (.bool (mayB s)) ∧ w = w' := by
  have hsz : s.size = s.toList.length := by rw [ByteArray.toList_eq]; rfl
  have hM : mayB s = (decide (1 ≤ s.toList.length) && (decide (s.toList.length ≤ 27) && (s.toList != [46] && (s.toList != [46, 46] && (!s.toList.contains 47 && !s.toList.contains 0))))) := by unfold mayB mayL; rw [ByteArray.toList_eq]
  have HM := Lib.hid hM
  have HZ := Lib.hid hsz
  clear hM hsz
  go_enter Try.func15, Try.ntmps15
  by_cases h1 : 1 ≤ s.size
  rotate_left
  · have d1 : (s.size : Int) < 1 := by omega
    have HN : Hid (mayB s = false) := by show _ = _; rw [HM.out, ← HZ.out, decide_eq_false h1]; rfl
    go_wp2_with fail
    go_ret
    exact ⟨by rw [HN.out]; rfl, rfl⟩
  have d1 : ¬ (s.size : Int) < 1 := by omega
  by_cases h2 : s.size ≤ 27
  rotate_left
  · have d2 : (27 : Int) < s.size := by omega
    have HN : Hid (mayB s = false) := by show _ = _; rw [HM.out, ← HZ.out, decide_eq_false h2]; simp
    go_wp2_with fail
    go_ret
    exact ⟨by rw [HN.out]; rfl, rfl⟩
  have d2 : ¬ (27 : Int) < s.size := by omega
  cases h3 : s.toList == [46] with
  | true =>
    have HN : Hid (mayB s = false) := by show _ = _; rw [HM.out, bne, h3]; simp
    go_wp2_with fail
    go_ret
    exact ⟨by rw [HN.out]; rfl, rfl⟩
  | false =>
  cases h4 : s.toList == [46, 46] with
  | true =>
    have HN : Hid (mayB s = false) := by show _ = _; rw [HM.out, bne, bne, h4]; simp
    go_wp2_with fail
    go_ret
    exact ⟨by rw [HN.out]; rfl, rfl⟩
  | false =>
  have HY : Hid (mayB s = (!s.data.toList.contains 47 && !s.data.toList.contains 0)) := by
    show _ = _
    rw [HM.out, ← HZ.out, bne, bne, h3, h4, decide_eq_true h1, decide_eq_true h2, ByteArray.toList_eq]; rfl
  go_wp2_with fail
  refine (strings_IndexByte _ _ _).mono ?_
  rintro e w' ⟨rfl, rfl⟩
  have e1 := indexByte_neg s.data.toList 47
  have e2 := indexByte_neg s.data.toList 0
  rw [show ((47 : Int).toNat.toUInt8) = 47 from rfl]
  generalize Lib.indexByte s.data.toList 47 = k1 at *
  cases hc : s.data.toList.contains 47 with
  | true =>
    rw [hc] at e1 HY
    have q : ¬ k1 < 0 := by simpa using e1
    clear e1 hc
    go_wp2_with fail
    go_ret
    exact ⟨by rw [HY.out]; rfl, rfl⟩
  | false =>
    rw [hc] at e1 HY
    have q : k1 < 0 := by simpa using e1
    clear e1 hc
    go_wp2_with fail
    refine (strings_IndexByte _ _ _).mono ?_
    rintro e w' ⟨rfl, rfl⟩
    rw [show ((0 : Int).toNat.toUInt8) = 0 from rfl]
    generalize Lib.indexByte s.data.toList 0 = k2 at *
    have E2 := Lib.hid e2
    clear e2
    go_wp2_with fail
    go_ret
    exact ⟨by rw [HY.out, ← E2.out]; rfl, rfl⟩
end Go.Proofs.Ytmghpmbjimdegaa
