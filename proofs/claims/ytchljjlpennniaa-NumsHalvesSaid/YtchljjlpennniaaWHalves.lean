/- The walk of the law NumsHalves. -/
import Derived.Test.YtchljjlpennniaaAwake1
import Derived.Test.YtchljjlpennniaaAppendB
import Derived.Test.YtchljjlpennniaaMore
import Derived.Deep.RegionWith
namespace Go.Proofs.Ytchljjlpennniaa
open Go.RowKit
set_option linter.unusedVariables false

set_option maxHeartbeats 1000000 in
theorem numsHalves_walk (a0 : Option Addr) (len0 cap0 : Nat) (z : Nat → Int) (a1 : Int) (w : World) (hr : Row w a0 len0 z) (hz : Byt z) (hl : (len0 : Int) ≤ 9223372036854775807) :
    Calls Try.prog 6 #[.slice a0 len0 cap0, .int .i64 a1] w fun e w' => e = .returned (.bool true) ∧ Below w.heap.size w w' := by
  by_cases hbig : 20000 < len0
  · have hb : decide ((20000 : Int) < (len0 : Int)) = true := by simp; omega
    go_enter Try.func6, Try.ntmps6
    go_wp2_with fail
    refine (awake1_any _).mono ?_
    rintro e w1 ⟨rfl, hb1⟩
    go_wp2_with fail
    go_ret
    exact ⟨rfl, hb1⟩
  have hb : decide ((20000 : Int) < (len0 : Int)) = false := by simp; omega
  by_cases hneg : a1 < 0
  · go_enter Try.func6, Try.ntmps6
    go_wp2_with fail
    refine (awake1_any _).mono ?_
    rintro e w1 ⟨rfl, hb1⟩
    go_wp2_with fail
    go_ret
    exact ⟨rfl, hb1⟩
  by_cases hgt : 20000 < a1
  · go_enter Try.func6, Try.ntmps6
    go_wp2_with fail
    refine (awake1_any _).mono ?_
    rintro e w1 ⟨rfl, hb1⟩
    go_wp2_with fail
    go_ret
    exact ⟨rfl, hb1⟩
  by_cases hok : a1 + 4 ≤ len0
  · have f4 : Hid (fits 4 len0 a1 = true) := fits_yes ⟨by omega, by omega⟩
    have f2 : Hid (fits 2 len0 a1 = true) := fits_yes ⟨by omega, by omega⟩
    have f2' : Hid (fits 2 len0 (a1 + 2) = true) := fits_yes ⟨by omega, by omega⟩
    have heq : Hid (g32 z a1.toNat = g16 z a1.toNat + 65536 * g16 z (a1 + 2).toNat) := by
      show _ = _; rw [show (a1 + 2).toNat = a1.toNat + 2 by omega]; exact g32_halves _ _
    have hx := g16_bd hz a1.toNat
    have hy := g16_bd hz (a1 + 2).toNat
    go_enter Try.func6, Try.ntmps6
    go_wp2_with fail
    refine (awake1_any _).mono ?_
    rintro e w1 ⟨rfl, hb1⟩
    have hr1 := hr.below hb1 (Nat.le_refl _)
    go_wp2_with fail
    refine (get32_any _ _ _ _ z _ hl hr1 hz).mono ?_
    rintro e w' ⟨rfl, rfl⟩
    rw [o32, f4.out, if_pos rfl]
    go_wp2_with fail
    refine (get16_any _ _ _ _ z _ hl hr1 hz).mono ?_
    rintro e w' ⟨rfl, rfl⟩
    rw [o16, f2.out, if_pos rfl]
    go_wp2_with fail
    refine (get16_any _ _ _ _ z _ hl hr1 hz).mono ?_
    rintro e w' ⟨rfl, rfl⟩
    rw [o16, f2'.out, if_pos rfl, heq.out]
    clear heq
    generalize g16 z a1.toNat = x at hx
    generalize g16 z (a1 + 2).toNat = y at hy
    go_wp2_with fail
    go_ret
    exact ⟨rfl, hb1⟩
  · have f4 : Hid (fits 4 len0 a1 = false) := fits_no (by omega)
    have f2 : Hid ((fits 2 len0 a1 && fits 2 len0 (a1 + 2)) = false) := by
      show _ = _; rw [fits_no (at' := a1 + 2) (by omega)]; simp
    go_enter Try.func6, Try.ntmps6
    go_wp2_with fail
    refine (awake1_any _).mono ?_
    rintro e w1 ⟨rfl, hb1⟩
    have hr1 := hr.below hb1 (Nat.le_refl _)
    go_wp2_with fail
    refine (get32_any _ _ _ _ z _ hl hr1 hz).mono ?_
    rintro e w' ⟨rfl, rfl⟩
    rw [o32, f4.out, if_neg (by decide)]
    go_wp2_with fail
    refine (get16_any _ _ _ _ z _ hl hr1 hz).mono ?_
    rintro e w' ⟨rfl, rfl⟩
    go_wp2_with fail
    refine (get16_any _ _ _ _ z _ hl hr1 hz).mono ?_
    rintro e w' ⟨rfl, rfl⟩
    have f3 := f2.out
    generalize fits 2 len0 a1 = p at f3
    generalize fits 2 len0 (a1 + 2) = q at f3
    clear f2
    cases p with
    | false =>
      clear f3
      go_wp2_with fail
      go_ret
      exact ⟨rfl, hb1⟩
    | true =>
      obtain rfl : q = false := by simpa using f3
      clear f3
      go_wp2_with fail
      go_ret
      exact ⟨rfl, hb1⟩
end Go.Proofs.Ytchljjlpennniaa
