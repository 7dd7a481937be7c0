/- The walk of the law NumsNoughts. -/
import Derived.Test.YtchljjlpennniaaAwake1
import Derived.Test.YtchljjlpennniaaMakeB
import Derived.Test.YtchljjlpennniaaAppendB
import Derived.Test.YtchljjlpennniaaMore
import Derived.Deep.RegionWith
namespace Go.Proofs.Ytchljjlpennniaa
open Go.RowKit
set_option linter.unusedVariables false

theorem allZ_set (n k : Nat) (v : Int) (h : k < n) (hv : v ≠ 0) : allZ (over (fun _ => 0) k 1 (fun _ => v)) n = false :=
  allZ_no h (by rw [over_in _ _ _ _ _ ⟨by omega, by omega⟩]; exact hv)

set_option maxHeartbeats 1000000 in
theorem numsNoughts_walk (a0 a1 a2 : Int) (w : World) (h20 : 0 ≤ a2) (h21 : a2 < 256) :
    Calls Try.prog 7 #[.int .i64 a0, .int .i64 a1, .int .u8 a2] w fun e w' => e = .returned (.bool true) ∧ Below w.heap.size w w' := by
  by_cases hneg : a0 < 0
  · go_enter Try.func7, Try.ntmps7
    go_wp2_with fail
    refine (awake1_any _).mono ?_
    rintro e w1 ⟨rfl, hb1⟩
    go_wp2_with fail
    go_ret
    exact ⟨rfl, hb1⟩
  by_cases hgt : 20000 < a0
  · go_enter Try.func7, Try.ntmps7
    go_wp2_with fail
    refine (awake1_any _).mono ?_
    rintro e w1 ⟨rfl, hb1⟩
    go_wp2_with fail
    go_ret
    exact ⟨rfl, hb1⟩
  obtain ⟨n, rfl⟩ := Int.eq_ofNat_of_zero_le (show 0 ≤ a0 by omega)
  have hd0 : decide ((n : Int) < 0) = false := by simp
  have hd1 : decide ((20000 : Int) < (n : Int)) = false := by simp; omega
  have hz0 : Hid (allZ (fun _ => 0) n = true) := (allZ_iff _ _).2 fun _ _ => rfl
  by_cases hq : a1 < 0 ∨ n ≤ a1 ∨ a2 = 0
  · go_enter Try.func7, Try.ntmps7
    go_wp2_with fail
    refine (awake1_any _).mono ?_
    rintro e w1 ⟨rfl, hb1⟩
    have hq' := Lib.hid hq
    clear hq
    go_wp2_with (at_make; refine wp_makeB rfl (.tmp 16) (.tmp 16) rfl w.heap.size n n rfl rfl rfl (by omega) hb1.size ?_)
    intro w2 hm hg
    have hb2 := hb1.grown hg hb1.size (fun k hk => by cases hk)
    clear hg
    go_wp2_with fail
    refine (zero_any _ _ _ _ _ (by omega) hm.row).mono ?_
    rintro e w' ⟨rfl, rfl⟩
    rw [hz0.out]
    by_cases h1 : a1 < 0
    · go_wp2_with fail
      go_ret
      exact ⟨rfl, hb2⟩
    by_cases h2 : n ≤ a1
    · go_wp2_with fail
      go_ret
      exact ⟨rfl, hb2⟩
    · have h3 : (a2 == 0) = true := by have := hq'.out; simp; omega
      go_wp2_with fail
      go_ret
      exact ⟨rfl, hb2⟩
  · obtain ⟨k, rfl⟩ := Int.eq_ofNat_of_zero_le (show 0 ≤ a1 by omega)
    have hkn : k < n := by omega
    have h1 : decide ((k : Int) < 0) = false := by simp
    have h2 : decide ((n : Int) ≤ (k : Int)) = false := by simp; omega
    have h2b : decide (n ≤ k) = false := by simp; omega
    have h3 : (a2 == 0) = false := by simp; omega
    have hz1 : Hid (allZ (over (fun _ => 0) k 1 (fun _ => a2)) n = false) := allZ_set n k a2 hkn (by omega)
    clear hq
    go_enter Try.func7, Try.ntmps7
    go_wp2_with fail
    refine (awake1_any _).mono ?_
    rintro e w1 ⟨rfl, hb1⟩
    go_wp2_with (at_make; refine wp_makeB rfl (.tmp 16) (.tmp 16) rfl w.heap.size n n rfl rfl rfl (by omega) hb1.size ?_)
    intro w2 hm hg
    have hb2 := hb1.grown hg hb1.size (fun k hk => by cases hk)
    clear hg
    rcases hm.parts with ⟨h0, _⟩ | ⟨g, he, hg1, hgl, _, hs, hf⟩
    · cases h0
    have hg0 := hb1.size
    generalize w1.heap.size = gg at he hm hg0 ⊢
    cases he
    have hc := hs k hkn
    have hfz := hf k hkn
    simp only [Nat.zero_add] at hc hfz
    go_wp2_with fail
    refine (zero_any _ _ _ _ _ (by omega) hm.row).mono ?_
    rintro e w' ⟨rfl, rfl⟩
    rw [hz0.out]
    have hp : Puts g (0 + k) 1 (fun _ => a2) w2 (w2.setCell ⟨g, 0 + k, none⟩ (.int .u8 a2)) := (Puts.nil g (0 + k) (fun _ => a2) w2).snoc (by simpa using hc) rfl
    have hs2 := hp.seg (off := 0) (k := k) hs rfl
    have hb3 := hb2.trans (hp.only.below hg1)
    simp only [Nat.zero_add] at hs2 hb3
    clear hp
    go_wp2_with fail
    refine (zero_any _ _ _ _ _ (by omega) (.inr ⟨_, _, rfl, hs2⟩)).mono ?_
    rintro e w' ⟨rfl, rfl⟩
    rw [hz1.out]
    go_wp2_with fail
    go_ret
    exact ⟨rfl, hb3⟩
end Go.Proofs.Ytchljjlpennniaa
