/- The walk of the law NumsGet. -/
import Derived.Test.YtchljjlpennniaaAppendB
import Derived.Deep.RegionWith
namespace Go.Proofs.Ytchljjlpennniaa
open Go.RowKit
set_option linter.unusedVariables false

set_option maxHeartbeats 1000000 in
theorem numsGet_walk (a0 : Option Addr) (len0 cap0 : Nat) (z : Nat → Int) (a1 : Int) (w : World) (hr : Row w a0 len0 z) (hz : Byt z) (hl : (len0 : Int) ≤ 9223372036854775807) (hcap : a0 = none → cap0 = 0) :
    Calls Try.prog 4 #[.slice a0 len0 cap0, .int .i64 a1] w fun e w' => e = .returned (.bool true) ∧ Below w.heap.size w w' := by
  by_cases hbig : 20000 < len0
  · have hb : decide ((20000 : Int) < (len0 : Int)) = true := by simp; omega
    go_enter Try.func4, Try.ntmps4
    go_wp2_with fail
    go_ret
    exact ⟨rfl, Below.refl _ _⟩
  have hb : decide ((20000 : Int) < (len0 : Int)) = false := by simp; omega
  have hcz : Hid (cat (fun _ => 0) 0 z = z) := by show _ = _; funext i; simp [cat]
  go_enter Try.func4, Try.ntmps4
  go_wp2_with (at_builtin; refine wp_appendB rfl _ _ rfl w.heap.size none 0 0 (fun _ => 0) rfl (Mine.nil _ _ _ _) a0 len0 cap0 z rfl hcap hr (by omega) (Nat.le_refl _) ?_)
  intro sa cap1 w1 hm hg _
  rw [hcz.out] at hm
  have hbl : Below w.heap.size w w1 := (Below.refl _ _).grown hg (Nat.le_refl _) (fun k hk => by cases hk)
  have hr1 : Row w1 a0 len0 z := hr.below hbl (Nat.le_refl _)
  have hm1 : Row w1 sa len0 z := hm.row
  clear hm hg
  go_wp2_with fail
  refine (get16_any _ _ _ _ z _ hl hm1 hz).mono ?_
  rintro e w' ⟨rfl, rfl⟩
  go_wp2_with fail
  refine (get32_any _ _ _ _ z _ hl hm1 hz).mono ?_
  rintro e w' ⟨rfl, rfl⟩
  go_wp2_with fail
  refine (rget16_any _ _ _ _ z _ hl hr1 hz).mono ?_
  rintro e w' ⟨rfl, m1, rfl⟩
  go_wp2_with fail
  refine (rget32_any _ _ _ _ z _ hl (hr1.drewN _) hz).mono ?_
  rintro e w' ⟨rfl, m2, rfl⟩
  go_wp2_with fail
  refine (zero_any _ _ _ z _ hl (hm1.drewN _)).mono ?_
  rintro e w' ⟨rfl, rfl⟩
  go_wp2_with fail
  refine (rzero_any _ _ _ z _ hl (hr1.drewN _)).mono ?_
  rintro e w' ⟨rfl, rfl⟩
  go_wp2_with fail
  refine (same_any _ _ _ _ _ z z _ hl (hm1.drewN _) (hr1.drewN _)).mono ?_
  rintro e w' ⟨rfl, m3, rfl⟩
  go_wp2_with fail
  go_ret
  exact ⟨ret_bool ((eqB_iff _ _ _).2 fun i _ => rfl), bel_drewN hbl _⟩

end Go.Proofs.Ytchljjlpennniaa
