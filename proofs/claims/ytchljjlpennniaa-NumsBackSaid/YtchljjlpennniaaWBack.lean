/- The walk of the law NumsBack. -/
import Derived.Test.YtchljjlpennniaaAwake1
import Derived.Test.YtchljjlpennniaaSlice
import Derived.Deep.RegionWith
namespace Go.Proofs.Ytchljjlpennniaa
open Go.RowKit
set_option linter.unusedVariables false

theorem back_eq (z f : Nat → Int) (hz : Byt z) (k j : Nat) : over (over (over z k 4 f) k 2 (byteOf (g32 z k % 65536))) (k + 2) 2 (byteOf (g32 z k / 65536)) j = z j := by
  have hg := g16_bd hz k
  have hh := g32_halves z k
  have e1 : g32 z k % 65536 = g16 z k := by omega
  have e2 : g32 z k / 65536 = g16 z (k + 2) := by omega
  rw [e1, e2]
  by_cases h1 : k + 2 ≤ j ∧ j < k + 2 + 2
  · rw [over_in _ _ _ _ _ h1, byteOf_g16 z hz _ _ (by omega)]; congr 1; omega
  · rw [over_out _ _ _ _ _ (by omega)]
    by_cases h2 : k ≤ j ∧ j < k + 2
    · rw [over_in _ _ _ _ _ h2, byteOf_g16 z hz _ _ (by omega)]; congr 1; omega
    · rw [over_out _ _ _ _ _ (by omega), over_out _ _ _ _ _ (by omega)]

set_option maxHeartbeats 2000000 in
theorem numsBack_walk (a0 : Option Addr) (len0 cap0 : Nat) (z : Nat → Int) (a1 a2 : Int) (w : World) (hr : Row w a0 len0 z) (hz : Byt z) (hl : (len0 : Int) ≤ 9223372036854775807) (hcap : a0 = none → cap0 = 0) (hcap' : len0 ≤ cap0)
    (h20 : 0 ≤ a2) (h21 : a2 < 4294967296) :
    Calls Try.prog 8 #[.slice a0 len0 cap0, .int .i64 a1, .int .u32 a2] w fun e w' => e = .returned (.bool true) ∧ Below w.heap.size w w' := by
  by_cases hbig : 20000 < len0
  · have hb : decide ((20000 : Int) < (len0 : Int)) = true := by simp; omega
    go_enter Try.func8, Try.ntmps8
    go_wp2_with fail
    refine (awake1_any _).mono ?_
    rintro e w1 ⟨rfl, hb1⟩
    go_wp2_with fail
    go_ret
    exact ⟨rfl, hb1⟩
  have hb : decide ((20000 : Int) < (len0 : Int)) = false := by simp; omega
  have hcz : Hid (cat (fun _ => 0) 0 z = z) := by show _ = _; funext i; simp [cat]
  by_cases hok : 0 ≤ a1 ∧ a1 + 4 ≤ len0
  · have f4 : Hid (fits 4 len0 a1 = true) := fits_yes hok
    obtain ⟨hok0, hok1⟩ := hok
    obtain ⟨i, rfl⟩ := Int.eq_ofNat_of_zero_le hok0
    have f2 : Hid (fits 2 len0 (i : Int) = true) := fits_yes ⟨by omega, by omega⟩
    have f2' : Hid (fits 2 len0 ((i : Int) + 2) = true) := fits_yes ⟨by omega, by omega⟩
    go_enter Try.func8, Try.ntmps8
    go_wp2_with fail
    refine (awake1_any _).mono ?_
    rintro e w1 ⟨rfl, hb1⟩
    have hr1 := hr.below hb1 (Nat.le_refl _)
    go_wp2_with (at_builtin; refine wp_appendB rfl _ _ rfl w.heap.size none 0 0 (fun _ => 0) rfl (Mine.nil _ _ _ _) a0 len0 cap0 z rfl hcap hr1 (by omega) hb1.size ?_)
    intro sa cap1 w2 hm hg _
    rw [hcz.out] at hm
    have hb2 := hb1.grown hg hb1.size (fun k hk => by cases hk)
    clear hg hb1
    have hr2 := hr.below hb2 (Nat.le_refl _)
    rcases hm.parts with ⟨_, h0, _⟩ | ⟨g, rfl, hg1, hgl, hc1, hs2, hf2⟩
    · omega
    have hm2 : Row w2 (some ⟨g, 0, none⟩) len0 z := .inr ⟨_, _, rfl, hs2⟩
    clear hm
    go_wp2_with fail
    refine (get32_any _ _ _ _ z _ hl hm2 hz).mono ?_
    rintro e w' ⟨rfl, rfl⟩
    rw [o32, f4.out, if_pos rfl]
    go_wp2_with fail
    refine (put32_any _ _ _ _ _ z _ hl hm2 (fun b off he => by cases he; exact fun i hi => hf2 i (by omega)) h20).mono ?_
    rintro e w3 ⟨rfl, hp⟩
    have hs3 := hp.seg hs2
    rw [f4.out] at hp hs3 ⊢
    rw [if_pos rfl] at hs3
    have hb3 := hb2.trans (hp.only.below hg1)
    have hr3 := hr.below hb3 (Nat.le_refl _)
    have hf3 := hp.only.soft hf2
    clear hp hr2 hm2 hb2 hs2 hf2 hr1
    rw [Int.toNat_natCast] at hs3
    have ho := g32_bd hz i
    have hy := byt_over hz (byt_byteOf a2) i 4
    have he1 : Hid (∀ j, j < i → over z i 4 (byteOf a2) j = z j) := fun j hj => over_out _ _ _ _ _ (by omega)
    have he2 : Hid (∀ j, j < len0 - (i + 4) → over z i 4 (byteOf a2) (i + 4 + j) = z (i + 4 + j)) := fun j hj => over_out _ _ _ _ _ (by omega)
    have he3 : Hid (g32 (over z i 4 (byteOf a2)) i = a2) := g32_over z i a2 h20 h21
    have he4 : Hid (∀ j, over (over (over z i 4 (byteOf a2)) i 2 (byteOf (g32 z i % 65536))) (i + 2) 2 (byteOf (g32 z i / 65536)) j = z j) := fun j => back_eq z _ hz i j
    have hh : (g16 (over z i 4 (byteOf a2)) i + 65536 * g16 (over z i 4 (byteOf a2)) (i + 2) != a2) = false := by
      have := he3.out; rw [g32_halves] at this; rw [this]; simp
    have hlo := g16_bd hy i
    have hhi := g16_bd hy (i + 2)
    generalize over z i 4 (byteOf a2) = y at *
    have hm3 : Row w3 (some ⟨g, 0, none⟩) len0 y := .inr ⟨_, _, rfl, hs3⟩
    go_wp2_with fail
    refine (get32_any _ _ _ _ y _ hl hm3 hy).mono ?_
    rintro e w' ⟨rfl, rfl⟩
    rw [o32, f4.out, if_pos rfl, Int.toNat_natCast, he3.out]
    go_wp2_with fail
    refine (get16_any _ _ _ _ y _ hl hm3 hy).mono ?_
    rintro e w' ⟨rfl, rfl⟩
    rw [o16, f2.out, if_pos rfl, Int.toNat_natCast]
    go_wp2_with fail
    refine (get16_any _ _ _ _ y _ hl hm3 hy).mono ?_
    rintro e w' ⟨rfl, rfl⟩
    rw [o16, f2'.out, if_pos rfl, show ((i : Int) + 2).toNat = i + 2 by omega]
    generalize g16 y i = lo at *
    generalize g16 y (i + 2) = hi at *
    have hsl1 := fun w => run_sl_low (some ⟨g, 0, none⟩) len0 cap1 (i + 4) ((i : Int) + 4) (by omega) (by omega) w
    have hsl2 := fun w => run_sl_low a0 len0 cap0 (i + 4) ((i : Int) + 4) (by omega) (by omega) w
    go_wp2_with fail
    go_quiet (first | (go_at_call 17; exact Calls.quiet_of (same_true _ _ _ _ _ y z _ (by omega) (by exact .inr ⟨_, _, rfl, hs3.take _ (by omega)⟩) (by exact hr3.take _ (by omega)) he1.out)) | (go_at_call 17; exact Calls.quiet_of (same_true _ _ _ _ _ _ _ _ (by omega) (by exact hm3.slice (by omega) hc1) (by exact hr3.slice (by omega) hcap') he2.out)))
    clear hsl1 hsl2
    generalize g32 z i = o at *
    have d1 : 0 ≤ o % 65536 ∧ o % 65536 ≤ 65535 := by omega
    have d2 : 0 ≤ o / 65536 ∧ o / 65536 ≤ 65535 := by omega
    have b1 : (fits 2 len0 (i : Int) && decide (o % 65536 ≤ 65535)) = true := by rw [f2.out]; simp; omega
    have b2 : (fits 2 len0 ((i : Int) + 2) && decide (o / 65536 ≤ 65535)) = true := by rw [f2'.out]; simp; omega
    have B1 := Lib.hid b1
    have B2 := Lib.hid b2
    clear b1 b2
    go_wp2_with fail
    refine (put16_any _ _ _ _ _ y _ hl (by exact hm3) (fun b off he => by cases he; exact fun i hi => hf3 i (by omega)) (by omega)).mono ?_
    rintro e w4 ⟨rfl, hp4⟩
    have hs4 := hp4.seg hs3
    rw [B1.out] at hp4 hs4 ⊢
    rw [if_pos rfl, Int.toNat_natCast] at hs4
    have hb4 := (bel_drewN hb3 nq).trans (hp4.only.below hg1)
    have hf4 := hp4.only.soft hf3
    clear hp4
    go_wp2_with fail
    refine (put16_any _ _ _ _ _ _ _ hl (.inr ⟨_, _, rfl, hs4⟩) (fun b off he => by cases he; exact fun i hi => hf4 i (by omega)) (by omega)).mono ?_
    rintro e w5 ⟨rfl, hp5⟩
    have hs5 := hp5.seg hs4
    rw [B2.out] at hp5 hs5 ⊢
    rw [if_pos rfl, show ((i : Int) + 2).toNat = i + 2 by omega] at hs5
    have hb5 := hb4.trans (hp5.only.below hg1)
    clear hp5
    have hr5 := hr.below hb5 (Nat.le_refl _)
    go_wp2_with fail
    refine (same_true _ _ _ _ _ _ z _ hl (.inr ⟨_, _, rfl, hs5⟩) hr5 (fun j _ => he4.out j)).mono ?_
    rintro e w' ⟨rfl, m, rfl⟩
    go_wp2_with fail
    go_ret
    exact ⟨rfl, bel_drewN hb5 _⟩
  · have f4 : Hid (fits 4 len0 a1 = false) := fits_no hok
    clear hok
    go_enter Try.func8, Try.ntmps8
    go_wp2_with fail
    refine (awake1_any _).mono ?_
    rintro e w1 ⟨rfl, hb1⟩
    have hr1 := hr.below hb1 (Nat.le_refl _)
    go_wp2_with (at_builtin; refine wp_appendB rfl _ _ rfl w.heap.size none 0 0 (fun _ => 0) rfl (Mine.nil _ _ _ _) a0 len0 cap0 z rfl hcap hr1 (by omega) hb1.size ?_)
    intro sa cap1 w2 hm hg _
    rw [hcz.out] at hm
    have hb2 := hb1.grown hg hb1.size (fun k hk => by cases hk)
    clear hg hb1
    have hr2 := hr.below hb2 (Nat.le_refl _)
    have hm2 := hm.row
    have hsoft : SoftRow w2 sa len0 := by
      intro b off he
      rcases hm.parts with ⟨h0, _⟩ | ⟨g, rfl, hg1, hgl, hc1, hs2, hf2⟩
      · rw [h0] at he; cases he
      · cases he; exact fun i hi => hf2 i (by omega)
    go_wp2_with fail
    refine (get32_any _ _ _ _ z _ hl hm2 hz).mono ?_
    rintro e w' ⟨rfl, rfl⟩
    rw [o32, f4.out, if_neg (by decide)]
    go_wp2_with fail
    refine (put32_any _ _ _ _ _ z _ hl hm2 hsoft h20).mono ?_
    rintro e w3 ⟨rfl, hp⟩
    rw [f4.out] at hp ⊢
    obtain ⟨m3, rfl⟩ := hp
    go_wp2_with fail
    refine (same_true _ _ _ _ _ z z _ hl (by exact hm2.drewN m3) (by exact hr2.drewN m3) (fun _ _ => rfl)).mono ?_
    rintro e w' ⟨rfl, m, rfl⟩
    go_wp2_with fail
    go_ret
    exact ⟨rfl, bel_drewN hb2 _⟩
end Go.Proofs.Ytchljjlpennniaa
