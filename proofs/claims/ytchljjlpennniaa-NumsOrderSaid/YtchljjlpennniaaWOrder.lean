/- The walk of the law NumsOrder. -/
import Derived.Test.YtchljjlpennniaaAwake1
import Derived.Test.YtchljjlpennniaaPutsIf
import Derived.Deep.RegionWith
namespace Go.Proofs.Ytchljjlpennniaa
open Go.RowKit
set_option linter.unusedVariables false

theorem order_eq (z f g : Nat → Int) (i k : Nat) (h : i + 4 ≤ k) (p q : Bool) (j : Nat) :
    (if q then over (if p then over z i 4 f else z) k 4 g else (if p then over z i 4 f else z)) j = (if p then over (if q then over z k 4 g else z) i 4 f else (if q then over z k 4 g else z)) j := by
  cases p <;> cases q <;> simp only [if_true, if_false, Bool.false_eq_true]
  by_cases h1 : k ≤ j ∧ j < k + 4
  · rw [over_in _ _ _ _ _ h1, over_out _ _ _ _ _ (by omega), over_in _ _ _ _ _ h1]
  · rw [over_out _ _ _ _ _ (by omega)]
    by_cases h2 : i ≤ j ∧ j < i + 4
    · rw [over_in _ _ _ _ _ h2, over_in _ _ _ _ _ h2]
    · rw [over_out _ _ _ _ _ (by omega), over_out _ _ _ _ _ (by omega), over_out _ _ _ _ _ (by omega)]
theorem order_get (z f : Nat → Int) (i k : Nat) (h : i + 4 ≤ k) (q : Bool) (u : Int) (h0 : 0 ≤ u) (h1 : u < 4294967296) :
    g32 (if q then over (over z i 4 (byteOf u)) k 4 f else over z i 4 (byteOf u)) i = u := by
  cases q <;> simp only [if_true, if_false, Bool.false_eq_true]
  · exact g32_over z i u h0 h1
  · rw [g32_out _ _ _ _ _ (by omega)]; exact g32_over z i u h0 h1
theorem byt_if {z y : Nat → Int} (c : Bool) (hz : Byt z) (hy : Byt y) : Byt (if c then z else y) := by cases c <;> simp [hz, hy]

set_option maxHeartbeats 2000000 in
theorem numsOrder_walk (a0 : Option Addr) (len0 cap0 : Nat) (z : Nat → Int) (a1 a2 a3 a4 : Int) (w : World) (hr : Row w a0 len0 z) (hz : Byt z) (hl : (len0 : Int) ≤ 9223372036854775807) (hcap : a0 = none → cap0 = 0)
    (hi0 : -9223372036854775808 ≤ a2) (h30 : 0 ≤ a3) (h31 : a3 < 4294967296) (h40 : 0 ≤ a4) (h41 : a4 < 4294967296) :
    Calls Try.prog 9 #[.slice a0 len0 cap0, .int .i64 a1, .int .i64 a2, .int .u32 a3, .int .u32 a4] w fun e w' => e = .returned (.bool true) ∧ Below w.heap.size w w' := by
  by_cases hbig : 20000 < len0
  · have hb : decide ((20000 : Int) < (len0 : Int)) = true := by simp; omega
    go_enter Try.func9, Try.ntmps9
    go_wp2_with fail
    refine (awake1_any _).mono ?_
    rintro e w1 ⟨rfl, hb1⟩
    go_wp2_with fail
    go_ret
    exact ⟨rfl, hb1⟩
  have hb : decide ((20000 : Int) < (len0 : Int)) = false := by simp; omega
  by_cases c1 : a1 < 0
  · go_enter Try.func9, Try.ntmps9
    go_wp2_with fail
    refine (awake1_any _).mono ?_
    rintro e w1 ⟨rfl, hb1⟩
    go_wp2_with fail
    go_ret
    exact ⟨rfl, hb1⟩
  by_cases c2 : 20000 < a1
  · go_enter Try.func9, Try.ntmps9
    go_wp2_with fail
    refine (awake1_any _).mono ?_
    rintro e w1 ⟨rfl, hb1⟩
    go_wp2_with fail
    go_ret
    exact ⟨rfl, hb1⟩
  by_cases c3 : a2 < a1
  · go_enter Try.func9, Try.ntmps9
    go_wp2_with fail
    refine (awake1_any _).mono ?_
    rintro e w1 ⟨rfl, hb1⟩
    go_wp2_with fail
    go_ret
    exact ⟨rfl, hb1⟩
  by_cases c4 : 20000 < a2
  · go_enter Try.func9, Try.ntmps9
    go_wp2_with fail
    refine (awake1_any _).mono ?_
    rintro e w1 ⟨rfl, hb1⟩
    go_wp2_with fail
    go_ret
    exact ⟨rfl, hb1⟩
  by_cases c5 : a2 - a1 < 4
  · go_enter Try.func9, Try.ntmps9
    go_wp2_with fail
    refine (awake1_any _).mono ?_
    rintro e w1 ⟨rfl, hb1⟩
    go_wp2_with fail
    go_ret
    exact ⟨rfl, hb1⟩
  obtain ⟨i, rfl⟩ := Int.eq_ofNat_of_zero_le (show 0 ≤ a1 by omega)
  obtain ⟨k, rfl⟩ := Int.eq_ofNat_of_zero_le (show 0 ≤ a2 by omega)
  have e1 : decide ((i : Int) < 0) = false := by simp
  have e2 : decide ((20000 : Int) < (i : Int)) = false := by simp; omega
  have e3 : decide (k < i) = false := by simp; omega
  have e4 : decide ((20000 : Int) < (k : Int)) = false := by simp; omega
  have e5 : decide ((k : Int) - (i : Int) < 4) = false := by simp; omega
  have hik : i + 4 ≤ k := by omega
  have hk2 : (k : Int) ≤ 20000 := by omega
  have hi2 : (i : Int) ≤ 20000 := by omega
  clear c1 c2 c3 c4 c5
  have hcz : Hid (cat (fun _ => 0) 0 z = z) := by show _ = _; funext i; simp [cat]
  have HXY : Hid (∀ (p q : Bool) (j : Nat), (if q then over (if p then over z i 4 (byteOf a3) else z) k 4 (byteOf a4) else (if p then over z i 4 (byteOf a3) else z)) j = (if p then over (if q then over z k 4 (byteOf a4) else z) i 4 (byteOf a3) else (if q then over z k 4 (byteOf a4) else z)) j) := fun p q j => order_eq z _ _ i k hik p q j
  have HG : Hid (∀ q : Bool, g32 (if q then over (over z i 4 (byteOf a3)) k 4 (byteOf a4) else over z i 4 (byteOf a3)) i = a3) := fun q => order_get z _ i k hik q a3 h30 h31
  go_enter Try.func9, Try.ntmps9
  go_wp2_with fail
  refine (awake1_any _).mono ?_
  rintro e w1 ⟨rfl, hb1⟩
  have hr1 := hr.below hb1 (Nat.le_refl _)
  go_wp2_with (at_builtin; refine wp_appendB rfl (.tmp 48) (.tmp 49) rfl w.heap.size none 0 0 (fun _ => 0) rfl (Mine.nil _ _ _ _) a0 len0 cap0 z rfl hcap hr1 (by omega) hb1.size ?_)
  intro sa capx w2 hmx hg2 _
  rw [hcz.out] at hmx
  have hb2 := hb1.grown hg2 hb1.size (fun k hk => by cases hk)
  clear hg2 hb1 hr1
  have hr2 := hr.below hb2 (Nat.le_refl _)
  go_wp2_with (at_builtin; refine wp_appendB rfl (.tmp 51) (.tmp 52) rfl w2.heap.size none 0 0 (fun _ => 0) rfl (Mine.nil _ _ _ _) a0 len0 cap0 z rfl hcap hr2 (by omega) (Nat.le_refl _) ?_)
  intro sb capy w3 hmy hg3 _
  rw [hcz.out] at hmy
  have hb3 := hb2.grown hg3 hb2.size (fun k hk => by cases hk)
  have hxl := hmx.le
  have hyl := hmy.le
  have hmx := hmx.grown hg3 (fun _ _ h => by cases h)
  have hsz := hb2.size
  clear hg3 hb2 hr2
  have hx : Row w3 sa len0 z := hmx.row
  have hy : Row w3 sb len0 z := hmy.row
  have hfx := hmx.soft
  have hfy := hmy.soft
  have hxb : Hid (∀ x, sa = some x → w.heap.size ≤ x.block) := fun x h => (hxl x h).1
  have hyb : Hid (∀ x, sb = some x → w.heap.size ≤ x.block) := fun x h => by have := (hyl x h).1; omega
  have hne1 : Hid (∀ p q, sa = some p → sb = some q → q.block ≠ p.block) := fun p q h1 h2 => by have := hxl p h1; have := hyl q h2; omega
  have hne2 : Hid (∀ p q, sb = some p → sa = some q → q.block ≠ p.block) := fun p q h1 h2 => by have := hyl p h1; have := hxl q h2; omega
  clear hmx hmy hxl hyl
  go_wp2_with fail
  refine (put32_any _ _ _ _ _ z _ hl hx hfx h30).mono ?_
  rintro e w4 ⟨rfl, hp4⟩
  have hx := hp4.row hx
  have hy := hp4.other hy hne1.out
  have hfx := hp4.soft hfx
  have hfy := hp4.soft hfy
  have hb4 := hb3.trans (hp4.below hxb.out)
  clear hp4 hb3
  go_wp2_with fail
  refine (put32_any _ _ _ _ _ _ _ hl hx hfx h40).mono ?_
  rintro e w5 ⟨rfl, hp5⟩
  have hx := hp5.row hx
  have hy := hp5.other hy hne1.out
  have hfx := hp5.soft hfx
  have hfy := hp5.soft hfy
  have hb5 := hb4.trans (hp5.below hxb.out)
  clear hp5 hb4
  go_wp2_with fail
  refine (put32_any _ _ _ _ _ _ _ hl hy hfy h40).mono ?_
  rintro e w6 ⟨rfl, hp6⟩
  have hy := hp6.row hy
  have hx := hp6.other hx hne2.out
  have hfx := hp6.soft hfx
  have hfy := hp6.soft hfy
  have hb6 := hb5.trans (hp6.below hyb.out)
  clear hp6 hb5
  go_wp2_with fail
  refine (put32_any _ _ _ _ _ _ _ hl hy hfy h30).mono ?_
  rintro e w7 ⟨rfl, hp7⟩
  have hy := hp7.row hy
  have hx := hp7.other hx hne2.out
  have hb7 := hb6.trans (hp7.below hyb.out)
  clear hp7 hb6 hfx hfy
  simp only [Int.toNat_natCast] at hx hy
  have HXY := HXY.out (fits 4 len0 (i : Int)) (fits 4 len0 (k : Int))
  have HGG : Hid (fits 4 len0 (i : Int) = true → g32 (if fits 4 len0 (k : Int) = true then over (if fits 4 len0 (i : Int) = true then over z i 4 (byteOf a3) else z) k 4 (byteOf a4) else (if fits 4 len0 (i : Int) = true then over z i 4 (byteOf a3) else z)) i = a3) := by
    intro h; rw [h]; simp only [if_true]; exact HG.out _
  have hyx : Byt (if fits 4 len0 (k : Int) = true then over (if fits 4 len0 (i : Int) = true then over z i 4 (byteOf a3) else z) k 4 (byteOf a4) else (if fits 4 len0 (i : Int) = true then over z i 4 (byteOf a3) else z)) := by
    exact byt_if _ (byt_over (byt_if _ (byt_over hz (byt_byteOf _) _ _) hz) (byt_byteOf _) _ _) (byt_if _ (byt_over hz (byt_byteOf _) _ _) hz)
  generalize hX : (if fits 4 len0 (k : Int) = true then over (if fits 4 len0 (i : Int) = true then over z i 4 (byteOf a3) else z) k 4 (byteOf a4) else (if fits 4 len0 (i : Int) = true then over z i 4 (byteOf a3) else z)) = X at *
  generalize hY : (if fits 4 len0 (i : Int) = true then over (if fits 4 len0 (k : Int) = true then over z k 4 (byteOf a4) else z) i 4 (byteOf a3) else (if fits 4 len0 (k : Int) = true then over z k 4 (byteOf a4) else z)) = Y at *
  clear hX hY HG
  have HE := Lib.hid HXY
  clear HXY
  have p0 : (fits 4 len0 (i : Int) != fits 4 len0 (i : Int)) = false := by simp
  have q0 : (fits 4 len0 (k : Int) != fits 4 len0 (k : Int)) = false := by simp
  go_wp2_with fail
  go_loopw [17] (fun t wr => ∃ j : Nat, j ≤ len0 ∧ t = .int .i64 j ∧ ∃ m, wr = w7.drewN m) (fun t _ => len0 - (intOf t).toNat)
  case atStart => exact ⟨0, by omega, rfl, 0, rfl⟩
  case round =>
    obtain ⟨j, hj, rfl, m, rfl⟩ := hrel
    by_cases hlt : j < len0
    · obtain ⟨b1, o1, rfl, hsx⟩ := hx.at (by omega)
      obtain ⟨b2, o2, rfl, hsy⟩ := hy.at (by omega)
      have hc := hsx j hlt
      have hc' := hsy j hlt
      have hq : (X j != Y j) = false := by rw [HE.out j]; simp
      go_wp2_with fail
      go_quiet (fail)
      go_wp2_with fail
      go_roundw
      case rel => exact ⟨j + 1, by omega, by go_num, m + nq, by simp⟩
      case measure => simp [intOf]; omega
    · go_wp2_with fail
      refine (get32_any _ _ _ _ X _ hl (by exact hx) hyx).mono ?_
      rintro e w' ⟨rfl, rfl⟩
      rw [o32]
      have HGG' := HGG.out
      clear HGG
      generalize fits 4 len0 (i : Int) = p at *
      cases p with
      | false =>
        clear HGG'
        go_wp2_with fail
        go_ret
        exact ⟨rfl, bel_drewN hb7 _⟩
      | true =>
        rw [if_pos rfl, Int.toNat_natCast, HGG' rfl]
        clear HGG'
        go_wp2_with fail
        go_ret
        exact ⟨rfl, bel_drewN hb7 _⟩
end Go.Proofs.Ytchljjlpennniaa
