/- The walk of the law NumsPut. -/
import Derived.Test.YtchljjlpennniaaAppendB
import Derived.Deep.RegionWith
namespace Go.Proofs.Ytchljjlpennniaa
open Go.RowKit
set_option linter.unusedVariables false

set_option maxHeartbeats 1000000 in
theorem numsPut_walk (a0 : Option Addr) (len0 cap0 : Nat) (z : Nat → Int) (a1 a2 : Int) (w : World) (hr : Row w a0 len0 z) (hz : Byt z) (hl : (len0 : Int) ≤ 9223372036854775807) (hcap : a0 = none → cap0 = 0)
    (h20 : 0 ≤ a2) (h21 : a2 < 4294967296) :
    Calls Try.prog 3 #[.slice a0 len0 cap0, .int .i64 a1, .int .u32 a2] w fun e w' => e = .returned (.bool true) ∧ Below w.heap.size w w' := by
  by_cases hbig : 20000 < len0
  · have hb : decide ((20000 : Int) < (len0 : Int)) = true := by simp; omega
    go_enter Try.func3, Try.ntmps3
    go_wp2_with fail
    go_ret
    exact ⟨rfl, Below.refl _ _⟩
  have hb : decide ((20000 : Int) < (len0 : Int)) = false := by simp; omega
  go_enter Try.func3, Try.ntmps3
  go_wp2_with fail
  go_loopw [7] (fun k wr => ∃ j : Nat, j ≤ 2 ∧ k = .int .i64 j ∧ Below w.heap.size w wr) (fun k _ => 2 - (intOf k).toNat)
  case atStart => exact ⟨0, by omega, rfl, Below.refl _ _⟩
  case round =>
    obtain ⟨j, hj, rfl, hbl⟩ := hrel
    have hr0 : Row wr a0 len0 z := hr.below hbl (Nat.le_refl _)
    by_cases hlt : j < 2
    · go_wp2_with (at_builtin; refine wp_appendB rfl (.tmp 19) (.tmp 20) rfl w.heap.size _ 0 0 (fun _ => 0) rfl (Mine.made wr w.heap.size _ _ hbl.size) a0 len0 cap0 z rfl hcap (hr0.below ((Below.refl _ _).alloc (Nat.le_refl _) _) (Nat.le_refl _)) (by omega) (by have := hbl.size; simp; omega) ?_)
      intro sa1 cp1 w1 hm1 hg1 _
      have hb1 : Below w.heap.size w w1 := (hbl.alloc hbl.size _).grown hg1 (by have := hbl.size; simp; omega) (fun k hk => by have := hbl.size; cases hk; exact this)
      clear hg1
      go_wp2_with (at_builtin; refine wp_appendB rfl (.tmp 21) (.tmp 22) rfl w.heap.size sa1 len0 cp1 (cat (fun _ => 0) 0 z) rfl (hm1.alloc _) (some ⟨w1.heap.size, 0, none⟩) 5 5 (fun _ => 77) rfl (fun h => by cases h) (row_new _ _ _ _ _ rfl) (by omega) (by have := hb1.size; simp; omega) ?_)
      intro sa2 cp2 w2 hm2 hg2 hne2
      have hb2 : Below w.heap.size w w2 := (hb1.alloc hb1.size _).grown hg2 (by have := hb1.size; simp; omega) (fun k hk => by
        cases sa1 with
        | none => cases hk
        | some x => cases hk; exact (hm1.le x rfl).1)
      clear hg2 hm1 hb1
      have hm2' := hm2.parts
      rcases hm2' with ⟨h0, _⟩ | ⟨g1, rfl, hg1, hg1l, _⟩
      · exact absurd h0 hne2
      clear hne2
      have hr2 : Row w2 a0 len0 z := hr.below hb2 (Nat.le_refl _)
      go_wp2_with (at_builtin; refine wp_appendB rfl (.tmp 24) (.tmp 25) rfl w2.heap.size _ 0 0 (fun _ => 0) rfl (Mine.made w2 w2.heap.size _ _ (Nat.le_refl _)) a0 len0 cap0 z rfl hcap (hr2.below ((Below.refl _ _).alloc (Nat.le_refl _) _) (Nat.le_refl _)) (by omega) (by simp) ?_)
      intro sa3 cp3 w3 hm3 hg3 _
      have hm2 := (hm2.alloc (.cells #[] 5)).grown hg3 (fun x hx e => by cases hx; injection e with e; simp at e; omega)
      have hbb3 : Below w2.heap.size w2 w3 := ((Below.refl _ _).alloc (Nat.le_refl _) _).grown hg3 (by simp) (fun k hk => by cases hk; exact Nat.le_refl _)
      clear hg3
      go_wp2_with (at_builtin; refine wp_appendB rfl (.tmp 26) (.tmp 27) rfl w2.heap.size sa3 len0 cp3 (cat (fun _ => 0) 0 z) rfl (hm3.alloc _) (some ⟨w3.heap.size, 0, none⟩) 5 5 (fun _ => 77) rfl (fun h => by cases h) (row_new _ _ _ _ _ rfl) (by omega) (by have := hbb3.size; simp; omega) ?_)
      intro sa4 cp4 w4 hm4 hg4 hne4
      have hm2 := (hm2.alloc _).grown hg4 (fun x hx e => by
        cases hx
        cases sa3 with
        | none => cases e
        | some y => injection e with e; have := (hm3.le y rfl).1; simp at e; omega)
      have hb4 : Below w.heap.size w w4 := (hb2.trans ((hbb3.alloc hbb3.size _).grown hg4 (by have := hbb3.size; simp; omega) (fun k hk => by
        cases sa3 with
        | none => cases hk
        | some x => cases hk; exact (hm3.le x rfl).1) |>.mono hb2.size))
      clear hg4 hm3 hbb3 hb2
      rcases hm4.parts with ⟨h0, _⟩ | ⟨g2, rfl, hg2, hg2l, hcp4, hs4, hf4⟩
      · exact absurd h0 hne4
      rcases hm2.parts with ⟨h0, _⟩ | ⟨g1', he, _, hg1l', hcp2, hs2, hf2⟩
      · cases h0
      cases he
      clear hne4 hm4 hm2
      have hgne : g2 ≠ g1 := by omega
      have hgne' : g1 ≠ g2 := by omega
      have HN := Lib.hid hgne
      have HN' := Lib.hid hgne'
      clear hgne hgne'
      have hbyt : Byt (cat (cat (fun _ => 0) 0 z) len0 fun _ => 77) := byt_cat (byt_cat (fun _ => ⟨by simp, by simp⟩) hz _) (fun _ => ⟨by simp, by simp⟩) _
      generalize (cat (cat (fun _ => 0) 0 z) len0 fun _ => 77) = y at hs4 hs2 hbyt
      by_cases hj0 : j = 0
      · have hj1 : ((j : Int) == 0) = true := by simp [hj0]
        clear hj0
        go_wp2_with fail
        go_region_with (first | (go_at_call 13; refine (put16_any _ len0 _ _ _ y _ hl (by exact .inr ⟨_, _, rfl, hs2.take _ (by omega)⟩) (by exact fun b off he => by cases he; exact fun i hi => hf2 i (by omega)) h20).mono ?_; rintro e w5 ⟨rfl, hp5⟩) | (go_at_call 14; refine (rput16_any _ len0 _ _ _ y _ hl (by exact .inr ⟨_, _, rfl, (hp5.only.seg HN.out hs4).take _ (by omega)⟩) hbyt (by exact fun b off he => by cases he; exact fun i hi => hp5.only.soft hf4 i (by omega)) h20).mono ?_; rintro e w6 ⟨rfl, hp6⟩))
        all_goals
          go_wp2_with fail
          refine (same_any _ _ _ _ _ _ _ _ (by omega) (.inr ⟨_, _, rfl, hp6.only.seg HN'.out (hp5.seg hs2)⟩) (.inr ⟨_, _, rfl, hp6.seg (hp5.only.seg HN.out hs4)⟩)).mono ?_
          rintro e w' ⟨rfl, m7, rfl⟩
          rw [show eqB _ _ _ = true from (eqB_iff _ _ _).2 fun i _ => rfl]
          go_wp2_with fail
          go_roundw
          case rel => exact ⟨j + 1, by omega, by go_num, bel_drewN ((hb4.drew.trans (hp5.only.below hg1)).trans (hp6.only.below (by omega))) _⟩
          case measure => simp [intOf]; omega
      · have hj1 : ((j : Int) == 0) = false := by simp [hj0]
        clear hj0
        go_wp2_with fail
        go_region_with (first | (go_at_call 15; refine (put32_any _ len0 _ _ _ y _ hl (by exact .inr ⟨_, _, rfl, hs2.take _ (by omega)⟩) (by exact fun b off he => by cases he; exact fun i hi => hf2 i (by omega)) h20).mono ?_; rintro e w5 ⟨rfl, hp5⟩) | (go_at_call 16; refine (rput32_any _ len0 _ _ _ y _ hl (by exact .inr ⟨_, _, rfl, (hp5.only.seg HN.out hs4).take _ (by omega)⟩) hbyt (by exact fun b off he => by cases he; exact fun i hi => hp5.only.soft hf4 i (by omega)) h20 h21).mono ?_; rintro e w6 ⟨rfl, hp6⟩))
        all_goals
          go_wp2_with fail
          refine (same_any _ _ _ _ _ _ _ _ (by omega) (.inr ⟨_, _, rfl, hp6.only.seg HN'.out (hp5.seg hs2)⟩) (.inr ⟨_, _, rfl, hp6.seg (hp5.only.seg HN.out hs4)⟩)).mono ?_
          rintro e w' ⟨rfl, m7, rfl⟩
          rw [show eqB _ _ _ = true from (eqB_iff _ _ _).2 fun i _ => rfl]
          go_wp2_with fail
          go_roundw
          case rel => exact ⟨j + 1, by omega, by go_num, bel_drewN ((hb4.drew.trans (hp5.only.below hg1)).trans (hp6.only.below (by omega))) _⟩
          case measure => simp [intOf]; omega
    · go_wp2_with fail
      go_ret
      exact ⟨rfl, hbl⟩
end Go.Proofs.Ytchljjlpennniaa
