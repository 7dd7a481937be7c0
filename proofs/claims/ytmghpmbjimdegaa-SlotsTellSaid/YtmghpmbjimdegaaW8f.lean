/- The walk of the law SlotsTell. -/
import Derived.Test.YtmghpmbjimdegaaR8d
namespace Go.Proofs.Ytmghpmbjimdegaa
open Go.RowKit
set_option linter.unusedVariables false

/-- the block, and the list that the reference told -/
structure TeS (w : World) (z : Nat → Int) (g n cap : Nat) (W : World) : Prop where
  b : Blk W w.heap.size 23 256 z
  l : n = 0 ∨ W.ownsRow (w.heap.size + 1) 33 2 (.slice (some ⟨g, 0, none⟩) n cap) n (Sc (dI z) (dM z) n)
  bel : Below w.heap.size w W
theorem TeS.below {w : World} {z : Nat → Int} {g n cap : Nat} {W W' : World} (h : TeS w z g n cap W) (hb : Below W.heap.size W W') : TeS w z g n cap W' :=
  ⟨h.b.below hb h.b.lt, h.l.imp id (fun h => own_bel h hb), h.bel.trans (hb.mono h.bel.size)⟩

set_option maxRecDepth 100000 in
set_option maxHeartbeats 4000000 in
theorem tell_walk (z : Nat → Int) (hz : Byt z) (s : ByteArray) (hs : s.size ≤ 9223372036854775807) (w : World) :
    Calls Try.prog 3 #[bval z, .string s] w fun e w' => e = .returned (.bool true) ∧ Below w.heap.size w w' := by
  have HS := Lib.hid (B1.new w z)
  go_enter Try.func3, Try.ntmps3
  by_cases h20 : 20000 < s.size
  · have d : (20000 : Int) < s.size := by omega
    go_wp2_with fail
    go_ret
    exact ⟨rfl, HS.out.bel⟩
  have d : ¬ (20000 : Int) < s.size := by omega
  have st0 := HS.out
  have hB := st0.b
  go_wp2_with (first | (refine wp_loadBlkG rfl _ rfl _ _ rfl hB ?_))
  clear hB HS
  generalize w.alloc (.cells (Ks .u8 256 z).toArray 23) = w0 at *
  refine (rList_any z hz _).mono ?_
  rintro e w1 ⟨hb1, hlr⟩
  have st1 := st0.below hb1
  have hsz0 := st0.b.lt
  clear st0 hb1
  rcases hlr with ⟨hd, rfl⟩ | ⟨hd, a, cap, rfl, hown⟩
  · have HD := Lib.hid hd
    have st2 : TeS w z 0 0 0 w1 := ⟨st1.b, .inl rfl, st1.bel⟩
    clear hd st1
    go_wp2_with fail
    go_loopw [7] (fun u wr => ∃ k : Nat, k ≤ 2 ∧ u = .int .i64 (k : Int) ∧ TeS w z 0 0 0 wr) (fun u _ => 2 - (intOf u).toNat)
    case atStart => exact ⟨0, by omega, rfl, st2⟩
    case round =>
      clear st2
      obtain ⟨k, hk, rfl, st⟩ := hrel
      by_cases hlt : k < 2
      · have l1 : (k : Int) < 2 := by omega
        have hB := st.b
        go_wp2_with (first | (refine wp_loadBlkG rfl _ rfl _ _ rfl hB ?_))
        clear hB
        refine (list_any z hz _).mono ?_
        rintro e w2 ⟨hb2, hlr⟩
        have st2 := st.below hb2
        clear st
        rcases hlr with ⟨hd, rfl⟩ | ⟨hd, g2, hg2, rfl, hN⟩
        rotate_left
        · rw [HD.out] at hd; cases hd
        clear hd hb2
        go_wp2_with fail
        refine (rSame_yes none none 0 0 0 noI noN (by decide) _ (.inl rfl) (.inl rfl)).mono ?_
        rintro e w3 ⟨rfl, hb3⟩
        have st3 := st2.below hb3
        clear st2 hb3
        go_wp2_with fail
        go_loopw [10] (fun u wr => u = .int .i64 0 ∧ TeS w z 0 0 0 wr) (fun u _ => 0)
        case atStart => exact ⟨rfl, st3⟩
        case round =>
          clear st3
          obtain ⟨rfl, st⟩ := hrel
          go_wp2_with fail
          go_roundw
          case rel => first | exact ⟨k + 1, by omega, by go_num, st⟩ | ((repeat apply Exists.intro); exact ⟨⟨k + 1, by omega, by go_num, st⟩, rfl⟩)
          case measure => simp [intOf]; omega
      obtain rfl : k = 2 := by omega
      have hB := st.b
      go_wp2_with (first | (refine wp_loadBlkG rfl _ rfl _ _ rfl hB ?_))
      clear hB
      refine (find_any z hz s _).mono ?_
      rintro e w4 ⟨rfl, hb4⟩
      have st4 := st.below hb4
      clear st hb4
      have hB := st4.b
      go_wp2_with (first | (refine wp_loadBlkG rfl _ rfl _ _ rfl hB ?_))
      clear hB
      refine (rFind_any z hz s _).mono ?_
      rintro e w5 ⟨rfl, hb5⟩
      have st5 := st4.below hb5
      clear st4 hb5
      have q1 : (fS z s == fS z s) = true := by simp
      have q2 : (fI z s == fI z s) = true := by simp
      generalize fS z s = f1 at *
      generalize fI z s = f2 at *
      go_wp2_with fail
      refine (mayName_any s hs _).mono ?_
      rintro e w6 ⟨rfl, rfl⟩
      go_wp2_with fail
      refine (rMay_any s hs _).mono ?_
      rintro e w6 ⟨rfl, rfl⟩
      have q3 : (mayB s == mayB s) = true := by simp
      generalize mayB s = m at *
      go_wp2_with fail
      go_ret
      exact ⟨rfl, st5.bel⟩
  · have HD := Lib.hid hd
    obtain ⟨g, rfl, hgb, _⟩ := own_at hown (by decide)
    have st2 : TeS w z g 8 cap w1 := ⟨st1.b, .inr (own_low hown (by omega)), st1.bel⟩
    clear hd st1 hown
    go_wp2_with fail
    go_loopw [7] (fun u wr => ∃ k : Nat, k ≤ 2 ∧ u = .int .i64 (k : Int) ∧ TeS w z g 8 cap wr) (fun u _ => 2 - (intOf u).toNat)
    case atStart => exact ⟨0, by omega, rfl, st2⟩
    case round =>
      clear st2
      obtain ⟨k, hk, rfl, st⟩ := hrel
      by_cases hlt : k < 2
      · have l1 : (k : Int) < 2 := by omega
        have hB := st.b
        go_wp2_with (first | (refine wp_loadBlkG rfl _ rfl _ _ rfl hB ?_))
        clear hB
        refine (list_any z hz _).mono ?_
        rintro e w2 ⟨hb2, hlr⟩
        have st2 := st.below hb2
        have hgl : g < wr.heap.size := by
          rcases st.l with h | h
          · omega
          · exact (World.ownsRow.lt h g rfl).2
        have hbl := st.b.lt
        clear st
        rcases hlr with ⟨hd, rfl⟩ | ⟨hd, g2, hg2, rfl, hN⟩
        · rw [HD.out] at hd; cases hd
        clear hd hb2
        go_wp2_with fail
        refine (rSame_yes (some ⟨g2, 0, none⟩) (some ⟨g, 0, none⟩) 8 8 cap (dI z) (dM z) (by decide) _ (.inr ⟨_, _, rfl, hN.slots⟩) (by
          rcases st2.l with h | h
          · omega
          · exact own_slots h)).mono ?_
        rintro e w3 ⟨rfl, hb3⟩
        have st3 := st2.below hb3
        have hN3 : ∃ cs : Array Value, cs.size = 16 ∧ At w3 g2 63 cs := ⟨_, Sc_size _ _ 8, hN.below hb3 hN.lt⟩
        clear st2 hb3 hN
        go_wp2_with fail
        go_loopw [10] (fun u wr => ∃ j : Nat, j ≤ 8 ∧ u = .int .i64 (j : Int) ∧ TeS w z g 8 cap wr ∧ Hid (∃ cs : Array Value, cs.size = 16 ∧ At wr g2 63 cs)) (fun u _ => 8 - (intOf u).toNat)
        case atStart => exact ⟨0, by omega, rfl, st3, hN3⟩
        case round =>
          clear st3 hN3
          obtain ⟨j, hj, rfl, st, HN⟩ := hrel
          obtain ⟨cs, hcs, hA⟩ := HN.out
          clear HN
          by_cases hj8 : j < 8
          · have m0 : (0 : Int) ≤ (j : Int) := by omega
            have m1 : (j : Int) < 8 := by omega
            obtain ⟨u, hu⟩ : ∃ u, wr.cell? ⟨g2, j * 2 + 1, none⟩ = some u := ⟨_, hA.cell (i := j * 2 + 1) (Array.getElem?_eq_getElem (by omega))⟩
            have hsoft : wr.frozen? ⟨g2, j * 2 + 1, none⟩ = false := soft_of_heap hA _
            have ho := Only.setCell wr ⟨g2, j * 2 + 1, none⟩ (.string ⟨#[115, 112, 111, 105, 108, 116]⟩)
            have st4 : Hid (TeS w z g 8 cap (wr.setCell ⟨g2, j * 2 + 1, none⟩ (.string ⟨#[115, 112, 111, 105, 108, 116]⟩))) := ⟨st.b.only ho (by simp; omega), st.l.imp id (fun h => World.ownsRow.kept h (grown_only ho) (.inr (by simp [Value.ownBlock]; omega))), st.bel.trans (ho.below (by simp; omega))⟩
            have hA4 : Hid (∃ cs : Array Value, cs.size = 16 ∧ At (wr.setCell ⟨g2, j * 2 + 1, none⟩ (.string ⟨#[115, 112, 111, 105, 108, 116]⟩)) g2 63 cs) := ⟨_, by rw [Array.size_setIfInBounds]; exact hcs, hA.setCell _ _⟩
            clear ho
            go_wp2_with (first | (refine wp_store1 rfl 9 _ _ rfl _ _ _ rfl rfl _ hu hsoft info_str rfl ?_))
            have st5 := st4.out
            clear st4 hu hsoft st
            go_roundw
            case rel => first | exact ⟨j + 1, by omega, by go_num, st5, hA4⟩ | ((repeat apply Exists.intro); exact ⟨⟨j + 1, by omega, by go_num, st5, hA4⟩, rfl⟩)
            case measure => simp [intOf]; omega
          · obtain rfl : j = 8 := by omega
            go_wp2_with fail
            go_roundw
            case rel => first | exact ⟨k + 1, by omega, by go_num, st⟩ | ((repeat apply Exists.intro); exact ⟨⟨k + 1, by omega, by go_num, st⟩, rfl⟩)
            case measure => simp [intOf]; omega
      obtain rfl : k = 2 := by omega
      have hB := st.b
      go_wp2_with (first | (refine wp_loadBlkG rfl _ rfl _ _ rfl hB ?_))
      clear hB
      refine (find_any z hz s _).mono ?_
      rintro e w4 ⟨rfl, hb4⟩
      have st4 := st.below hb4
      clear st hb4
      have hB := st4.b
      go_wp2_with (first | (refine wp_loadBlkG rfl _ rfl _ _ rfl hB ?_))
      clear hB
      refine (rFind_any z hz s _).mono ?_
      rintro e w5 ⟨rfl, hb5⟩
      have st5 := st4.below hb5
      clear st4 hb5
      have q1 : (fS z s == fS z s) = true := by simp
      have q2 : (fI z s == fI z s) = true := by simp
      generalize fS z s = f1 at *
      generalize fI z s = f2 at *
      go_wp2_with fail
      refine (mayName_any s hs _).mono ?_
      rintro e w6 ⟨rfl, rfl⟩
      go_wp2_with fail
      refine (rMay_any s hs _).mono ?_
      rintro e w6 ⟨rfl, rfl⟩
      have q3 : (mayB s == mayB s) = true := by simp
      generalize mayB s = m at *
      go_wp2_with fail
      go_ret
      exact ⟨rfl, st5.bel⟩
end Go.Proofs.Ytmghpmbjimdegaa
