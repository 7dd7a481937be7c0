/- The walk of the law SlotsGone. -/
import Derived.Test.YtmghpmbjimdegaaS8i
namespace Go.Proofs.Ytmghpmbjimdegaa
open Go.RowKit
set_option linter.unusedVariables false

/-- the blocks, and the slots that were told first -/
structure GnS (w : World) (z zc : Nat → Int) (gc g : Nat) (W : World) : Prop extends B2 w z zc gc W where
  s1 : SlSeg W g 0 8 (dI z) (dM z)
  ne : g ≠ gc
  glt : g < W.heap.size
theorem GnS.drew {w : World} {z zc : Nat → Int} {gc g : Nat} {W : World} (h : GnS w z zc gc g W) : GnS w z zc gc g W.drew := ⟨h.toB2.drew, h.s1, h.ne, h.glt⟩
theorem GnS.below {w : World} {z zc : Nat → Int} {gc g : Nat} {W W' : World} (h : GnS w z zc gc g W) (hb : Below W.heap.size W W') : GnS w z zc gc g W' := ⟨h.toB2.below hb, h.s1.below hb h.glt, h.ne, by have := h.glt; have := hb.size; omega⟩
theorem GnS.put {w : World} {z zc zd : Nat → Int} {gc g : Nat} {W W' : World} (h : GnS w z zc gc g W) (hlt : g < gc) (hB : Blk W' gc 23 256 zd) (hg : W.grownBy W' (some gc)) : GnS w z zd gc g W' := by
  have hb : Below gc W W' := (Below.refl gc W).grown hg (by have := h.c.lt; omega) (fun k e => by cases e; exact Nat.le_refl _)
  exact ⟨h.toB2.put hB hg, h.s1.below hb hlt, h.ne, by have := h.glt; have := hb.size; omega⟩
structure GnM (w : World) (z zc : Nat → Int) (gc g g2 : Nat) (W : World) : Prop extends GnS w z zc gc g W where
  s2 : SlSeg W g2 0 8 (dI zc) (dM zc)
theorem GnM.drew {w : World} {z zc : Nat → Int} {gc g g2 : Nat} {W : World} (h : GnM w z zc gc g g2 W) : GnM w z zc gc g g2 W.drew := ⟨h.toGnS.drew, h.s2⟩

set_option maxRecDepth 100000 in
set_option maxHeartbeats 4000000 in
theorem gone8_walk (z : Nat → Int) (hz : Byt z) (s t : ByteArray) (hs : s.size ≤ 9223372036854775807) (ht : t.size ≤ 9223372036854775807) (ino : Int) (hi : 0 ≤ ino ∧ ino < 4294967296) (w : World) :
    Calls Try.prog 9 #[bval z, .string s, .string t, .int .u32 ino] w fun e w' => e = .returned (.bool true) ∧ Below w.heap.size w w' := by
  obtain ⟨hi0, hi1⟩ := hi
  have hal := zero_block
  go_enter Try.func9, Try.ntmps9
  go_wp2_with fail
  refine (awake8 _).mono ?_
  rintro e w1 ⟨rfl, hL1⟩
  have st1 := (B1.new w z).below hL1
  clear hL1
  have hB := st1.b
  go_wp2_with (first | (refine wp_loadBlkG rfl _ rfl _ _ rfl hB ?_))
  clear hB
  refine (list_any z hz _).mono ?_
  rintro e w2 ⟨hb2, hlr⟩
  have st2 := st1.below hb2
  have hB := st2.b
  have hsz1 := st1.b.lt
  clear st1
  rcases hlr with ⟨hd, rfl⟩ | ⟨hd, g, hg, rfl, hA⟩
  · clear hd hb2
    go_wp2_with (first | (refine wp_loadBlkG rfl _ rfl _ _ rfl hB ?_))
    clear hB
    refine (find_any z hz s _).mono ?_
    rintro e w3 ⟨rfl, hb3⟩
    have st3 := st2.below hb3
    clear st2 hb3
    generalize fS z s = f at *
    generalize fI z s = f2 at *
    go_wp2_with fail
    go_ret
    exact ⟨rfl, st3.bel⟩
  have hglt := hA.lt
  go_wp2_with (first | (refine wp_loadBlkG rfl _ rfl _ _ rfl hB ?_))
  clear hB
  refine (find_any z hz s _).mono ?_
  rintro e w3 ⟨rfl, hb3⟩
  have st3 := st2.below hb3
  have hA3 := hA.below hb3 hglt
  have hsz3 := hb3.size
  clear st2 hA hb2 hb3
  generalize fI z s = f2 at *
  rcases fS_ge z s with ⟨h1, h2⟩ | ⟨h1, h2⟩
  · clear h1
    rw [h2]
    clear h2
    go_wp2_with fail
    go_ret
    exact ⟨rfl, st3.bel⟩
  have HRB := Lib.hid h1
  obtain ⟨a, rm⟩ := rem_law h1
  have HRM := Lib.hid rm
  rw [rm.at_]
  clear h1 h2 rm
  go_wp2_with fail
  refine (mayName_any t ht _).mono ?_
  rintro e w4 ⟨rfl, rfl⟩
  cases hm : mayB t with
  | false =>
    clear hm
    go_wp2_with fail
    go_ret
    exact ⟨rfl, st3.bel⟩
  | true =>
  have HM := Lib.hid hm
  clear hm
  cases hin : (ino == 0) with
  | true =>
    go_wp2_with fail
    go_ret
    exact ⟨rfl, st3.bel⟩
  | false =>
  have HN0 : Hid (ino ≠ 0) := by show _ ≠ _; simpa using hin
  have hB := st3.b
  go_wp2_with (first | (refine wp_loadBlkG rfl _ rfl _ _ rfl hB ?_))
  clear hB
  refine (find8_any z hz t _).mono ?_
  rintro e w5 ⟨rfl, hb5⟩
  have st5 := st3.below hb5
  have hA5 := hA3.below hb5 hA3.lt
  have hsz5 := hb5.size
  clear st3 hA3 hb5
  cases hrt : remB z t with
  | true =>
    clear hrt
    go_wp2_with fail
    go_ret
    exact ⟨rfl, st5.bel⟩
  | false =>
  obtain ⟨a', k, gn⟩ := gone_law ⟨hi0, hi1⟩ HRB.out HM.out HN0.out hrt
  have haa : a' = a := by have h1 := gn.rm.at_; have h2 := HRM.out.at_; rw [h1] at h2; omega
  subst haa
  have HG := Lib.hid gn
  clear gn HRM hrt
  have hn5 := Blk.new w5 23 256 (fun _ => 0)
  have hB := st5.b
  go_wp2_with (first | (refine wp_loadBlkG rfl _ rfl _ _ rfl hB ?_) | (refine wp_storeBlk rfl _ _ rfl w5.heap.size z _ rfl rfl hn5 ?_))
  intro w6 hB6 ho6
  have hg5 := hA5.lt
  have st6 : GnS w z z w5.heap.size g w6 := ⟨st5.copy hB6 ho6, ((hA5.alloc (.cells (Ks .u8 256 (fun _ => 0)).toArray 23)).only ho6 (by omega)).slots, by omega, by have := ho6.size; simp at this; omega⟩
  clear hB hn5 hB6 ho6 hA5 st5
  generalize w5.heap.size = G at *
  go_wp2_with fail
  refine (rem_any G z hz s _ st6.c).mono ?_
  rintro e w7 ⟨rfl, hB7, hg7⟩
  have st7 := st6.put hg5 hB7 hg7
  rw [HRB.out]
  clear st6 hB7 hg7
  have hz1 := byt_remZ hz s
  have hB := st7.c
  go_wp2_with (first | (refine wp_loadBlkG rfl _ rfl _ _ rfl hB ?_))
  clear hB
  refine (find8_any _ hz1 s _).mono ?_
  rintro e w8 ⟨rfl, hb8⟩
  rw [remB_no HG.out.rm.gone]
  have st8 := st7.below hb8
  clear st7 hb8
  go_wp2_with fail
  refine (rem_any G _ hz1 s _ st8.c).mono ?_
  rintro e w9 ⟨rfl, hB9, hg9⟩
  rw [show remZ (remZ z s) s = remZ z s by unfold remZ; rw [show remB (if remB z s then putS z (fS z s).toNat (fun _ => 0) else z) s = false from remB_no HG.out.rm.gone]; rfl] at hB9
  have st9 := st8.put hg5 hB9 hg9
  rw [remB_no HG.out.rm.gone]
  clear st8 hB9 hg9
  go_wp2_with fail
  have ha8 := HG.out.rm.lt
  have hka := HG.out.le
  go_loopw [14] (fun u wr => ∃ i : Nat, i ≤ k ∧ u = .int .i64 (i : Int) ∧ GnS w z (remZ z s) G g wr) (fun u _ => 8 - (intOf u).toNat)
  case atStart => exact ⟨0, by omega, rfl, st9⟩
  case round =>
    clear st9
    obtain ⟨i, hik, rfl, st⟩ := hrel
    have l0 : (0 : Int) ≤ (i : Int) := by omega
    have l1 : (i : Int) < 8 := by omega
    have c1 : wr.cell? ⟨g, i * 2, none⟩ = some (.int .u32 (dI z i)) := by have := (st.s1 i (by omega)).1; rwa [Nat.zero_add] at this
    by_cases hlt : i < k
    · have l2 : (i : Int) < (a' : Int) := by omega
      have q0 : (dI z i != 0) = true := by simpa using HG.out.ahead i hlt
      go_wp2_with fail
      go_roundw
      case rel => first | exact ⟨i + 1, by omega, by go_num, st⟩ | ((repeat apply Exists.intro); exact ⟨⟨i + 1, by omega, by go_num, st⟩, rfl⟩)
      case measure => simp [intOf]; omega
    · obtain rfl : i = k := by omega
      have hside : (∃ (_ : (i : Int) < (a' : Int)), (dI z i != 0) = false) ∨ ¬ ((i : Int) < (a' : Int)) := by
        by_cases h : i < a'
        · exact .inl ⟨by omega, by simpa using HG.out.stop h⟩
        · exact .inr (by omega)
      have hz2 := byt_addZ hz1 t ino
      rcases hside with ⟨l2, q0⟩ | l2
      all_goals
        go_wp2_with fail
        refine (add_any G _ hz1 t ht ino ⟨hi0, hi1⟩ _ st.c).mono ?_
        rintro e w10 ⟨rfl, hB10, hg10⟩
        have st10 := st.put hg5 hB10 hg10
        rw [HG.out.e]
        clear st hB10 hg10 c1
        have hB := st10.c
        go_wp2_with (first | (refine wp_loadBlkG rfl _ rfl _ _ rfl hB ?_))
        clear hB
        refine (find_any _ hz2 t _).mono ?_
        rintro e w11 ⟨rfl, hb11⟩
        have st11 := st10.below hb11
        rw [HG.out.ad.at_, HG.out.ad.fi]
        clear st10 hb11
        have q1 : ((i : Int) != (i : Int)) = false := by simp
        have q2 : (ino != ino) = false := by simp
        go_wp2_with fail
        have hsame : Hid (∀ j, j ≠ a' → j ≠ i → dI (addZ (remZ z s) t ino) j = dI z j ∧ dM (addZ (remZ z s) t ino) j = dM z j) := fun j h1 h2 => by
          rw [(HG.out.ad.rest j h2).1, (HG.out.ad.rest j h2).2, (HG.out.rm.rest j h1).1, (HG.out.rm.rest j h1).2]; exact ⟨rfl, rfl⟩
        have hdz : Hid (dirB (addZ (remZ z s) t ino) = true) := HG.out.ad.dir'
        generalize addZ (remZ z s) t ino = zc at *
        go_loopw [17] (fun u wr => ∃ j : Nat, j ≤ 8 ∧ u = .int .i64 (j : Int) ∧ GnS w z zc G g wr) (fun u _ => 8 - (intOf u).toNat)
        case atStart => exact ⟨0, by omega, rfl, st11⟩
        case round =>
          clear st11
          rename_i ww _ _
          obtain ⟨j, hj8, rfl, st⟩ := hrel
          by_cases hj : j < 8
          · have m0 : (0 : Int) ≤ (j : Int) := by omega
            have m1 : (j : Int) < 8 := by omega
            have hB := st.c
            go_wp2_with (first | (refine wp_loadBlkG rfl _ rfl _ _ rfl hB ?_))
            clear hB
            refine (list_any zc hz2 _).mono ?_
            rintro e w12 ⟨hb12, hlr⟩
            have st12 := st.below hb12
            clear st
            rcases hlr with ⟨hd, rfl⟩ | ⟨hd, g2, hg2, rfl, hN⟩
            · rw [hdz.out] at hd; cases hd
            clear hd hb12
            have stm : GnM w z zc G g g2 w12 := ⟨st12, hN.slots⟩
            clear st12 hN
            have r1 : Hid (∀ W, GnM w z zc G g g2 W → W.rangeAt g (j * 2) [.int .u32 (dI z j), .string (dM z j)]) := fun W h => by have := h.s1.range j hj; rwa [Nat.zero_add] at this
            have r2 : Hid (∀ W, GnM w z zc G g g2 W → W.rangeAt g2 (j * 2) [.int .u32 (dI zc j), .string (dM zc j)]) := fun W h => by have := h.s2.range j hj; rwa [Nat.zero_add] at this
            have hne2 : ∀ W, (binOp .neq 33 (.agg #[.int .u32 (dI z j), .string (dM z j)]) (.agg #[.int .u32 (dI z j), .string (dM z j)])).run Try.prog W = .ok (.bool false) W := fun W => by rw [run_neq_slot]; simp
            go_wp2_with fail
            refine wp_region_S (GnM w z zc G g g2) (by kernel_rfl) (by kernel_rfl) stm.drew ?_
            clear stm
            intro hne
            have hcase : (((j : Int) != (a' : Int)) = false) ∨ ((∃ (_ : ((j : Int) != (a' : Int)) = true), ((j : Int) != (i : Int)) = false)) ∨ (∃ (_ : ((j : Int) != (a' : Int)) = true) (_ : ((j : Int) != (i : Int)) = true), Hid (dI zc j = dI z j ∧ dM zc j = dM z j)) := by
              by_cases h1 : j = a'
              · exact .inl (by rw [h1]; simp)
              · by_cases h2 : j = i
                · exact .inr (.inl ⟨bne_iff_ne.2 (by omega), by rw [h2]; simp⟩)
                · exact .inr (.inr ⟨bne_iff_ne.2 (by omega), bne_iff_ne.2 (by omega), hsame.out j h1 h2⟩)
            rcases hcase with q4 | ⟨q4, q5⟩ | ⟨q4, q5, HQ⟩
            rotate_left 2
            · rw [HQ.out.1, HQ.out.2] at r2
              clear HQ
              repeat (first | (first | go_big_quiet_skip | (go_big_quiet_want; go_big_quiet_op; go_big_quiet_on)) | (refine q_load rfl 33 _ rfl _ _ rfl _ _ r1.out Try.underlying33 rfl (by kernel_rfl) ?_; refine wpQuiet_frame (by simp only [Act.put, List.setIfInBounds_toArray, List.set_cons_succ, List.set_cons_zero]; exact rfl) ?_) | (refine q_load rfl 33 _ rfl _ _ rfl _ _ r2.out Try.underlying33 rfl (by kernel_rfl) ?_; refine wpQuiet_frame (by simp only [Act.put, List.setIfInBounds_toArray, List.set_cons_succ, List.set_cons_zero]; exact rfl) ?_))
              refine wpQuiet_nil ?_
              intro w7 h7
              have st7 := h7.out.toGnS
              clear h7 hne
              go_wp2_with fail
              go_roundw
              case rel => first | exact ⟨j + 1, by omega, by go_num, st7⟩ | ((repeat apply Exists.intro); exact ⟨⟨j + 1, by omega, by go_num, st7⟩, rfl⟩)
              case measure => simp [intOf]; omega
            all_goals
              repeat (first | go_big_quiet_skip | (go_big_quiet_want; go_big_quiet_op; go_big_quiet_on))
              refine wpQuiet_nil ?_
              intro w7 h7
              have st7 := h7.out.toGnS
              clear h7 hne
              go_wp2_with fail
              go_roundw
              case rel => first | exact ⟨j + 1, by omega, by go_num, st7⟩ | ((repeat apply Exists.intro); exact ⟨⟨j + 1, by omega, by go_num, st7⟩, rfl⟩)
              case measure => simp [intOf]; omega
          · obtain rfl : j = 8 := by omega
            go_wp2_with fail
            go_ret
            exact ⟨rfl, st.bel⟩
end Go.Proofs.Ytmghpmbjimdegaa
