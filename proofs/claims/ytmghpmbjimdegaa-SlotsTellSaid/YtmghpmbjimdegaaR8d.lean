/- The reference's side of chapter 8: quernref08.Add, Remove. -/
import Derived.Test.YtmghpmbjimdegaaR8c
namespace Go.Proofs.Ytmghpmbjimdegaa
open Go.RowKit
set_option linter.unusedVariables false

theorem results_blk_tmp {fn : Func} {p u : Tmp} (h : fn.results = #[.cell p 23, .tmp u]) (tmps : Array Value) (w : World) (g : Nat) (z : Nat → Int)
    (hp : tmps.getD p undef = .pointer (some ⟨g, 0, none⟩)) (hg : Blk w g 23 256 z) : (results fn tmps).run Try.prog w = .ok (.tuple #[bval z, tmps.getD u undef]) w :=
  results_row_tmp h tmps w g 23 _ (0, 0) _ hp hg Try.underlying23 rfl (info_block' _)
/-- the block that came in, and the one that goes out -/
structure RaS (w : World) (z : Nat → Int) (W : World) : Prop where
  b : Blk W w.heap.size 23 256 z
  r : Blk W (w.heap.size + 1) 23 256 (fun _ => 0)
  bel : Below w.heap.size w W
theorem RaS.below {w : World} {z : Nat → Int} {W W' : World} (h : RaS w z W) (hb : Below W.heap.size W W') : RaS w z W' := ⟨h.b.below hb h.b.lt, h.r.below hb h.r.lt, h.bel.trans (hb.mono h.bel.size)⟩
theorem RaS.new (w : World) (z : Nat → Int) : RaS w z ((w.alloc (.cells (Ks .u8 256 z).toArray 23)).alloc (.cells (Ks .u8 256 (fun _ => 0)).toArray 23)) := by
  refine ⟨(Blk.new w _ 256 z).alloc _, ?_, ((Below.refl _ _).alloc (Nat.le_refl _) _).alloc (by simp) _⟩
  have := Blk.new (w.alloc (.cells (Ks .u8 256 z).toArray 23)) 23 256 (fun _ => 0)
  simpa using this

set_option maxRecDepth 100000 in
set_option maxHeartbeats 4000000 in
theorem rRem_any (z : Nat → Int) (hz : Byt z) (s : ByteArray) (w : World) :
    Calls Try.prog 20 #[bval z, .string s] w fun e w' => e = .returned (.tuple #[bval (remZ z s), .bool (remB z s)]) ∧ Below w.heap.size w w' := by
  have hal := zero_block
  have hal2 := zero_slot
  have HS := Lib.hid (RaS.new w z)
  go_enter Try.func20, Try.ntmps20
  have st0 := HS.out
  have hB := st0.b
  go_wp2_with (first | (refine wp_loadBlkG rfl _ rfl _ _ rfl hB ?_))
  generalize (w.alloc (.cells (Ks .u8 256 z).toArray 23)).alloc (.cells (Ks .u8 256 (fun _ => 0)).toArray 23) = w0 at *
  refine (rFind_any z hz s _).mono ?_
  rintro e w1 ⟨rfl, hb1⟩
  have st1 := st0.below hb1
  clear st0 hb1 HS hB
  generalize fI z s = f2 at *
  have hB := st1.b
  have hR := st1.r
  rcases fS_cases (z := z) s with hf | ⟨hd, k, hk, hf, _⟩
  · have HE : Hid (remB z s = false) := remB_no hf
    have HZ : Hid (remZ z s = z) := by show _ = _; unfold remZ; rw [HE.out]; rfl
    rw [hf]
    clear hf
    go_wp2_with (first | (refine wp_loadBlkG rfl _ rfl _ _ rfl hB ?_) | (refine wp_storeBlk rfl _ _ rfl (w.heap.size + 1) _ _ rfl rfl hR ?_))
    intro w9 hB9 ho9
    go_wp2_with fail
    exact bodyPost_ret (results_blk_tmp rfl _ _ (w.heap.size + 1) _ rfl hB9) rfl ⟨by rw [HE.out, HZ.out]; rfl, st1.bel.trans (ho9.below (by omega))⟩
  · have HE : Hid (remB z s = true) := remB_yes hf
    have HZ : Hid (remZ z s = putS z k (bS 0 ByteArray.empty)) := by show _ = _; unfold remZ; rw [HE.out, hf]; rfl
    rw [hf]
    clear hf hd
    go_wp2_with (first | (refine wp_loadBlkG rfl _ rfl _ _ rfl hB ?_))
    refine (rPut_any z k hk 0 ByteArray.empty (by decide) (.inl rfl) _).mono ?_
    rintro e w2 ⟨rfl, hb2⟩
    have st2 := st1.below hb2
    clear st1 hB hR hb2
    have hR := st2.r
    rw [← HZ.out]
    go_wp2_with (first | (refine wp_storeBlk rfl _ _ rfl (w.heap.size + 1) _ _ rfl rfl hR ?_))
    intro w9 hB9 ho9
    go_wp2_with fail
    exact bodyPost_ret (results_blk_tmp rfl _ _ (w.heap.size + 1) _ rfl hB9) rfl ⟨by rw [HE.out]; rfl, st2.bel.trans (ho9.below (by omega))⟩
set_option maxRecDepth 100000 in
set_option maxHeartbeats 4000000 in
theorem rAdd_any (z : Nat → Int) (hz : Byt z) (s : ByteArray) (hs : s.size ≤ 9223372036854775807) (ino : Int) (hi : 0 ≤ ino ∧ ino < 4294967296) (w : World) :
    Calls Try.prog 18 #[bval z, .string s, .int .u32 ino] w fun e w' => e = .returned (.tuple #[bval (addZ z s ino), .int .i64 (addE z s ino)]) ∧ Below w.heap.size w w' := by
  have hal := zero_block
  have hal2 := zero_slot
  have HS := Lib.hid (RaS.new w z)
  obtain ⟨hi0, hi1⟩ := hi
  go_enter Try.func18, Try.ntmps18
  have st0 := HS.out
  have hB := st0.b
  go_wp2_with (first | (refine wp_loadBlkG rfl _ rfl _ _ rfl hB ?_))
  generalize (w.alloc (.cells (Ks .u8 256 z).toArray 23)).alloc (.cells (Ks .u8 256 (fun _ => 0)).toArray 23) = w0 at *
  refine (rList_any z hz _).mono ?_
  rintro e w1 ⟨hb1, hlr⟩
  have st1 := st0.below hb1
  have hsz0 := st0.r.lt
  clear st0 hb1 HS hB
  have hB := st1.b
  have hR := st1.r
  rcases hlr with ⟨hd, rfl⟩ | ⟨hd, a, cap, rfl, hown⟩
  · have HE : Hid (addE z s ino = 80) := by show _ = _; unfold addE; rw [hd]; rfl
    have HZ : Hid (addZ z s ino = z) := addZ_no (by rw [HE.out]; decide)
    clear hd
    go_wp2_with (first | (refine wp_loadBlkG rfl _ rfl _ _ rfl hB ?_) | (refine wp_storeBlk rfl _ _ rfl (w.heap.size + 1) _ _ rfl rfl hR ?_))
    intro w9 hB9 ho9
    go_wp2_with fail
    exact bodyPost_ret (results_blk_tmp rfl _ _ (w.heap.size + 1) _ rfl hB9) rfl ⟨by rw [HE.out, HZ.out]; rfl, st1.bel.trans (ho9.below (by omega))⟩
  have HD := Lib.hid hd
  obtain ⟨g, rfl, _, _⟩ := own_at hown (by decide)
  go_wp2_with (first | (refine wp_loadBlkG rfl _ rfl _ _ rfl hB ?_))
  refine (rFind_any z hz s _).mono ?_
  rintro e w2 ⟨rfl, hb2⟩
  have st2 := st1.below hb2
  have hown2 := own_bel hown hb2
  clear st1 hB hR hb2 hown hd
  have hB := st2.b
  have hR := st2.r
  generalize fI z s = f2 at *
  go_wp2_with fail
  refine (rMay_any s hs _).mono ?_
  rintro e w3 ⟨rfl, rfl⟩
  cases hm : mayB s with
  | false =>
    have HE : Hid (addE z s ino = 2) := by show _ = _; unfold addE; rw [HD.out, hm]; simp
    have HZ : Hid (addZ z s ino = z) := addZ_no (by rw [HE.out]; decide)
    clear hm
    generalize fS z s = f1 at *
    go_wp2_with (first | (refine wp_loadBlkG rfl _ rfl _ _ rfl hB ?_) | (refine wp_storeBlk rfl _ _ rfl (w.heap.size + 1) _ _ rfl rfl hR ?_))
    intro w9 hB9 ho9
    go_wp2_with fail
    exact bodyPost_ret (results_blk_tmp rfl _ _ (w.heap.size + 1) _ rfl hB9) rfl ⟨by rw [HE.out, HZ.out]; rfl, st2.bel.trans (ho9.below (by omega))⟩
  | true =>
  have HM := Lib.hid hm
  clear hm
  cases hin : (ino == 0) with
  | true =>
    have HE : Hid (addE z s ino = 2) := by show _ = _; unfold addE; rw [HD.out, if_neg (by decide), if_pos (.inr (.inl (by simpa using hin)))]
    have HZ : Hid (addZ z s ino = z) := addZ_no (by rw [HE.out]; decide)
    generalize fS z s = f1 at *
    go_wp2_with (first | (refine wp_loadBlkG rfl _ rfl _ _ rfl hB ?_) | (refine wp_storeBlk rfl _ _ rfl (w.heap.size + 1) _ _ rfl rfl hR ?_))
    intro w9 hB9 ho9
    go_wp2_with fail
    exact bodyPost_ret (results_blk_tmp rfl _ _ (w.heap.size + 1) _ rfl hB9) rfl ⟨by rw [HE.out, HZ.out]; rfl, st2.bel.trans (ho9.below (by omega))⟩
  | false =>
  have hin0 : Hid (ino ≠ 0) := by show _ ≠ _; simpa using hin
  rcases fS_ge z s with ⟨h1, h2⟩ | ⟨h1, h2⟩
  rotate_left
  · have HE : Hid (addE z s ino = 2) := by
      show _ = _
      unfold addE; rw [HD.out, if_neg (by decide), if_pos (.inr (.inr (by omega)))]
    have HZ : Hid (addZ z s ino = z) := addZ_no (by rw [HE.out]; decide)
    generalize fS z s = f1 at *
    clear h1
    go_wp2_with (first | (refine wp_loadBlkG rfl _ rfl _ _ rfl hB ?_) | (refine wp_storeBlk rfl _ _ rfl (w.heap.size + 1) _ _ rfl rfl hR ?_))
    intro w9 hB9 ho9
    go_wp2_with fail
    exact bodyPost_ret (results_blk_tmp rfl _ _ (w.heap.size + 1) _ rfl hB9) rfl ⟨by rw [HE.out, HZ.out]; rfl, st2.bel.trans (ho9.below (by omega))⟩
  have HFS := Lib.hid h2
  rw [h2]
  clear h1 h2
  have HAE : Hid (addE z s ino = if freeS z = -1 then 4 else 0) := by
    show _ = _
    unfold addE
    rw [HD.out, if_neg (by decide), if_neg (by rw [HM.out]; rintro (h | h | h); cases h; exact hin0.out h; exact h HFS.out)]
  have hsg := own_sseg hown2 (by decide)
  go_wp2_with fail
  go_loopw [12] (fun u wr => ∃ k : Nat, k ≤ 8 ∧ u = .int .i64 (k : Int) ∧ Hid (∀ i, i < k → dI z i ≠ 0) ∧ wr = w2) (fun u _ => 8 - (intOf u).toNat)
  case atStart => exact ⟨0, by omega, rfl, fun i hi => by omega, rfl⟩
  case round =>
    obtain ⟨k, hk, rfl, HNO, rfl⟩ := hrel
    by_cases hlt : k < 8
    · have l0 : (0 : Int) ≤ (k : Int) := by omega
      have l1 : (k : Int) < 8 := by omega
      have c0 : wr.cell? ⟨g, k * 2, none⟩ = some (.int .u32 (dI z k)) := by have := (hsg k hlt).1; rwa [Nat.zero_add] at this
      cases h0 : (dI z k == 0) with
      | false =>
        have HN1 : Hid (∀ i, i < k + 1 → dI z i ≠ 0) := fun i hi => by
          by_cases e : i = k
          · rw [e]; simpa using h0
          · exact HNO.out i (by omega)
        clear hsg
        go_wp2_with fail
        go_roundw
        case rel => first | exact ⟨k + 1, by omega, by go_num, HN1, rfl⟩ | exact ⟨k + 1, by omega, by go_num, HN1, trivial⟩ | exact ⟨k + 1, by omega, by go_num, HN1⟩ | ((repeat apply Exists.intro); exact ⟨⟨k + 1, by omega, by go_num, HN1, rfl⟩, rfl⟩)
        case measure => simp [intOf]; omega
      | true =>
        have HFR : Hid (freeS z = (k : Int)) := firstB_hit hlt (fun i hi => by have := HNO.out i hi; rw [rI_yes HD.out]; simpa using this) (by rw [rI_yes HD.out]; exact h0)
        have HE : Hid (addE z s ino = 0) := by show _ = _; rw [HAE.out, HFR.out, if_neg (by omega)]
        have HZ : Hid (addZ z s ino = putS z k (bS ino s)) := by
          show _ = _
          unfold addZ bS; rw [if_pos HE.out, HFR.out, if_neg hin0.out]; rfl
        have hs27 := (may_size HM.out).2
        clear hsg
        go_wp2_with (first | (refine wp_loadBlkG rfl _ rfl _ _ rfl hB ?_))
        refine (rPut_any z k hlt ino s ⟨hi0, hi1⟩ (.inr hs27) _).mono ?_
        rintro e w3 ⟨rfl, hb3⟩
        have st3 := st2.below hb3
        clear st2 hB hR hb3
        have hR := st3.r
        rw [← HZ.out]
        go_wp2_with (first | (refine wp_storeBlk rfl _ _ rfl (w.heap.size + 1) _ _ rfl rfl hR ?_))
        intro w9 hB9 ho9
        go_wp2_with fail
        exact bodyPost_ret (results_blk_tmp rfl _ _ (w.heap.size + 1) _ rfl hB9) rfl ⟨by rw [HE.out]; rfl, st3.bel.trans (ho9.below (by omega))⟩
    · obtain rfl : k = 8 := by omega
      have HFR : Hid (freeS z = -1) := firstB_none fun i hi => by have := HNO.out i hi; rw [rI_yes HD.out]; simpa using this
      have HE : Hid (addE z s ino = 4) := by show _ = _; rw [HAE.out, HFR.out]; rfl
      have HZ : Hid (addZ z s ino = z) := addZ_no (by rw [HE.out]; decide)
      clear hsg
      go_wp2_with (first | (refine wp_loadBlkG rfl _ rfl _ _ rfl hB ?_) | (refine wp_storeBlk rfl _ _ rfl (w.heap.size + 1) _ _ rfl rfl hR ?_))
      intro w9 hB9 ho9
      go_wp2_with fail
      exact bodyPost_ret (results_blk_tmp rfl _ _ (w.heap.size + 1) _ rfl hB9) rfl ⟨by rw [HE.out, HZ.out]; rfl, st2.bel.trans (ho9.below (by omega))⟩
end Go.Proofs.Ytmghpmbjimdegaa
