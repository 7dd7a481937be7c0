/- The walk of the law JblockReads. -/
import Derived.Test.YtahobhifafiaeaaW9h0
import Derived.Test.YtahobhifafiaeaaR9g
namespace Go.Proofs.Ytahobhifafiaeaa
open Go.RowKit
set_option linter.unusedVariables false

structure RqW (w : World) (z : Nat → Int) (nd nr : Nat) (da ra : Option Addr) (W : World) : Prop where
  b : Blk W w.heap.size 28 256 z
  d : TagRow W da nd (descT z) (descE z)
  r : NumRow W ra nr (revM z)
  bel : Below w.heap.size w W
theorem RqW.below {w W W' : World} {z : Nat → Int} {nd nr : Nat} {da ra : Option Addr} (h : RqW w z nd nr da ra W) (hb : Below W.heap.size W W') : RqW w z nd nr da ra W' := ⟨h.b.below hb h.b.lt, h.d.below hb, h.r.below hb, h.bel.trans (hb.mono h.bel.size)⟩
structure SpSt (W0 : World) (gl nl gm nm : Nat) (W : World) : Prop where
  bel : Below W0.heap.size W0 W
  tl : W.there gl 0 nl
  tm : W.there gm 0 nm

theorem SpSt.drewN {W0 W : World} {gl nl gm nm : Nat} (h : SpSt W0 gl nl gm nm W) (n : Nat) : SpSt W0 gl nl gm nm (W.drewN n) := ⟨bel_drewN h.bel n, h.tl, h.tm⟩
theorem SpSt.set {W0 W : World} {gl nl gm nm : Nat} (h : SpSt W0 gl nl gm nm W) (g o : Nat) (v : Value) (hg : W0.heap.size ≤ g) : SpSt W0 gl nl gm nm (W.setCell ⟨g, o, none⟩ v) := ⟨h.bel.trans ((Only.setCell W ⟨g, o, none⟩ v).below hg), there_setCell h.tl g o v, there_setCell h.tm g o v⟩
theorem info_u32' : (Try.prog.info? 22).map (·.size) = some 1 := by kernel_rfl

structure RfSt (w : World) (z : Nat → Int) (e0 e1 : Nat) (W : World) : Prop where
  b : Blk W w.heap.size 28 256 z
  e : Blk W e0 28 256 (escZ z)
  f : Blk W e1 28 256 (escZ z)
  bel : Below w.heap.size w W
theorem RfSt.below {w W W' : World} {z : Nat → Int} {e0 e1 : Nat} (h : RfSt w z e0 e1 W) (hb : Below W.heap.size W W') : RfSt w z e0 e1 W' := ⟨h.b.below hb h.b.lt, h.e.below hb h.e.lt, h.f.below hb h.f.lt, h.bel.trans (hb.mono h.bel.size)⟩

set_option maxRecDepth 100000 in
set_option maxHeartbeats 8000000 in
theorem reads_walk (z : Nat → Int) (hz : Byt z) (w : World) : Calls Try.prog 7 #[bval z] w fun e w' => e = .returned (.bool true) ∧ Below w.heap.size w w' := by
  have ST0 : Hid (RkSt w z (w.alloc (.cells (Ks .u8 256 z).toArray 28))) := ⟨Blk.new _ _ _ _, (Below.refl _ _).alloc (Nat.le_refl _) _⟩
  have hkp : Hid (∀ W W', RkSt w z W → Below W.heap.size W W' → RkSt w z W') := fun W W' h hb => ⟨h.b.below hb h.b.lt, h.bel.trans (hb.mono h.bel.size)⟩
  have hal := zero_head
  have hB := ST0.out.b
  go_enter Try.func7, Try.ntmps7
  go_wp2_with (first | (refine wp_loadBlkG rfl _ rfl _ _ rfl hB ?_))
  refine (readHead_any z hz _).mono ?_
  rintro e w1 ⟨rfl, hb⟩
  have st1 := hkp.out _ _ ST0.out hb
  clear hb hB ST0
  have hn1 := At.new w1 24 #[.int .u32 0, .int .i64 0]
  go_wp2_with (first | (refine wp_storeAt rfl 24 _ _ rfl _ _ _ rfl rfl hn1 (info_head _ _) rfl (one_head _ _) ?_))
  intro w2 hH2 ho
  have hb : Below w1.heap.size w1 w2 := ((Below.refl _ _).alloc (Nat.le_refl _) _).trans (ho.below (Nat.le_refl _))
  have st2 := hkp.out _ _ st1 hb
  have hB := st2.b
  clear st1 hb ho hn1
  generalize w1.heap.size = g0 at hH2 ⊢
  go_wp2_with (first | (refine wp_loadBlkG rfl _ rfl _ _ rfl hB ?_))
  refine (rReadHead_any z hz _).mono ?_
  rintro e w3 ⟨rfl, hb⟩
  have st3 := hkp.out _ _ st2 hb
  have hH3 := hH2.below hb hH2.lt
  clear hb hB st2 hH2
  have hn3 := At.new w3 24 #[.int .u32 0, .int .i64 0]
  go_wp2_with (first | (refine wp_storeAt rfl 24 _ _ rfl _ _ _ rfl rfl hn3 (info_head _ _) rfl (one_head _ _) ?_))
  intro w4 hI4 ho
  have hb : Below w3.heap.size w3 w4 := ((Below.refl _ _).alloc (Nat.le_refl _) _).trans (ho.below (Nat.le_refl _))
  have st4 := hkp.out _ _ st3 hb
  have hH4 := hH3.below hb hH3.lt
  have hB := st4.b
  clear st3 hb ho hn3 hH3
  generalize w3.heap.size = g1 at hI4 ⊢
  obtain ⟨cs, cc, cv, ce, hcv⟩ := commit_form z
  have HCV := Lib.hid hcv
  clear hcv hal
  go_wp2_with (first | (refine wp_loadBlkG rfl _ rfl _ _ rfl hB ?_))
  refine (readCommit_any z hz _).mono ?_
  rw [HCV.out]
  rintro e w5 ⟨rfl, hb⟩
  have st5 := hkp.out _ _ st4 hb
  have hH5 := hH4.below hb hH4.lt
  have hI5 := hI4.below hb hI4.lt
  clear hb hB st4 hH4 hI4
  have hB := st5.b
  go_wp2_with (first | (refine wp_loadBlkG rfl _ rfl _ _ rfl hB ?_))
  refine (rReadCommit_any z hz _).mono ?_
  rw [HCV.out]
  rintro e w6 ⟨rfl, hb⟩
  have st6 := hkp.out _ _ st5 hb
  have hH6 := hH5.below hb hH5.lt
  have hI6 := hI5.below hb hI5.lt
  clear hb hB st5 hH5 hI5
  have hB := st6.b
  go_wp2_with (first | (refine wp_loadBlkG rfl _ rfl _ _ rfl hB ?_))
  refine (kind_any z hz _).mono ?_
  rintro e w7 ⟨rfl, hb⟩
  have st7 := hkp.out _ _ st6 hb
  have hH7 := hH6.below hb hH6.lt
  have hI7 := hI6.below hb hI6.lt
  clear hb hB st6 hH6 hI6
  have hB := st7.b
  go_wp2_with (first | (refine wp_loadBlkG rfl _ rfl _ _ rfl hB ?_))
  refine (rKind_any z hz _).mono ?_
  rintro e w8 ⟨rfl, hb⟩
  have st8 := hkp.out _ _ st7 hb
  have hH8 := hH7.below hb hH7.lt
  have hI8 := hI7.below hb hI7.lt
  clear hb hB st7 hH7 hI7
  have hq := fun W => run_neq_head (hdS z) (hdT z) W
  have hx1 : (errOf (headRd z) 90 != errOf (headRd z) 90) = false := by simp
  have hx2 : (cs != cs) = false := by simp
  have hx3 : (cc != cc) = false := by simp
  have hx4 : (cv != cv) = false := by simp
  have hx5 : (ce != ce) = false := by simp
  have hx6 : (kindOf z != kindOf z) = false := by simp
  have hx7 : (seqOf z != seqOf z) = false := by simp
  generalize hdS z = s1 at *
  generalize hdT z = s2 at *
  generalize errOf (headRd z) 90 = s3 at *
  generalize kindOf z = s4 at *
  generalize seqOf z = s5 at *
  have hB := st8.b
  go_wp2_with (first | (refine wp_loadBlkG rfl _ rfl _ _ rfl hB ?_) | (refine wp_loadAtG rfl 24 _ rfl _ _ _ rfl hH8 Try.underlying24 rfl (by kernel_rfl) ?_) | (refine wp_loadAtG rfl 24 _ rfl _ _ _ rfl hI8 Try.underlying24 rfl (by kernel_rfl) ?_))
  clear hq hx1 hx2 hx3 hx4 hx5 hx6 hx7 hH8 hI8 HCV
  refine (rReadDesc_any z hz _).mono ?_
  intro e w9 hh
  obtain ⟨hb, da, dcap, rfl, hown⟩ := desc_form hh
  have st9 := hkp.out _ _ st8 hb
  obtain ⟨_, _, he, hd9, _⟩ := own_tags hown
  injection he with he1 he2 he3
  subst he1 he3
  clear hb hB st8 hh hown
  have hB := st9.b
  go_wp2_with (first | (refine wp_loadBlkG rfl _ rfl _ _ rfl hB ?_))
  refine (rReadRevoke_any z hz _).mono ?_
  intro e w10 hh
  obtain ⟨hb, ra, rcap, rfl, hown⟩ := rev_form hh
  have st10 := hkp.out _ _ st9 hb
  obtain ⟨_, _, he, hr10⟩ := own_nums' hown
  injection he with he1 he2 he3
  subst he1 he3
  have sq : RqW w z (dN z) (rN z) da ra w10 := ⟨st10.b, hd9.below hb, hr10, st10.bel⟩
  clear hb hB st9 hh hown hd9 hr10 st10
  have hdn := dN_le (z := z)
  have hrn := rN_le (z := z)
  have hy1 : (dS z != dS z) = false := by simp
  have hy2 : (errOf (descRd z) 90 != errOf (descRd z) 90) = false := by simp
  have hy3 : (rS z != rS z) = false := by simp
  have hy4 : (errOf (revRd z) 90 != errOf (revRd z) 90) = false := by simp
  have HDF : Hid (∀ W W' e, DescRead W z e W' → Below W.heap.size W W' ∧ ∃ a cap, e = .returned (.tuple #[.int .u32 (dS z), .slice a (dN z) cap, .int .i64 (errOf (descRd z) 90)]) ∧ W'.ownsRow W.heap.size 69 2 (.slice a (dN z) cap) (dN z) (Tc (descT z) (descE z) (dN z))) := fun W W' e h => desc_form h
  have HRF : Hid (∀ W W' e, RevRead W z e W' → Below W.heap.size W W' ∧ ∃ a cap, e = .returned (.tuple #[.int .u32 (rS z), .slice a (rN z) cap, .int .i64 (errOf (revRd z) 90)]) ∧ W'.ownsRow W.heap.size 22 1 (.slice a (rN z) cap) (rN z) (Ks .u32 (rN z) (revM z))) := fun W W' e h => rev_form h
  generalize dS z = y1 at *
  generalize errOf (descRd z) 90 = y2 at *
  generalize rS z = y3 at *
  generalize errOf (revRd z) 90 = y4 at *
  generalize hdN : dN z = nd at *
  generalize hrN : rN z = nr at *
  have HDN := Lib.hid hdN
  have HRN := Lib.hid hrN
  clear hdN hrN
  go_wp2_with fail
  go_loopw [25] (fun u wr => ∃ k : Nat, k ≤ 2 ∧ u = .int .i64 (k : Int) ∧ RqW w z nd nr da ra wr) (fun u _ => 2 - (intOf u).toNat)
  case atStart => exact ⟨0, by omega, rfl, sq⟩
  case round =>
    clear sq
    obtain ⟨k, hk, rfl, sq⟩ := hrel
    rename World => W0
    have hB := sq.b
    by_cases hlt : k < 2
    · go_wp2_with (first | (refine wp_loadBlkG rfl _ rfl _ _ rfl hB ?_))
      refine (readDesc_any z hz _).mono ?_
      intro e w11 hh
      obtain ⟨hb11, la, lcap, rfl, hown⟩ := HDF.out _ _ _ hh
      have sq11 := sq.below hb11
      have hsz0 := sq.b.lt
      obtain ⟨_, _, he, hl11, _⟩ := own_tags hown
      injection he with he1 he2 he3
      subst he1 he3
      obtain ⟨gl, hgl1, hgl2, hgl3, hgl4, htl11⟩ := own_there hown hb11.size
      clear hB hh hown
      have hB := sq11.b
      go_wp2_with (first | (refine wp_loadBlkG rfl _ rfl _ _ rfl hB ?_))
      refine (readRevoke_any z hz _).mono ?_
      intro e w12 hh
      obtain ⟨hb12, ma, mcap, rfl, hown⟩ := HRF.out _ _ _ hh
      have sq12 := sq11.below hb12
      have hl12 := hl11.below hb12
      have htl12 := there_below htl11 hb12 hgl3
      obtain ⟨_, _, he, hm12⟩ := own_nums' hown
      injection he with he1 he2 he3
      subst he1 he3
      obtain ⟨gm, hgm1, hgm2, hgm3, hgm4, htm12⟩ := own_there hown hb12.size
      have sp : SpSt W0 gl (nd * 2) gm (nr * 1) w12 := ⟨hb11.trans (hb12.mono hb11.size), htl12, htm12⟩
      have hsz1 := hb11.size
      clear hB hh hown hb11 hb12 htl11 htl12 htm12 hl11 sq11
      go_wp2_with fail
      refine (sameTags_true la da nd lcap dcap _ _ _ _ _ (by omega) hl12 sq12.d (fun i _ => ⟨rfl, rfl⟩)).mono ?_
      rintro e w13 ⟨rfl, nn, rfl⟩
      have sp13 := sp.drewN nn
      have sq13 := sq12.below (bel_drewN (Below.refl _ _) nn)
      have hm13 := hm12.below (bel_drewN (Below.refl _ _) nn)
      clear sp sq12 hm12 hl12
      generalize World.drewN _ nn = w14 at *
      go_wp2_with fail
      refine (sameNum_any ma ra nr mcap rcap _ _ _ (by omega) hm13 sq13.r).mono ?_
      rintro e w15 ⟨rfl, nn2, rfl⟩
      rw [eqB_refl]
      have sp15 := sp13.drewN nn2
      clear sp13 sq13 hm13
      generalize World.drewN _ nn2 = w16 at *
      go_wp2_with fail
      go_loopw [32] (fun u W => ∃ j : Nat, j ≤ nd ∧ u = .int .i64 (j : Int) ∧ SpSt W0 gl (nd * 2) gm (nr * 1) W) (fun u _ => nd - (intOf u).toNat)
      case atStart => exact ⟨0, by omega, rfl, sp15⟩
      case round =>
        clear sp15
        obtain ⟨j, hj, rfl, sp⟩ := hrel
        by_cases hjn : j < nd
        · obtain rfl : la = some ⟨gl, 0, none⟩ := by rcases hgl4 with h | h; omega; exact h
          obtain ⟨hc, hf⟩ := sp.tl (j * 2) (by omega)
          obtain ⟨u, hc⟩ := Option.isSome_iff_exists.1 hc
          rw [Nat.zero_add] at hc hf
          go_wp2_with (first | (refine wp_store1 rfl 22 _ _ rfl _ _ _ rfl rfl u hc hf info_u32' rfl ?_))
          have sp2 := sp.set gl (j * 2) (.int .u32 99) (by omega)
          clear sp hc hf
          go_wp2_with fail
          go_roundw
          case rel => first | exact ⟨j + 1, by omega, by go_num, sp2⟩ | ((repeat apply Exists.intro); exact ⟨⟨j + 1, by omega, by go_num, sp2⟩, rfl⟩)
          case measure => simp [intOf]; omega
        · go_wp2_with fail
          go_loopw [33] (fun u W => ∃ j : Nat, j ≤ nr ∧ u = .int .i64 (j : Int) ∧ SpSt W0 gl (nd * 2) gm (nr * 1) W) (fun u _ => nr - (intOf u).toNat)
          case atStart => exact ⟨0, by omega, rfl, sp⟩
          case round =>
            clear sp
            obtain ⟨i, hi, rfl, sp⟩ := hrel
            by_cases hin : i < nr
            · obtain rfl : ma = some ⟨gm, 0, none⟩ := by rcases hgm4 with h | h; omega; exact h
              obtain ⟨hc, hf⟩ := sp.tm i (by omega)
              obtain ⟨u, hc⟩ := Option.isSome_iff_exists.1 hc
              rw [Nat.zero_add] at hc hf
              go_wp2_with (first | (refine wp_store1 rfl 22 _ _ rfl _ _ _ rfl rfl u hc hf info_u32' rfl ?_))
              have sp2 := sp.set gm i (.int .u32 99) (by omega)
              clear sp hc hf
              go_wp2_with fail
              go_roundw
              case rel => first | exact ⟨i + 1, by omega, by go_num, sp2⟩ | ((repeat apply Exists.intro); exact ⟨⟨i + 1, by omega, by go_num, sp2⟩, rfl⟩)
              case measure => simp [intOf]; omega
            · have sqe := sq.below sp.bel
              clear sp sq
              go_wp2_with fail
              go_roundw
              case rel => first | exact ⟨k + 1, by omega, by go_num, sqe⟩ | ((repeat apply Exists.intro); exact ⟨⟨k + 1, by omega, by go_num, sqe⟩, rfl⟩)
              case measure => simp [intOf]; omega
    · have hal := zero_block
      go_wp2_with (first | (refine wp_loadBlkG rfl _ rfl _ _ rfl hB ?_))
      refine (escape_any z hz _).mono ?_
      rintro e w20 ⟨rfl, hb⟩
      have st20 : RkSt w z w20 := hkp.out _ _ ⟨sq.b, sq.bel⟩ hb
      clear hb sq hB
      have hn1 := Blk.new w20 28 256 (fun _ => 0)
      go_wp2_with (first | (refine wp_storeBlk rfl _ _ rfl _ (escZ z) _ rfl rfl hn1 ?_))
      intro w21 hE21 ho
      have hb : Below w20.heap.size w20 w21 := ((Below.refl _ _).alloc (Nat.le_refl _) _).trans (ho.below (Nat.le_refl _))
      have st21 := hkp.out _ _ st20 hb
      clear hb ho hn1 st20
      generalize w20.heap.size = e0 at hE21 ⊢
      have hB := st21.b
      go_wp2_with (first | (refine wp_loadBlkG rfl _ rfl _ _ rfl hB ?_))
      refine (rEscape_any z hz _).mono ?_
      rintro e w22 ⟨rfl, hb⟩
      have st22 := hkp.out _ _ st21 hb
      have hE22 := hE21.below hb hE21.lt
      clear hb hB st21 hE21
      have hn2 := Blk.new w22 28 256 (fun _ => 0)
      go_wp2_with (first | (refine wp_storeBlk rfl _ _ rfl _ (escZ z) _ rfl rfl hn2 ?_))
      intro w23 hF23 ho
      have hb : Below w22.heap.size w22 w23 := ((Below.refl _ _).alloc (Nat.le_refl _) _).trans (ho.below (Nat.le_refl _))
      have st23 := hkp.out _ _ st22 hb
      have hE23 := hE22.below hb hE22.lt
      clear hb ho hn2 st22 hE22
      generalize w22.heap.size = e1 at hF23 ⊢
      have hq := fun W => run_eql_block (escZ z) (escZ z) W
      have hq2 := fun W => run_eql_block (unescZ z) (unescZ z) W
      rw [eqB_refl] at hq hq2
      have hx1 : (escB z == escB z) = true := by simp
      generalize escB z = eb at hx1 ⊢
      have hB := st23.b
      clear hal
      go_wp2_with fail
      refine wp_region_S (RfSt w z e0 e1) (by kernel_rfl) (by kernel_rfl) ⟨st23.b, hE23, hF23, st23.bel.drew⟩ ?_
      clear st23 hE23 hF23 hB
      intro hne
      refine q_load rfl 28 _ rfl _ _ rfl (Ks .u8 256 (escZ z)) _ (fun W h => h.e.range) Try.underlying28 rfl (by rw [Ks_length]; exact info_block) ?_
      refine wpQuiet_frame (by simp only [Act.put, List.setIfInBounds_toArray, List.set_cons_succ, List.set_cons_zero]; exact rfl) ?_
      refine q_load rfl 28 _ rfl _ _ rfl (Ks .u8 256 (escZ z)) _ (fun W h => h.f.range) Try.underlying28 rfl (by rw [Ks_length]; exact info_block) ?_
      refine wpQuiet_frame (by simp only [Act.put, List.setIfInBounds_toArray, List.set_cons_succ, List.set_cons_zero]; exact rfl) ?_
      repeat (first | go_big_quiet_skip | (go_big_quiet_want; go_big_quiet_op; go_big_quiet_on))
      refine q_load rfl 28 _ rfl _ _ rfl (Ks .u8 256 (z)) _ (fun W h => h.b.range) Try.underlying28 rfl (by rw [Ks_length]; exact info_block) ?_
      refine wpQuiet_frame (by simp only [Act.put, List.setIfInBounds_toArray, List.set_cons_succ, List.set_cons_zero]; exact rfl) ?_
      go_big_quiet_want
      go_big_quiet_op
      refine ⟨_, fun s => q_call s (fun W hW => (unescape_any z hz W).mono fun e w' h => ⟨h.1, hW.below h.2⟩), ?_⟩
      go_big_quiet_on
      refine q_load rfl 28 _ rfl _ _ rfl (Ks .u8 256 (z)) _ (fun W h => h.b.range) Try.underlying28 rfl (by rw [Ks_length]; exact info_block) ?_
      refine wpQuiet_frame (by simp only [Act.put, List.setIfInBounds_toArray, List.set_cons_succ, List.set_cons_zero]; exact rfl) ?_
      go_big_quiet_want
      go_big_quiet_op
      refine ⟨_, fun s => q_call s (fun W hW => (rUnescape_any z hz W).mono fun e w' h => ⟨h.1, hW.below h.2⟩), ?_⟩
      go_big_quiet_on
      repeat (first | go_big_quiet_skip | (go_big_quiet_want; go_big_quiet_op; go_big_quiet_on))
      refine wpQuiet_nil ?_
      intro w30 h30
      have hL := h30.out.bel
      clear h30 hne
      go_wp2_with fail
      go_ret
      exact ⟨rfl, hL⟩
end Go.Proofs.Ytahobhifafiaeaa
