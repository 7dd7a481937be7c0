/- Texts of this claim, merged by a program (a claim may have 60 files): WScW. -/
import Derived.Test.YtnbmmhoofilmfaaDoorK43
/- The walk of ScanWritten. -/
namespace Go.Proofs.YtnbmmhoofilmfaaDoor
open Go.RowKit
set_option linter.unusedVariables false

theorem info_jfull (G S I J s t : Int) (ta : Option Addr) (tn tc : Nat) (ca : Option Addr) (cn cc : Nat) (oa : Option Addr) (on oc : Nat) : (Tryd.prog.info? 41).map (·.size) = some (jfull G S I J s t ta tn tc ca cn cc oa on oc).size := by kernel_rfl
set_option maxRecDepth 100000 in
set_option maxHeartbeats 16000000 in
theorem scanWritten_walk (G S I J s t : Int) (hb4 : ∀ x ∈ [G, S, I, J], -9223372036854775808 ≤ x ∧ x ≤ 9223372036854775807) (hs : 0 ≤ s ∧ s < 4294967296) (ht : -9223372036854775808 ≤ t ∧ t ≤ 9223372036854775807) (ta : Option Addr) (tn tc : Nat) (ca : Option Addr) (cn cc : Nat) (oa : Option Addr) (on oc : Nat) (D : Nat → TD)
    (la : Option Addr) (ln lc : Nat) (D' : Nat → TD) (w : World) (hT : Tab w) (hD : Tds w ta tn D) (hD' : Tds w la ln D') :
    Calls Tryd.prog 4 #[.agg (jfull G S I J s t ta tn tc ca cn cc oa on oc), .slice la ln lc] w fun e w' => e = .returned (.bool true) ∧ Below w.heap.size w w' := by
  have hTl := hT.lt
  have hJ : -9223372036854775808 ≤ J ∧ J ≤ 9223372036854775807 := hb4 J (by simp)
  have hlen := hD'.len
  have htlen := hD.len
  obtain ⟨jc, hjc⟩ : ∃ jc, jc = jfull G S I J s t ta tn tc ca cn cc oa on oc := ⟨_, rfl⟩
  have HJC := Lib.hid hjc
  obtain ⟨W0, hW0⟩ : ∃ W0, W0 = w.alloc (.cells (jfull G S I J s t ta tn tc ca cn cc oa on oc) 41) := ⟨_, rfl⟩
  have x0 : At W0 w.heap.size 41 jc := by rw [hW0, hjc]; exact At.new w _ _
  have B0 : Below w.heap.size w W0 := by rw [hW0]; exact (Below.refl _ _).alloc (Nat.le_refl _) _
  have HT := Lib.hid hT
  have HD := Lib.hid hD
  have HD' := Lib.hid hD'
  have HX0 := Lib.hid x0
  have HB0 := Lib.hid B0
  have HW0 := Lib.hid hW0
  have HG : Hid (∀ W, At W w.heap.size 41 jc → At W w.heap.size 41 (jfull G S I J s t ta tn tc ca cn cc oa on oc)) := fun W h => hjc ▸ h
  clear x0 B0 hW0 hT hD hD' hb4 hjc
  go_enter Tryd.func4, Tryd.ntmps4
  go_wp2_with fail
  rw [← HW0.out]
  refine (awake18 W0 (HT.out.below HB0.out (Nat.le_refl _))).mono ?_
  rintro e w1 ⟨rfl, hb1⟩
  have X1 := Lib.hid (HX0.out.below hb1 HX0.out.lt)
  have B1 := Lib.hid (HB0.out.trans (hb1.mono HB0.out.size))
  have xj := HG.out _ X1.out
  clear HX0 HB0 HW0 hb1
  go_wp2_with (first | (refine wp_loadAtG rfl 41 (.tmp 2) rfl _ _ _ rfl xj Tryd.underlying41 rfl (info_jfull _ _ _ _ _ _ _ _ _ _ _ _ _ _ _) ?_))
  refine (great18 G S I J s t ta tn tc ca cn cc oa on oc D w1 (HD.out.below B1.out)).mono ?_
  rintro e w2 ⟨x, rfl, hfew, hb2⟩
  have X2 := Lib.hid (X1.out.below hb2 X1.out.lt)
  have B2 := Lib.hid (B1.out.trans (hb2.mono B1.out.size))
  have HF := Lib.hid hfew
  clear X1 B1 xj hb2 hfew
  cases x with
  | true =>
    go_wp2_with fail
    go_ret
    exact ⟨rfl, B2.out⟩
  | false =>
  have HFEW := Lib.hid (HF.out rfl)
  clear HF
  by_cases h60 : (60 : Int) < (ln : Int)
  · go_wp2_with fail
    go_ret
    exact ⟨rfl, B2.out⟩
  have hg2 := jf_geo (HG.out _ X2.out)
  have hd60 : decide ((60 : Int) < (ln : Int)) = false := decide_eq_false h60
  go_wp2_with (first | (refine wp_loadMid rfl 23 (.tmp 30) rfl w.heap.size 0 (gcells G S I J).toList _ rfl hg2 Tryd.underlying23 rfl (by kernel_rfl) ?_))
  refine (geoMay_any G S I J w2).mono ?_
  rintro e w3 ⟨rfl, hb3⟩
  have X3 := Lib.hid (X2.out.below hb3 X2.out.lt)
  have B3 := Lib.hid (B2.out.trans (hb3.mono B2.out.size))
  clear X2 B2 hg2 hb3
  cases hm : mayG G S I J with
  | false =>
    clear hm
    go_wp2_with fail
    go_ret
    exact ⟨rfl, B3.out⟩
  | true =>
  have HM := Lib.hid hm
  clear hm
  have xj := HG.out _ X3.out
  have cJ : w3.cell? ⟨w.heap.size, 3, none⟩ = some (.int .i64 J) := xj.cell (i := 3) rfl
  have cs : w3.cell? ⟨w.heap.size, 4, none⟩ = some (.int .u32 s) := xj.cell (i := 4) rfl
  have ct : w3.cell? ⟨w.heap.size, 5, none⟩ = some (.int .i64 t) := xj.cell (i := 5) rfl
  have hg3 := jf_geo xj
  clear xj
  by_cases ht1 : t < 1
  · go_wp2_with fail
    go_ret
    exact ⟨rfl, B3.out⟩
  have hdt1 : decide (t < 1) = false := decide_eq_false ht1
  by_cases ht2 : J ≤ t
  · go_wp2_with fail
    go_ret
    exact ⟨rfl, B3.out⟩
  have hdt2 : decide (J ≤ t) = false := decide_eq_false ht2
  by_cases hs1 : s < 100
  · go_wp2_with fail
    go_ret
    exact ⟨rfl, B3.out⟩
  have hds1 : decide (s < 100) = false := decide_eq_false hs1
  by_cases hs2 : 1073741824 < s
  · go_wp2_with fail
    go_ret
    exact ⟨rfl, B3.out⟩
  have hds2 : decide (1073741824 < s) = false := decide_eq_false hs2
  go_wp2_with (first | (refine wp_loadMid rfl 23 (.tmp 62) rfl w.heap.size 0 (gcells G S I J).toList _ rfl hg3 Tryd.underlying23 rfl (by kernel_rfl) ?_))
  refine (geoBlocks_any G S I J w3).mono ?_
  rintro e w4 ⟨rfl, hb4⟩
  have X4 := Lib.hid (X3.out.below hb4 X3.out.lt)
  have B4 := Lib.hid (B3.out.trans (hb4.mono B3.out.size))
  clear X3 B3 cJ cs ct hg3 hb4
  obtain ⟨N, j, hN, hJj, hj1, hj2, hN1, hN2⟩ : ∃ N j : Nat, nBl G S I J = (N : Int) ∧ J = (j : Int) ∧ 40 ≤ j ∧ j ≤ 256 ∧ 2 + j ≤ N ∧ N ≤ 2048 := by
    obtain ⟨h1, h2, h3, h4, _, _, _, h8, h9, _, h5⟩ := (mayG_iff G S I J).1 HM.out
    have := (GS_bd h1 h2 h3 h4).1
    refine ⟨(2 + J + G * S).toNat, J.toNat, ?_, by omega, by omega, by omega, by omega, by omega⟩
    unfold nBl
    rw [if_pos HM.out]; omega
  subst hJj
  rw [hN]
  obtain ⟨T, hTe⟩ : ∃ T : Nat, t = (T : Int) := ⟨t.toNat, by omega⟩
  subst hTe
  have HN := Lib.hid hN
  clear hN
  have hmk := run_mk18 N hN2 w4
  obtain ⟨q, hq⟩ : ∃ q, q = w4.heap.size := ⟨_, rfl⟩
  obtain ⟨W1, hW1⟩ : ∃ W1, W1 = w4.alloc (.cells (madeCells (bval fun _ => 0).cells (N * 256)) 32) := ⟨_, rfl⟩
  have ST1 : Hid (SwA w jc q N (fun _ _ => 0) W1) := by
    rw [hW1]
    exact ⟨X4.out.alloc _, by rw [hq]; exact img_mk18 w4 N, B4.out.trans ((Below.refl _ _).alloc B4.out.size _)⟩
  have HQ : Hid (w.heap.size < q) := by rw [hq]; exact X4.out.lt
  rw [← hq, ← hW1] at hmk
  clear X4 B4 hq hW1
  go_wp2_with fail
  clear hmk
  go_loopw [6, 7] (fun u v wr => ∃ (i a : Nat) (f : Nat → Nat → Int), u = .int .i64 (a : Int) ∧ v = .int .i64 (i : Int) ∧ i ≤ ln ∧ 1 ≤ a ∧ a ≤ 1 + i * 255 ∧ Lows f s ∧ SwA w jc q N f wr) (fun _ v _ => ln - (intOf v).toNat)
  case atStart => exact ⟨0, 1, fun _ _ => 0, rfl, rfl, Nat.zero_le _, by decide, by decide, Lows.zero (by omega), ST1.out⟩
  case round =>
    clear ST1
    obtain ⟨i, a, f, rfl, rfl, hi, ha, ha9, hlow, st⟩ := hrel
    have HLO := Lib.hid hlow
    have ST := Lib.hid st
    clear hlow st
    by_cases hlt : i < ln
    · have hlt' : (i : Int) < (ln : Int) := by omega
      have i0 : (0 : Int) ≤ (i : Int) := by omega
      have i60 : (i : Int) < 60 := by omega
      have td := HD'.out.below ST.out.bel
      obtain ⟨b, off, rfl⟩ := td.at hlt
      obtain ⟨c1, c2⟩ := td.cell hlt
      clear td
      obtain ⟨d, hd⟩ : ∃ d, d = D' i := ⟨_, rfl⟩
      rw [← hd] at c1 c2
      have HDD : Hid (∀ W, Below w.heap.size w W → (W.cell? ⟨b, off + i * 4 + 1, none⟩ = some (.slice d.ra d.rn d.rc) ∧ W.cell? ⟨b, off + i * 4 + 2, none⟩ = some (.slice d.va d.vn d.vc)) ∧ d.In W) := fun W hB => by
        rw [hd]
        exact ⟨(HD'.out.below hB).cell hlt, (HD'.out.below hB).all i hlt⟩
      clear hd
      by_cases hr30 : (30 : Int) < (d.rn : Int)
      · go_wp2_with fail
        go_ret
        exact ⟨rfl, ST.out.bel⟩
      by_cases hr60 : (60 : Int) < (d.vn : Int)
      · go_wp2_with fail
        go_ret
        exact ⟨rfl, ST.out.bel⟩
      obtain ⟨r, hr⟩ : ∃ r : Nat, r = i % 40 := ⟨_, rfl⟩
      have hrem : (i : Int).tmod 40 = (r : Int) := by
        rw [show (40 : Int) = ((40 : Nat) : Int) from rfl, ← Int.ofNat_tmod, hr]
      have r0 : (0 : Int) ≤ (r : Int) := by omega
      have r9 : (r : Int) ≤ 39 := by omega
      obtain ⟨tr, htr⟩ : ∃ tr, tr = d.t (s - (r : Int) - 1) := ⟨_, rfl⟩
      have HTR := Lib.hid htr
      clear htr hr
      go_wp2_with fail
      refine Mv.wp_region_mc (C12 w jc q N f tr) ⟨0, undef⟩ (by kernel_rfl) (by kernel_rfl) (by kernel_rfl) ⟨ST.out.drew _, (fun h => by cases h), (fun h => by cases h)⟩ ?_
      clear ST c1 c2
      intro hne
      have d4 : ∀ y : InW (fun W => ∃ s, C12 w jc q N f tr s W), y.W.cell? ⟨w.heap.size, 4, none⟩ = some (.int .u32 s) := fun y => by obtain ⟨_, h⟩ := y.h; exact (HG.out _ h.a.x).cell (i := 4) rfl
      have d1 : ∀ y : InW (fun W => ∃ s, C12 w jc q N f tr s W), y.W.cell? ⟨b, off + i * 4 + 1, none⟩ = some (.slice d.ra d.rn d.rc) := fun y => by obtain ⟨_, h⟩ := y.h; exact (HDD.out _ h.a.bel).1.1
      have d2 : ∀ y : InW (fun W => ∃ s, C12 w jc q N f tr s W), y.W.cell? ⟨b, off + i * 4 + 2, none⟩ = some (.slice d.va d.vn d.vc) := fun y => by obtain ⟨_, h⟩ := y.h; exact (HDD.out _ h.a.bel).1.2
      (refine Mv.lin_take 18 (by kernel_rfl) ?_; simp only [List.take_succ_cons, List.take_zero, List.drop_succ_cons, List.drop_zero])
      first | go_big_quiet_skip | (go_big_quiet_want; go_big_quiet_op; go_big_quiet_on)
      first | go_big_quiet_skip | (go_big_quiet_want; go_big_quiet_op; go_big_quiet_on)
      first | go_big_quiet_skip | (go_big_quiet_want; go_big_quiet_op; go_big_quiet_on)
      first | go_big_quiet_skip | (go_big_quiet_want; go_big_quiet_op; go_big_quiet_on)
      first | go_big_quiet_skip | (go_big_quiet_want; go_big_quiet_op; go_big_quiet_on)
      first | go_big_quiet_skip | (go_big_quiet_want; go_big_quiet_op; go_big_quiet_on)
      first | go_big_quiet_skip | (go_big_quiet_want; go_big_quiet_op; go_big_quiet_on)
      first | go_big_quiet_skip | (go_big_quiet_want; go_big_quiet_op; go_big_quiet_on)
      first | go_big_quiet_skip | (go_big_quiet_want; go_big_quiet_op; go_big_quiet_on)
      first | go_big_quiet_skip | (go_big_quiet_want; go_big_quiet_op; go_big_quiet_on)
      first | go_big_quiet_skip | (go_big_quiet_want; go_big_quiet_op; go_big_quiet_on)
      first | go_big_quiet_skip | (go_big_quiet_want; go_big_quiet_op; go_big_quiet_on)
      first | go_big_quiet_skip | (go_big_quiet_want; go_big_quiet_op; go_big_quiet_on)
      first | go_big_quiet_skip | (go_big_quiet_want; go_big_quiet_op; go_big_quiet_on)
      first | go_big_quiet_skip | (go_big_quiet_want; go_big_quiet_op; go_big_quiet_on)
      first | go_big_quiet_skip | (go_big_quiet_want; go_big_quiet_op; go_big_quiet_on)
      first | go_big_quiet_skip | (go_big_quiet_want; go_big_quiet_op; go_big_quiet_on)
      first | go_big_quiet_skip | (go_big_quiet_want; go_big_quiet_op; go_big_quiet_on)
      refine wpQuiet_nil ?_
      refine Mv.lin_callE rfl rfl 15 #[.int .u32 (s - (r : Int) - 1), .slice d.ra d.rn d.rc, .slice d.va d.vn d.vc] (fun W => by kernel_rfl) (fun W hW => ?_)
      have hsq : 0 ≤ s - (r : Int) - 1 ∧ s - (r : Int) - 1 < 4294967296 := by omega
      have hok : tr.Ok := by rw [HTR.out]; exact TD.ok hsq (HDD.out W hW.a.bel).2
      have HOK := Lib.hid hok
      have htn : tr.n = d.rn := by rw [HTR.out]; rfl
      have htm : tr.m = d.vn := by rw [HTR.out]; rfl
      have hts : tr.s = s - (r : Int) - 1 := by rw [HTR.out]; rfl
      refine (td_trans d (s - (r : Int) - 1) hsq W (HDD.out W hW.a.bel).2 (by omega) (by omega)).mono ?_
      rintro e w5 ⟨ca1, cc1, ra1, rc1, rfl, hv5, hb5⟩
      rw [← HTR.out] at hv5
      refine ⟨_, ⟨1, tval tr.s ca1 tr.n cc1 ra1 tr.m rc1⟩, rfl, ⟨hW.a.below hb5, fun _ => ⟨ca1, cc1, ra1, rc1, rfl, hv5.low (by have := hW.a.a.lt; omega)⟩, (fun h => by cases h)⟩, ?_⟩
      clear hW hv5 hb5
      have htv : tval (s - (r : Int) - 1) ca1 d.rn cc1 ra1 d.vn rc1 = tval tr.s ca1 tr.n cc1 ra1 tr.m rc1 := by rw [htn, htm, hts]
      rw [htv]
      clear htv
      refine Mv.frame (by simp only [Act.put, List.setIfInBounds_toArray, List.set_cons_succ, List.set_cons_zero]; exact rfl) ?_
      refine Mv.lin_callE rfl rfl 14 #[tval tr.s ca1 tr.n cc1 ra1 tr.m rc1] (fun W => by kernel_rfl) (fun W hW => ?_)
      obtain ⟨ca2, cc2, ra2, rc2, he, hv⟩ := hW.mid rfl
      obtain ⟨rfl, rfl, rfl, rfl⟩ := tval_inj he
      refine (tv_pack tr HOK.out (q + 1) ca1 cc1 ra1 rc1 W (HT.out.below hW.a.bel (Nat.le_refl _)) hv).mono ?_
      rintro e w6 ⟨hp, hb6⟩
      obtain ⟨la1, n1, rfl, hL⟩ := hp.la hW.a.a.lt
      refine ⟨_, ⟨2, .tuple #[.slice la1 n1 n1, .int .i64 (packE tr)]⟩, rfl, ⟨hW.a.below hb6, (fun h => by cases h), fun _ => ⟨la1, n1, rfl, hL⟩⟩, ?_⟩
      clear hW he hv hp hb6 hL
      refine Mv.frame (by simp only [Act.put, List.setIfInBounds_toArray, List.set_cons_succ, List.set_cons_zero]; exact rfl) ?_
      (refine Mv.lin_take 5 (by kernel_rfl) ?_; simp only [List.take_succ_cons, List.take_zero, List.drop_succ_cons, List.drop_zero])
      first | go_big_quiet_skip | (go_big_quiet_want; go_big_quiet_op; go_big_quiet_on)
      first | go_big_quiet_skip | (go_big_quiet_want; go_big_quiet_op; go_big_quiet_on)
      first | go_big_quiet_skip | (go_big_quiet_want; go_big_quiet_op; go_big_quiet_on)
      first | go_big_quiet_skip | (go_big_quiet_want; go_big_quiet_op; go_big_quiet_on)
      first | go_big_quiet_skip | (go_big_quiet_want; go_big_quiet_op; go_big_quiet_on)
      refine wpQuiet_nil ?_
      refine Mv.wpLin_nil ?_
      intro w7 h7
      obtain ⟨la2, n2, he, hL⟩ := h7.fin rfl
      obtain ⟨rfl, rfl⟩ : la1 = la2 ∧ n1 = n2 := by simp at he; exact ⟨he.1, he.2⟩
      have ST7 := Lib.hid h7.a
      have HL := Lib.hid hL
      have hg7 := jf_geo (HG.out _ ST7.out.x)
      have HLE := Lib.hid hL.le
      clear h7 he hL hne d4 d1 d2
      go_wp2_with (first | (refine wp_loadMid rfl 23 (.tmp 116) rfl w.heap.size 0 (gcells G S I j).toList _ rfl hg7 Tryd.underlying23 rfl (by kernel_rfl) ?_))
      have hn1 : n1 ≤ 255 := HLE.out
      refine (lay18_any q N f G S I j a la1 n1 n1 (pkB tr) (by omega) hj2 hN1 hN2 ha (by omega) (by omega) w7 ST7.out.a HL.out.r (fun b' off' e _ => by have := HL.out.q b' off' e; omega)).mono ?_
      rintro e w8 ⟨rfl, hA8, hg8⟩
      have ST8 := Lib.hid (ST7.out.lay HQ.out hA8 hg8)
      have LO8 : Hid (Lows (layI f (pkB tr) j a n1) s) := by
        by_cases hE : packE tr = 0
        · rw [HL.out.yes hE]
          exact HLO.out.lay HOK.out hE (by omega) (by omega) j a
        · rw [HL.out.no hE]; exact HLO.out
      clear ST7 HL hg7 hA8 hg8 HLO HLE htn htm hts
      go_wp2_with fail
      go_roundw
      case rel => first | exact ⟨i + 1, a + n1, _, by first | rfl | go_num, by first | rfl | go_num, by omega, by omega, by omega, LO8.out, ST8.out⟩ | ((repeat apply Exists.intro); exact ⟨⟨i + 1, a + n1, _, by first | rfl | go_num, by first | rfl | go_num, by omega, by omega, by omega, LO8.out, ST8.out⟩, rfl⟩)
      case measure => simp [intOf]; omega
    · obtain rfl : i = ln := by omega
      have hh := jf_head (HG.out _ ST.out.x)
      go_wp2_with (first | (refine wp_loadMid rfl 36 (.tmp 123) rfl w.heap.size 4 [.int .u32 s, .int .i64 (T : Int)] _ rfl hh Tryd.underlying36 rfl (by kernel_rfl) ?_))
      refine (writeHead_any s (T : Int) wr (by omega) (by omega)).mono ?_
      rintro e w5 ⟨rfl, hb5⟩
      have ST5 := Lib.hid (ST.out.below hb5)
      have PL0 := PutL.zero (G := G) (S := S) (I := I) (J := (j : Int)) (j := j) (t := T) HLO.out (headZ_byt18 s T)
      obtain ⟨H, hH⟩ : ∃ H, H = headZ s (T : Int) := ⟨_, rfl⟩
      rw [← hH] at PL0
      rw [← hH]
      have hth := ST5.out.a.there (k := 2) (by omega)
      have hset := Lib.hid (ST5.out.a.set (k := 2) (by omega) (vs := Ks .u8 256 H) (by simp [Ks]) (bkF_len _))
      obtain ⟨f2, hf2⟩ : ∃ f2 : Nat → Nat → Int, f2 = fun b => if b = 2 then H else f b := ⟨_, rfl⟩
      rw [← hf2] at PL0
      have ST6 : Hid (SwA w jc q N f2 (w5.setCells q (2 * 256) (Ks .u8 256 H))) := by
        have ho := hset.out.2
        have hq := HQ.out
        refine ⟨ST5.out.x.only ho (by omega), hset.out.1.congr fun c _ => ?_, ST5.out.bel.trans (ho.below (by omega))⟩
        unfold bkF
        rw [hf2]
        dsimp only
        split <;> rfl
      have hthD : w5.there q (2 * 256) (Ks .u8 256 H).length := by rw [Ks_length]; exact hth
      have HPL := Lib.hid PL0
      clear ST ST5 hh hb5 hset hth hH hf2 HLO PL0
      go_wp2_with (first | (refine wp_storeMid rfl 32 (.tmp 128) (.tmp 126) rfl q (2 * 256) (Ks .u8 256 H) rfl rfl hthD (by rw [Ks_length]; exact info_block) (Ks_oneL _ _ _) ?_))
      intro w6 hw6
      rw [← hw6.out] at ST6
      clear hw6 hthD
      go_wp2_with fail
      refine wp_region_S (SwA w jc q N f2) (by kernel_rfl) (by kernel_rfl) (ST6.out.drew _) ?_
      clear ST6
      intro hne
      have d3 : ∀ y : InW (SwA w jc q N f2), y.W.cell? ⟨w.heap.size, 3, none⟩ = some (.int .i64 (j : Int)) := fun y => (HG.out _ y.h.x).cell (i := 3) rfl
      have d5 : ∀ y : InW (SwA w jc q N f2), y.W.cell? ⟨w.heap.size, 5, none⟩ = some (.int .i64 (T : Int)) := fun y => (HG.out _ y.h.x).cell (i := 5) rfl
      repeat (first | go_big_quiet_skip | (go_big_quiet_want; go_big_quiet_op; go_big_quiet_on))
      refine wpQuiet_nil ?_
      intro w7 h7
      have ST7 := Lib.hid h7.out
      clear h7 hne d3 d5
      go_wp2_with fail
      go_loopw [6, 10, 11, 12] (fun u v x y wr => ∃ (i k : Nat) (rm : Int) (l : List Tr) (wa : Option Addr) (wc : Nat) (f : Nat → Nat → Int), u = .int .i64 ((T + k : Nat) : Int) ∧ v = .int .i64 rm ∧ rm = (j : Int) - 1 - (k : Int) ∧ x = .slice wa l.length wc ∧ y = .int .i64 (i : Int) ∧ i ≤ tn ∧ l.length ≤ i ∧
        PutL f G S I (j : Int) s j T l k ∧ SwA w jc q N f wr ∧ TrM wr (q + 1) (.slice wa l.length wc) l) (fun _ _ _ y _ => tn - (intOf y).toNat)
      case atStart => exact ⟨0, 0, _, [], none, 0, f2, rfl, rfl, by simp, rfl, rfl, Nat.zero_le _, Nat.le_refl _, HPL.out, ST7.out, TrM.nil _ _⟩
      case round =>
        clear ST7 HPL
        obtain ⟨i, k, rm, l, wa, wc, f, rfl, rfl, hrm, rfl, rfl, hi, hli, hpl, st, hv⟩ := hrel
        have HPL := Lib.hid hpl
        have ST := Lib.hid st
        have HV := Lib.hid hv
        have HRM := Lib.hid hrm
        have hrm9 : -256 ≤ rm ∧ rm ≤ 256 := by have := hpl.room; omega
        clear hrm
        have c6 : wr.cell? ⟨w.heap.size, 6, none⟩ = some (.slice ta tn tc) := (HG.out _ st.x).cell (i := 6) rfl
        have hkj := hpl.room
        have hf60 := HFEW.out.1
        clear hpl st hv
        obtain ⟨A, hA⟩ : ∃ A : Nat, A = T + k := ⟨_, rfl⟩
        have HAT := Lib.hid hA
        have hA1 : 1 ≤ A ∧ A ≤ 600 := by omega
        rw [← hA]
        clear hA
        obtain ⟨n, hn⟩ : ∃ n, n = l.length := ⟨_, rfl⟩
        have HLN := Lib.hid hn
        rw [← hn] at hli ⊢
        clear hn
        by_cases hlt : i < tn
        · have hlt' : (i : Int) < (tn : Int) := by omega
          have i0 : (0 : Int) ≤ (i : Int) := by omega
          have td := HD.out.below ST.out.bel
          obtain ⟨b, off, rfl⟩ := td.at hlt
          obtain ⟨d, hd⟩ : ∃ d, d = D i := ⟨_, rfl⟩
          have HDD : Hid (∀ W, Below w.heap.size w W → (W.cell? ⟨b, off + i * 4 + 1, none⟩ = some (.slice d.ra d.rn d.rc) ∧ W.cell? ⟨b, off + i * 4 + 2, none⟩ = some (.slice d.va d.vn d.vc)) ∧ d.In W) := fun W hB => by
            rw [hd]
            exact ⟨(HD.out.below hB).cell hlt, (HD.out.below hB).all i hlt⟩
          have HDN : Hid (d.rn ≤ 2000 ∧ d.vn ≤ 2000) := by rw [hd]; exact HFEW.out.2 i hlt
          clear td hd
          have n0 : (0 : Int) ≤ (n : Int) := by omega
          have n9 : (n : Int) ≤ 60 := by omega
          obtain ⟨tr, htr⟩ : ∃ tr, tr = d.t (s + (n : Int)) := ⟨_, rfl⟩
          have HTR := Lib.hid htr
          clear htr
          have hsq : 0 ≤ s + (n : Int) ∧ s + (n : Int) < 4294967296 := by omega
          have HOK : Hid tr.Ok := by rw [HTR.out]; exact TD.ok hsq (HDD.out wr ST.out.bel).2
          obtain ⟨B, hB⟩ : ∃ B, B = wr.heap.size := ⟨_, rfl⟩
          have hqB : q < B := by rw [hB]; exact ST.out.a.lt
          have HQB := Lib.hid hqB
          have HVB : Hid (∀ g, (Value.slice wa l.length wc).ownBlock = some g → g < B) := fun g e => by
            rw [hB]
            obtain ⟨_, _, _, _, h1, _⟩ := HV.out
            exact (World.ownsRow.lt h1 g e).2
          have HBB := Lib.hid hB
          clear hB hqB
          go_wp2_with fail
          apply Vp.wp_region_pre 19 (V20 q B tr) (S20 w jc q N f B wa wc l) (SwA w jc q N f)
          case hm => kernel_rfl
          case hd => kernel_rfl
          case hpre => kernel_rfl
          case hB => kernel_rfl
          case hVl => exact fun l l' he i v W h => h.below (he 21 (by decide) (by decide)).symm (Below.refl _ _)
          case hS => exact fun l l' W he h => h.below (by rw [← he 21 (by decide) (by decide), ← he 20 (by decide) (by decide), ← he 19 (by decide) (by decide)]; exact h.l) (Below.refl _ _)
          case hSC => exact fun l W h => h.a
          case hVb => exact fun l i v W W' h hb => h.below rfl hb
          case hSb => exact fun l W W' h hb _ => h.below h.l hb
          case h0 => exact ⟨ST.out.drew _, HV.out.below ⟨rfl, rfl, rfl, Nat.le_refl _, fun _ _ => rfl⟩, HVB.out, by rw [HBB.out]; exact Nat.le_refl _, fun e => by cases e⟩
          case hwalk =>
            simp only [List.take_succ_cons, List.take_zero]
            intro R hR hne
            have d4 : ∀ y : InW (fun W => SwA w jc q N f W ∧ R W), y.W.cell? ⟨w.heap.size, 4, none⟩ = some (.int .u32 s) := fun y => (HG.out _ y.h.1.x).cell (i := 4) rfl
            have d6 : ∀ y : InW (fun W => SwA w jc q N f W ∧ R W), y.W.cell? ⟨w.heap.size, 6, none⟩ = some (.slice (some ⟨b, off, none⟩) tn tc) := fun y => (HG.out _ y.h.1.x).cell (i := 6) rfl
            have d1 : ∀ y : InW (fun W => SwA w jc q N f W ∧ R W), y.W.cell? ⟨b, off + i * 4 + 1, none⟩ = some (.slice d.ra d.rn d.rc) := fun y => (HDD.out _ y.h.1.bel).1.1
            have d2 : ∀ y : InW (fun W => SwA w jc q N f W ∧ R W), y.W.cell? ⟨b, off + i * 4 + 2, none⟩ = some (.slice d.va d.vn d.vc) := fun y => (HDD.out _ y.h.1.bel).1.2
            repeat (first | go_big_quiet_skip | (go_big_quiet_want; go_big_quiet_op; go_big_quiet_on))
            exact wpQuiet_nil rfl
          case hst =>
            simp only [List.drop_succ_cons, List.drop_zero]
            refine ⟨?_, ?_, ?_, trivial⟩
            · intro l' a W hl hu h
              have e1 : a.tmps.getD 149 undef = .int .u32 (s + (n : Int)) := (h.vals 6 149 (op_up hu 6 (by kernel_rfl)) rfl).pre (by decide) rfl
              have e2 : a.tmps.getD 155 undef = .slice d.ra d.rn d.rc := (h.vals 12 155 (op_up hu 12 (by kernel_rfl)) rfl).pre (by decide) rfl
              have e3 : a.tmps.getD 161 undef = .slice d.va d.vn d.vc := (h.vals 18 161 (op_up hu 18 (by kernel_rfl)) rfl).pre (by decide) rfl
              have hl21 : l' 21 = false := by
                cases e : l' 21 with
                | false => rfl
                | true => have := (h.st.l e).2; rw [hl] at this; cases this
              refine Vm.step h (by kernel_rfl) rfl rfl rfl hl (Vl.op_call 15 #[.int .u32 (s + (n : Int)), .slice d.ra d.rn d.rc, .slice d.va d.vn d.vc] (r_call3 15 (.tmp 149) (.tmp 155) (.tmp 161) _ _ _ _ rfl e1 e2 e3 (by kernel_rfl)) ?_)
              refine (td_trans d (s + (n : Int)) hsq W (HDD.out W h.st.a.bel).2 (by have := HDN.out; omega) (by have := HDN.out; omega)).mono ?_
              rintro e W' ⟨ca1, cc1, ra1, rc1, rfl, hv5, hb5⟩
              rw [← HTR.out] at hv5
              have htn : tr.n = d.rn := by rw [HTR.out]; rfl
              have htm : tr.m = d.vn := by rw [HTR.out]; rfl
              have hts : tr.s = s + (n : Int) := by rw [HTR.out]; rfl
              exact ⟨_, rfl, _, rfl, fun i d _ _ hv => hv.up fun _ hv => hv.below rfl hb5, Vp.W.mk (by decide) ⟨ca1, cc1, ra1, rc1, by rw [htn, htm, hts], hv5.low (by have := h.st.b; have := HQB.out; omega)⟩, h.st.below (fun e => by have e : l' 21 = true := e; rw [hl21] at e; cases e) hb5⟩
            · intro l' a W hl hu h
              have hl21 : l' 21 = false := by
                cases e : l' 21 with
                | false => rfl
                | true => have := (h.st.l e).1; rw [hl] at this; cases this
              have hb : Below W.heap.size W (W.alloc (.cells (tcells 0 none 0 0 none 0 0) 51)) := (Below.refl _ _).alloc (Nat.le_refl _) _
              exact Vm.step h (by kernel_rfl) rfl rfl rfl hl (op_val (Vl.r_alloc 51 rfl (run_alloc_trans18 W)) ⟨_, rfl, fun i d _ _ hv => hv.up fun _ hv => hv.below rfl hb, Vp.W.mk (by decide) ⟨W.heap.size, rfl, h.st.b, fun _ => At.new W _ _, fun e => by have e : l' 21 = true := e; rw [hl21] at e; cases e⟩, h.st.below (fun e => by have e : l' 21 = true := e; rw [hl21] at e; cases e) hb⟩)
            · intro l' a W hl hu h
              obtain ⟨ca1, cc1, ra1, rc1, e19, hv⟩ := (h.vals 19 162 (op_up hu 19 (by kernel_rfl)) rfl).post (by decide)
              obtain ⟨p, e20, hp, h0, _⟩ := (h.vals 20 13 (op_up hu 20 (by kernel_rfl)) rfl).post (by decide)
              have hA0 := h0 hl
              refine Vm.step h (by kernel_rfl) rfl rfl rfl hl (op_strow 51 (.tmp 13) (.tmp 162) rfl p (tcells tr.s ca1 tr.n cc1 ra1 tr.m rc1) _ e20 e19 hA0 (info_trans _ _ _ _ _ _ _) rfl (all_trans _ _ _ _ _ _ _) ?_)
              intro W' hA' ho
              refine ⟨_, rfl, fun i d _ hd hv' => hv'.up fun hi hv' => ?_, Vp.W.mk (by decide) trivial, h.st.store (fun _ => ⟨op_up hu 20 (by kernel_rfl), op_up hu 19 (by kernel_rfl)⟩) HQ.out HQB.out hp hA0 ho⟩
              by_cases h19 : i = 19
              · subst h19
                obtain ⟨ca2, cc2, ra2, rc2, e2, hv2⟩ := hv'
                exact ⟨ca2, cc2, ra2, rc2, e2, hv2.onlyP hA0 (by decide) (by decide) ho⟩
              by_cases h20 : i = 20
              · subst h20
                have hd : some 13 = some d := hd
                injection hd with hd
                subst hd
                exact ⟨p, e20, hp, (fun e => by have e : true = false := e; cases e), fun _ => ⟨ca1, cc1, ra1, rc1, hA', hv.onlyP hA0 (by decide) (by decide) ho⟩⟩
              unfold V20
              rw [if_neg h19, if_neg h20]
              trivial
          intro a' w8 h hall
          have hall2 := hall [162, 13] (by kernel_rfl)
          clear hall
          obtain ⟨ca1, cc1, ra1, rc1, e19, _⟩ := (h.vals 19 162 rfl rfl).post (by decide)
          obtain ⟨p, e20, hp, _, h4⟩ := (h.vals 20 13 rfl rfl).post (by decide)
          obtain ⟨ca2, cc2, ra2, rc2, hA8, hv8⟩ := h4 rfl
          have ST8 := Lib.hid h.st.a
          have TV8 := Lib.hid h.st.v
          have HA8 := Lib.hid hA8
          have HV8 := Lib.hid hv8
          rw [List.foldl_cons, List.foldl_cons, List.foldl_nil, e19, e20] at hall2
          simp only [Act.put, List.setIfInBounds_toArray, List.set_cons_succ, List.set_cons_zero] at hall2
          subst hall2
          have HPB : Hid (B ≤ p) := hp
          clear h h4 e19 e20 hv8 hp ST HV HBB c6
          go_wp2_with (first | (refine wp_loadAtG rfl 51 (.tmp 13) rfl _ _ _ rfl hA8 Tryd.underlying51 rfl (info_trans _ _ _ _ _ _ _) ?_))
          refine (tv_pack tr HOK.out (q + 1) ca2 cc2 ra2 rc2 w8 (HT.out.below ST8.out.bel (Nat.le_refl _)) HV8.out).mono ?_
          rintro e w9 ⟨hp9, hb9⟩
          obtain ⟨la1, n1, rfl, hL⟩ := hp9.la ST8.out.a.lt
          have ST9 := Lib.hid (ST8.out.below hb9)
          have TV9 := Lib.hid (TV8.out.below hb9)
          have HA9 := Lib.hid (HA8.out.below hb9 HA8.out.lt)
          have HV9 := Lib.hid (HV8.out.below hb9)
          have HL := Lib.hid hL
          have HLE := Lib.hid hL.le
          obtain ⟨E, hE⟩ : ∃ E, E = packE tr := ⟨_, rfl⟩
          have HEE := Lib.hid hE
          rw [← hE]
          clear ST8 TV8 HA8 HV8 hA8 hp9 hb9 hL hE
          have hn255 : n1 ≤ 255 := HLE.out
          by_cases hE0 : E = 0
          · subst hE0
            by_cases hroom : rm < (n1 : Int)
            · go_wp2_with fail
              go_roundw
              case rel => first | exact ⟨i + 1, k, rm, l, wa, wc, f, by rw [HAT.out], rfl, HRM.out, by rw [HLN.out], by first | rfl | go_num, by omega, by have := HLN.out; omega, HPL.out, ST9.out, TV9.out⟩ | ((repeat apply Exists.intro); exact ⟨⟨i + 1, k, rm, l, wa, wc, f, by rw [HAT.out], rfl, HRM.out, by rw [HLN.out], by first | rfl | go_num, by omega, by have := HLN.out; omega, HPL.out, ST9.out, TV9.out⟩, rfl⟩)
              case measure => simp [intOf]; omega
            · have hdroom : decide (rm < (n1 : Int)) = false := decide_eq_false hroom
              have hg9 := jf_geo (HG.out _ ST9.out.x)
              have hA9 := HA9.out
              go_wp2_with (first | (refine wp_loadMid rfl 23 (.tmp 177) rfl w.heap.size 0 (gcells G S I j).toList _ rfl hg9 Tryd.underlying23 rfl (by kernel_rfl) ?_) | (refine wp_loadAtG rfl 51 (.tmp 13) rfl _ _ _ rfl hA9 Tryd.underlying51 rfl (info_trans _ _ _ _ _ _ _) ?_))
              refine (outside18_any G S I (j : Int) tr.s tr.n tr.m tr.cb tr.cd tr.rv ca2 cc2 ra2 rc2 HOK.out.cb HOK.out.rv HOK.out.n HOK.out.m w9 (RMine.row HV9.out.c (cpF_len _ _)) (RMine.row HV9.out.r (inF_len _))).mono ?_
              rintro e wA ⟨rfl, hbA⟩
              have STA := Lib.hid (ST9.out.below hbA)
              have TVA := Lib.hid (TV9.out.below hbA)
              have HTA := Lib.hid (HA9.out.below hbA HA9.out.lt)
              have HVA := Lib.hid (HV9.out.below hbA)
              have HLA := Lib.hid (HL.out.below hbA)
              have hrm1 : (n1 : Int) ≤ rm := by omega
              clear ST9 TV9 HA9 HV9 HL hg9 hA9 hbA
              obtain ⟨o, hO⟩ : ∃ o, o = outT G S I (j : Int) tr.n tr.cb tr.m tr.rv := ⟨_, rfl⟩
              have HO := Lib.hid hO
              rw [← hO]
              clear hO
              cases o with
              | false =>
                go_wp2_with fail
                go_roundw
                case rel => first | exact ⟨i + 1, k, rm, l, wa, wc, f, by rw [HAT.out], rfl, HRM.out, by rw [HLN.out], by first | rfl | go_num, by omega, by have := HLN.out; omega, HPL.out, STA.out, TVA.out⟩ | ((repeat apply Exists.intro); exact ⟨⟨i + 1, k, rm, l, wa, wc, f, by rw [HAT.out], rfl, HRM.out, by rw [HLN.out], by first | rfl | go_num, by omega, by have := HLN.out; omega, HPL.out, STA.out, TVA.out⟩, rfl⟩)
                case measure => simp [intOf]; omega
              | true =>
                have hgA := jf_geo (HG.out _ STA.out.x)
                go_wp2_with (first | (refine wp_loadMid rfl 23 (.tmp 184) rfl w.heap.size 0 (gcells G S I j).toList _ rfl hgA Tryd.underlying23 rfl (by kernel_rfl) ?_))
                refine (lay18_any q N f G S I j A la1 n1 n1 (pkB tr) (by omega) hj2 hN1 hN2 hA1.1 (by omega) (by omega) wA STA.out.a HLA.out.r (fun b' off' e _ => by have := HLA.out.q b' off' e; omega)).mono ?_
                rintro e wB ⟨rfl, hAB, hgB⟩
                have STB := Lib.hid (STA.out.lay HQ.out hAB hgB)
                have TVB := TVA.out.laid hgB
                have hTB : At wB p 51 (tcells tr.s ca2 tr.n cc2 ra2 tr.m rc2) := HTA.out.grownQ hgB (by have := HPB.out; have := HQB.out; omega)
                have HVB2 := HVA.out.laid hgB
                have hc1 : n1 = tr.c + 1 := HLA.out.yes HEE.out.symm
                have HPN : Hid (PutL (layI f (pkB tr) j A n1) G S I (j : Int) s j T (l ++ [tr]) (k + n1)) := by
                  rw [hc1, HAT.out]
                  exact HPL.out.snoc (by omega) (by omega) HOK.out (by rw [HTR.out]; exact fun i hi => TD.z i hi) HEE.out.symm (by rw [HTR.out, ← HLN.out]; rfl) (by unfold outTr; exact HO.out.symm) (by have := HRM.out; omega)
                obtain ⟨xs, hown, hsn⟩ := TrM.snoc TVB HVB2.c HVB2.r
                rw [← HLN.out] at hown hsn
                have HSN := Lib.hid hsn
                have hbs1 := fun W => run_trans1 tr.s ca2 tr.n cc2 ra2 tr.m rc2 W
                have hown2 : World.ownsRow (wB.alloc (.cells (tcells tr.s ca2 tr.n cc2 ra2 tr.m rc2) 51)) (q + 1) 51 3 (.slice wa n wc) n xs := World.ownsRow.alloc hown _
                have hnews : ∀ i u, (tcells tr.s ca2 tr.n cc2 ra2 tr.m rc2).toList[i]? = some u → (wB.alloc (.cells (tcells tr.s ca2 tr.n cc2 ra2 tr.m rc2) 51)).cell? ((⟨wB.heap.size, 0, none⟩ : Addr).add i) = some u := fun i u hu => by
                  have := cell_of_heap (heap_alloc_new wB (.cells (tcells tr.s ca2 tr.n cc2 ra2 tr.m rc2) 51)) (i := i) (v := u) (by rw [← hu, Array.getElem?_toList])
                  rw [show (⟨wB.heap.size, 0, none⟩ : Addr).add i = ⟨wB.heap.size, i, none⟩ from by unfold Addr.add; split <;> simp_all]
                  exact this
                have h1c : ∀ u ∈ (tcells tr.s ca2 tr.n cc2 ra2 tr.m rc2).toList, u.oneCell' = true := fun u hu => by
                  simp at hu
                  rcases hu with rfl | rfl | rfl <;> rfl
                obtain ⟨i0, hi0, hz0, hz1, hz2⟩ := info_transP
                have hbase : q + 1 ≤ (wB.alloc (.cells (tcells tr.s ca2 tr.n cc2 ra2 tr.m rc2) 51)).heap.size := by simp; have := STB.out.a.lt; omega
                have hWW : Hid (Below wB.heap.size wB (wB.alloc (.cells (tcells tr.s ca2 tr.n cc2 ra2 tr.m rc2) 51))) := (Below.refl _ _).alloc (Nat.le_refl _) _
                clear hsn hown STA TVA TVB HTA HVA HVB2 HLA hAB hgB hgA HPL HO hc1
                go_wp2_with (first | (refine wp_loadAtG rfl 51 (.tmp 13) rfl _ _ _ rfl hTB Tryd.underlying51 rfl (info_trans _ _ _ _ _ _ _) ?_) | (refine wpList_append_own _ rfl (.tmp 193) (.tmp 195) 56 rfl (q + 1) 51 i0 (.agg (tcells 0 none 0 0 none 0 0)) 3 56 Tryd.underlying56 hi0 hz0 hz1 hz2 rfl (by decide) (.slice wa n wc) n xs rfl hown2 ⟨wB.heap.size, 0, none⟩ 1 1 _ rfl rfl hnews h1c (by unfold maxLen; omega) (by omega) hbase ?_))
                intro v' wC hoC hgC _
                have STC := Lib.hid ((STB.out.below hWW.out).grown HQ.out hown2 hgC)
                have TVC := Lib.hid (HSN.out _ _ v' hWW.out hoC hgC)
                obtain ⟨ga, gc, rfl⟩ := own_form hoC
                clear STB HSN hbs1 hown2 hnews h1c hoC hgC hWW hTB hbase
                go_wp2_with fail
                go_roundw
                case rel => first | exact ⟨i + 1, k + n1, rm - n1, l ++ [tr], some ⟨ga, 0, none⟩, gc, _, int_eq (by have := HAT.out; omega), rfl, by have := HRM.out; omega, by rw [List.length_append, ← HLN.out]; rfl, by first | rfl | go_num, by omega, by rw [List.length_append, ← HLN.out]; simp; omega, HPN.out, STC.out, by rw [List.length_append, ← HLN.out]; exact TVC.out⟩ | ((repeat apply Exists.intro); exact ⟨⟨i + 1, k + n1, rm - n1, l ++ [tr], some ⟨ga, 0, none⟩, gc, _, int_eq (by have := HAT.out; omega), rfl, by have := HRM.out; omega, by rw [List.length_append, ← HLN.out]; rfl, by first | rfl | go_num, by omega, by rw [List.length_append, ← HLN.out]; simp; omega, HPN.out, STC.out, by rw [List.length_append, ← HLN.out]; exact TVC.out⟩, rfl⟩)
                case measure => simp [intOf]; omega
          · go_wp2_with fail
            go_roundw
            case rel => first | exact ⟨i + 1, k, rm, l, wa, wc, f, by rw [HAT.out], rfl, HRM.out, by rw [HLN.out], by first | rfl | go_num, by omega, by have := HLN.out; omega, HPL.out, ST9.out, TV9.out⟩ | ((repeat apply Exists.intro); exact ⟨⟨i + 1, k, rm, l, wa, wc, f, by rw [HAT.out], rfl, HRM.out, by rw [HLN.out], by first | rfl | go_num, by omega, by have := HLN.out; omega, HPL.out, ST9.out, TV9.out⟩, rfl⟩)
            case measure => simp [intOf]; omega
        · obtain rfl : i = tn := by omega
          have hN9 : (N : Int) = nBl G S I (j : Int) := HN.out.symm
          have hln : l.length ≤ 60 := by have := HLN.out; omega
          obtain ⟨fl, fe, fs, ft⟩ := HPL.out.find HM.out hN9 (by omega) (by omega) (headOk18 hs1 hs2 (by omega)) (by omega) (by omega)
          have HFL : Hid (fdL (j : Int) f = l ∧ fdE G S I (j : Int) N f = 0 ∧ hdS (f 2) = s ∧ hdT (f 2) = (T : Int)) := ⟨fl, fe, fs, ft⟩
          have HLO : Hid (∀ t ∈ l, t.Ok) := HPL.out.laid.ok
          have HBY : Hid (∀ b, Byt (f b)) := HPL.out.byt
          have HV' : Hid (TrM wr (q + 1) (.slice wa n wc) l) := by rw [HLN.out]; exact HV.out
          have hgr := jf_geo (HG.out _ ST.out.x)
          clear HPL fl fe fs ft HV
          go_wp2_with (first | (refine wp_loadMid rfl 23 (.tmp 199) rfl w.heap.size 0 (gcells G S I j).toList _ rfl hgr Tryd.underlying23 rfl (by kernel_rfl) ?_))
          refine (find18_any G S I (j : Int) (some ⟨q, 0, none⟩) N N f HBY.out (Nat.le_refl _) (by omega) wr (HT.out.below ST.out.bel (Nat.le_refl _)) (.inr ⟨q, 0, rfl, ST.out.a.seg⟩)).mono ?_
          rintro e w7 ⟨hp, hb7⟩
          rcases hp with ⟨hne, _⟩ | ⟨_, a1, k1, rfl, hQ⟩
          · exact absurd HFL.out.2.1 hne
          rw [HFL.out.1] at hQ
          rw [HFL.out.1, HFL.out.2.2.1, HFL.out.2.2.2, ← HLN.out]
          have hR7 := hQ.1
          have ST7 := ST.out.below hb7
          have TV7 := HV'.out.below hb7
          obtain ⟨p7, hp7⟩ : ∃ p, p = w7.heap.size := ⟨_, rfl⟩
          have hd7 := At.new w7 36 #[.int .u32 0, .int .i64 0]
          have hal7 : Below w7.heap.size w7 (w7.alloc (.cells #[.int .u32 0, .int .i64 0] 36)) := (Below.refl _ _).alloc (Nat.le_refl _) _
          have FT7 : Hid (∀ W, Only p7 (w7.alloc (.cells #[.int .u32 0, .int .i64 0] 36)) W → SwA w jc q N f W ∧ TrR W wa l ∧ TrR W a1 l) := fun W ho => by
            have hb : Below w7.heap.size w7 W := hal7.trans (ho.below (by rw [hp7]; exact Nat.le_refl _))
            exact ⟨ST7.below hb, (TV7.below hb).rows HLN.out, hR7.below hb⟩
          rw [← hp7] at hd7
          have HP7 := Lib.hid hp7
          clear ST HV' hgr c6 hQ hR7 ST7 TV7 hal7 hp7 hb7
          go_wp2_with (first | (refine wp_storeAt rfl 36 (.tmp 16) (.tmp 202) rfl p7 #[.int .u32 s, .int .i64 (T : Int)] _ (by rw [HP7.out]; rfl) rfl hd7 (info_head 0 0) rfl (one_head _ _) ?_))
          intro w8 hd8 ho8
          rw [← HP7.out]
          have FT8 := Lib.hid (FT7.out w8 ho8)
          clear FT7 hd7 ho8
          have hh8 := jf_head (HG.out _ FT8.out.1.x)
          have c4 : w8.cell? ⟨w.heap.size, 4, none⟩ = some (.int .u32 s) := (HG.out _ FT8.out.1.x).cell (i := 4) rfl
          have hEQ := fun W => run_eql_headW s (T : Int) s (T : Int) W
          have n0 : (0 : Int) ≤ (n : Int) := by omega
          have n9 : (n : Int) ≤ 60 := by omega
          have hw1 : IntKind.u32.wrap (s + (n : Int)) = s + (n : Int) := IntWalk.u32_in _ (by omega)
          have hw2 : IntKind.u32.wrap (s + (n : Int) + 1) = s + (n : Int) + 1 := IntWalk.u32_in _ (by omega)
          go_wp2_with (first | (refine wp_loadAtG rfl 36 (.tmp 16) rfl _ _ _ rfl hd8 Tryd.underlying36 rfl (by kernel_rfl) ?_) | (refine wp_loadMid rfl 36 (.tmp 210) rfl w.heap.size 4 [.int .u32 s, .int .i64 (T : Int)] _ rfl hh8 Tryd.underlying36 rfl (by kernel_rfl) ?_))
          rw [HLN.out]
          refine (sameAll18 l HLO.out (by omega) a1 wa k1 wc w8 FT8.out.2.2 FT8.out.2.1).mono ?_
          rintro e w9 ⟨rfl, hb9⟩
          have ST9 := Lib.hid (FT8.out.1.below hb9)
          rw [← HLN.out]
          have c4 : w9.cell? ⟨w.heap.size, 4, none⟩ = some (.int .u32 s) := (HG.out _ ST9.out.x).cell (i := 4) rfl
          clear FT8 hb9 hh8 hd8
          go_wp2_with fail
          go_ret
          exact ⟨rfl, ST9.out.bel⟩
end Go.Proofs.YtnbmmhoofilmfaaDoor
