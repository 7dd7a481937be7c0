/- SuperByte. -/
import Derived.Test.YtbbcckopkbiojaaDoorU6j
import Derived.Test.YtbbcckopkbiojaaDoorStore
namespace Go.Proofs.YtbbcckopkbiojaaDoor
open Go.RowKit
set_option linter.unusedVariables false

structure Y6 (w : World) (G S I J O : Int) (g1 g2 : Nat) (z1 z2 : Nat → Int) (W : World) : Prop where
  s : At W w.heap.size 26 (scells G S I J O)
  b1 : Blk W g1 29 256 z1
  b2 : Blk W g2 29 256 z2
  t : Tab W
  bel : Below w.heap.size w W
theorem Y6.below {w : World} {G S I J O : Int} {g1 g2 : Nat} {z1 z2 : Nat → Int} {W W' : World} (h : Y6 w G S I J O g1 g2 z1 z2 W) (hb : Below W.heap.size W W') : Y6 w G S I J O g1 g2 z1 z2 W' :=
  ⟨h.s.below hb h.s.lt, h.b1.below hb h.b1.lt, h.b2.below hb h.b2.lt, h.t.below hb (Nat.le_refl _), h.bel.trans (hb.mono h.bel.size)⟩
theorem Y6.st1 {w : World} {G S I J O : Int} {g1 g2 : Nat} {z1 z2 z : Nat → Int} {W W' : World} (h : Y6 w G S I J O g1 g2 z1 z2 W) (hb : Only g1 W W') (hB : Blk W' g1 29 256 z) (h1 : w.heap.size < g1) (h2 : g1 < g2) (hT : 0 < w.heap.size) : Y6 w G S I J O g1 g2 z z2 W' :=
  ⟨h.s.only hb (by omega), hB, h.b2.only hb (by omega), h.t.only hb (by omega), h.bel.trans (hb.below (by omega))⟩
theorem Y6.st2 {w : World} {G S I J O : Int} {g1 g2 : Nat} {z1 z2 z : Nat → Int} {W W' : World} (h : Y6 w G S I J O g1 g2 z1 z2 W) (hb : Only g2 W W') (hB : Blk W' g2 29 256 z) (h1 : w.heap.size < g1) (h2 : g1 < g2) (hT : 0 < w.heap.size) : Y6 w G S I J O g1 g2 z1 z W' :=
  ⟨h.s.only hb (by omega), h.b1.only hb (by omega), hB, h.t.only hb (by omega), h.bel.trans (hb.below (by omega))⟩
structure X6 (w : World) (G S I J O : Int) (W : World) : Prop where
  s : At W w.heap.size 26 (scells G S I J O)
  t : Tab W
  bel : Below w.heap.size w W
theorem X6.below {w : World} {G S I J O : Int} {W W' : World} (h : X6 w G S I J O W) (hb : Below W.heap.size W W') : X6 w G S I J O W' := ⟨h.s.below hb h.s.lt, h.t.below hb (Nat.le_refl _), h.bel.trans (hb.mono h.bel.size)⟩
theorem X6.only {w : World} {G S I J O : Int} {W W' : World} {g : Nat} (h : X6 w G S I J O W) (hb : Only g W W') (hg : w.heap.size < g) (hT : 0 < w.heap.size) : X6 w G S I J O W' :=
  ⟨h.s.only hb (by omega), h.t.only hb (by omega), h.bel.trans (hb.below (by omega))⟩

set_option maxRecDepth 100000 in
set_option maxHeartbeats 4000000 in
theorem superByte_walk (G S I J O : Int) (hO : 0 ≤ O ∧ O < 4294967296) (a : Option Addr) (n cap : Nat) (b i d : Nat → Int) (hn : (n : Int) ≤ 9223372036854775807) (at' ov : Int) (hat : -9223372036854775808 ≤ at' ∧ at' ≤ 9223372036854775807) (hov : 0 ≤ ov ∧ ov < 256) (w : World) (hT : Tab w) (hr : RRow w a 3 n (df b i d)) :
    Calls Tryd.prog 7 #[sval G S I J O, .slice a n cap, .int .i64 at', .int .u8 ov] w fun e w' => e = .returned (.bool true) ∧ Below w.heap.size w w' := by
  have hal := zero_block
  have hals := zero_super
  have hTl := hT.lt
  have HR := Lib.hid hr
  have st0 : Hid (X6 w G S I J O (w.alloc (.cells (scells G S I J O) 26))) := ⟨At.new w _ _, hT.alloc _, (Below.refl _ _).alloc (Nat.le_refl _) _⟩
  clear hT hr
  go_enter Tryd.func7, Tryd.ntmps7
  go_wp2_with fail
  refine (awake6 _ st0.out.t).mono ?_
  rintro e w1 ⟨rfl, hb1⟩
  have st1 := st0.out.below hb1
  have hs1 := st1.s
  clear st0 hb1
  by_cases h1000 : (1000 : Int) < n
  · go_wp2_with fail
    go_ret
    exact ⟨rfl, st1.bel⟩
  have m1 : Int.tmod at' 256 < 256 := Int.tmod_lt_of_pos _ (by omega)
  have m2 : -256 < Int.tmod at' 256 := by have := Int.tmod_lt_of_pos (-at') (show (0 : Int) < 256 by omega); rw [Int.neg_tmod] at this; omega
  obtain ⟨r, hrr⟩ : ∃ r, Int.tmod at' 256 = r := ⟨_, rfl⟩
  rw [hrr] at m1 m2
  obtain ⟨j, hj⟩ : ∃ j : Nat, Int.tmod (r + 256) 256 = (j : Int) := ⟨(Int.tmod (r + 256) 256).toNat, by have := Int.tmod_nonneg 256 (show 0 ≤ r + 256 by omega); omega⟩
  have hj256 : j < 256 := by have := Int.tmod_lt_of_pos (r + 256) (show (0 : Int) < 256 by omega); omega
  go_wp2_with (first | (refine wp_loadAtG rfl 26 (.tmp 4) rfl _ _ _ rfl hs1 Tryd.underlying26 rfl (by kernel_rfl) ?_))
  refine (superWrite_any G S I J O hO _ st1.t).mono ?_
  rintro e w2 ⟨rfl, hb2⟩
  have st2 := st1.below hb2
  have hn2 := Blk.new w2 29 256 (fun _ => 0)
  have hlt2 := st2.s.lt
  have hzb : Byt (supZ G S I J O) := supZ_byt _ _ _ _ _
  clear st1 hs1 hb2 hrr hj m1 m2
  go_wp2_with (first | (refine wp_storeBlk rfl (.tmp 9) (.tmp 29) rfl w2.heap.size (supZ G S I J O) _ rfl rfl hn2 ?_))
  intro w3 hB3 ho3
  have st3 := (st2.below ((Below.refl _ _).alloc (Nat.le_refl _) (.cells (Ks .u8 256 (fun _ => 0)).toArray 29))).only ho3 hlt2 hTl
  obtain ⟨g1, hg1⟩ : ∃ g1, w2.heap.size = g1 := ⟨_, rfl⟩
  rw [hg1] at hB3 hlt2 ⊢
  have hg3 := st3.s.geo
  clear st2 hn2 ho3 hg1
  go_wp2_with (first | (refine wp_loadRange rfl 23 (.tmp 32) rfl w.heap.size 0 (gcells G S I J).toList _ rfl hg3 Tryd.underlying23 rfl (by kernel_rfl) ?_))
  refine (superWriteDescs_any G S I J a n cap b i d hn _ st3.t (HR.out.below (df_ne _ _ _ _) st3.bel)).mono ?_
  rintro e w4 ⟨rfl, hb4⟩
  have st4 := st3.below hb4
  have hB4 := hB3.below hb4 hB3.lt
  have hn4 := Blk.new w4 29 256 (fun _ => 0)
  have hlt4 := hB4.lt
  have hzb4 : Byt (descZ G S I J n b i d) := descZ_byt _ _ _ _ _ _ _ _
  clear st3 hg3 hb4 hB3
  go_wp2_with (first | (refine wp_storeBlk rfl (.tmp 11) (.tmp 36) rfl w4.heap.size (descZ G S I J n b i d) _ rfl rfl hn4 ?_))
  intro w5 hB5 ho5
  have st5 := (st4.below ((Below.refl _ _).alloc (Nat.le_refl _) (.cells (Ks .u8 256 (fun _ => 0)).toArray 29))).only ho5 (by omega) hTl
  have hC5 : Blk w5 g1 29 256 (supZ G S I J O) := (hB4.alloc _).only ho5 (by omega)
  obtain ⟨g2, hg2⟩ : ∃ g2, w4.heap.size = g2 := ⟨_, rfl⟩
  rw [hg2] at hB5 hlt4 ⊢
  clear st4 hn4 ho5 hB4 hg2
  obtain ⟨v1, hx1, hv1a, hv1b, hv1⟩ := xor_byte (hzb j) hov
  obtain ⟨v2, hx2, hv2a, hv2b, hv2⟩ := xor_byte (hzb4 j) hov
  have HE1 : Hid (supE G S I J O = 0 → (readE (xorAt (supZ G S I J O) j v1) = 0 ↔ ov = 0)) := fun h => by
    have hok := supE_iff.1 h
    constructor
    · intro hr
      apply hv1.1
      apply Classical.byContradiction
      intro hne
      rw [readE_sum (xorAt_sum hzb (sup_sum hok) hj256 ⟨hv1a, hv1b⟩ hne)] at hr
      omega
    · intro h0
      rw [xorAt_same (hv1.2 h0)]
      exact (sup_back hok hO).1
  have HE2 : Hid (descE G S I J n b i d = 0 → (rdOk G S I J (xorAt (descZ G S I J n b i d) j v2) = true ↔ ov = 0)) := fun h => by
    have hok := descE_iff.1 h
    constructor
    · intro hr
      apply hv2.1
      apply Classical.byContradiction
      intro hne
      rw [rdOk_sum (xorAt_sum hzb4 (desc_sum hok) hj256 ⟨hv2a, hv2b⟩ hne)] at hr
      cases hr
    · intro h0
      rw [xorAt_same (hv2.2 h0)]
      exact (desc_back hok).1
  have hzx1 : Byt (xorAt (supZ G S I J O) j v1) := xorAt_byt hzb j ⟨hv1a, hv1b⟩
  have hzx2 : Byt (xorAt (descZ G S I J n b i d) j v2) := xorAt_byt hzb4 j ⟨hv2a, hv2b⟩
  have st6 : Y6 w G S I J O g1 g2 (supZ G S I J O) (descZ G S I J n b i d) w5 := ⟨st5.s, hC5, hB5, st5.t, st5.bel⟩
  clear hv1 hv2 hv1a hv1b hv2a hv2b hC5 hB5 st5
  have hc1 : w5.cell? ⟨g1, j, none⟩ = some (.int .u8 (supZ G S I J O j)) := by have := st6.b1.seg j hj256; rwa [Nat.zero_add] at this
  have hB6 := st6.b1
  go_wp2_with (first | (refine wp_storeByte rfl (.tmp 44) (.tmp 43) rfl g1 j v1 rfl rfl hB6 hj256 ?_))
  intro w6 hb6 ho6
  have st7 := st6.st1 ho6 hb6 hlt2 hlt4 hTl
  clear st6 hc1 hB6 hb6 ho6 hx1
  have hc2 : w6.cell? ⟨g2, j, none⟩ = some (.int .u8 (descZ G S I J n b i d j)) := by have := st7.b2.seg j hj256; rwa [Nat.zero_add] at this
  have hB7 := st7.b2
  go_wp2_with (first | (refine wp_storeByte rfl (.tmp 51) (.tmp 50) rfl g2 j v2 rfl rfl hB7 hj256 ?_))
  intro w7 hb7 ho7
  have st8 : Y6 w G S I J O g1 g2 (xorAt (supZ G S I J O) j v1) (xorAt (descZ G S I J n b i d) j v2) w7 := st7.st2 ho7 hb7 hlt2 hlt4 hTl
  clear st7 hc2 hB7 hb7 ho7 hx2
  generalize xorAt (supZ G S I J O) j v1 = zx1 at *
  generalize xorAt (descZ G S I J n b i d) j v2 = zx2 at *
  generalize supE G S I J O = e1 at *
  generalize descE G S I J n b i d = e2 at *
  have hE3 : Hid (∀ W, (e2 = 0 → ∀ v E W', RdPost W G S I J zx2 v E W' → ((E == 0) == (ov == 0)) = true)) := fun W h v E W' hp => by
    have h1 := HE2.out h
    have h2 : (E == 0) = rdOk G S I J zx2 := by
      rcases hp with ⟨ha, hb, _⟩ | ⟨ha, hb, _⟩
      · rw [ha, hb]; rfl
      · rw [ha, hb]; split <;> rfl
    rw [h2, beq_iff_eq, Bool.eq_iff_iff, h1, beq_iff_eq]
  obtain ⟨c1, hc1⟩ : ∃ c, (e1 == 0) = c := ⟨_, rfl⟩
  obtain ⟨c2, hc2⟩ : ∃ c, (e2 == 0) = c := ⟨_, rfl⟩
  have HC2 : Hid (c2 = true → e2 = 0) := fun h => by rw [h] at hc2; simpa using hc2
  cases c1 with
  | false =>
    clear HE1
    have WW := st8
    clear st8
    cases c2 with
    | false =>
      clear hE3 HC2
      go_wp2_with fail
      go_ret
      exact ⟨rfl, WW.bel⟩
    | true =>
      have hg9 := WW.s.geo
      have hB9 := WW.b2
      have HW9 := Lib.hid WW
      have HC3 := Lib.hid (HC2.out rfl)
      clear WW
      go_wp2_with (first | (refine wp_loadRange rfl 23 (.tmp 67) rfl w.heap.size 0 (gcells G S I J).toList _ rfl hg9 Tryd.underlying23 rfl (by kernel_rfl) ?_) | (refine wp_loadBlkG rfl (.tmp 11) rfl g2 zx2 rfl hB9 ?_))
      refine (superReadDescs_any G S I J zx2 hzx2 _ HW9.out.t).mono ?_
      rintro e w10 ⟨u, E, rfl, hpost, hb10⟩
      have hfin := hE3.out _ (HC3.out) _ _ _ hpost
      have HBL : Hid (Below w.heap.size w w10) := HW9.out.bel.trans (hb10.mono HW9.out.bel.size)
      clear hpost hb10 HW9 hg9 hB9 hE3 HC2 HC3
      obtain ⟨c3, hc3⟩ : ∃ c, (E == 0) = c := ⟨_, rfl⟩
      obtain ⟨c4, hc4⟩ : ∃ c, (ov == 0) = c := ⟨_, rfl⟩
      rw [hc3, hc4, beq_iff_eq] at hfin
      subst hfin
      go_wp2_with fail
      go_ret
      exact ⟨rfl, HBL.out⟩
  | true =>
    have hB8 := st8.b1
    have HST8 := Lib.hid st8
    have he1 : e1 = 0 := by simpa using hc1
    have hfe : ((readE zx1 == 0) != (ov == 0)) = false := by
      have h1 := HE1.out he1
      have : (readE zx1 == 0) = (ov == 0) := by rw [Bool.eq_iff_iff, beq_iff_eq, beq_iff_eq]; exact h1
      rw [this]; cases (ov == 0) <;> rfl
    clear HE1 st8 he1
    go_wp2_with (first | (refine wp_loadBlkG rfl (.tmp 9) rfl g1 zx1 rfl hB8 ?_))
    refine (superRead_any zx1 hzx1 _ HST8.out.t).mono ?_
    rintro e w8 ⟨rfl, hb8⟩
    have st9 := HST8.out.below hb8
    obtain ⟨x1, x2, x3, x4, x5, hx⟩ := readV_form zx1
    rw [hx]
    have WW := st9.below ((Below.refl _ _).alloc (Nat.le_refl _) (.cells (scells x1 x2 x3 x4 x5) 26))
    clear HST8 hB8 hb8 hx st9
    generalize readE zx1 = e3 at *
    obtain ⟨c5, hc5⟩ : ∃ c, (e3 == 0) = c := ⟨_, rfl⟩
    obtain ⟨c6, hc6⟩ : ∃ c, (ov == 0) = c := ⟨_, rfl⟩
    rw [hc5, hc6] at hfe
    have hfe' : c5 = c6 := by cases c5 <;> cases c6 <;> first | rfl | cases hfe
    clear hfe
    subst hfe'
    cases c2 with
    | false =>
      clear hE3 HC2
      go_wp2_with fail
      go_ret
      exact ⟨rfl, WW.bel⟩
    | true =>
      have hg9 := WW.s.geo
      have hB9 := WW.b2
      have HW9 := Lib.hid WW
      have HC3 := Lib.hid (HC2.out rfl)
      clear WW
      go_wp2_with (first | (refine wp_loadRange rfl 23 (.tmp 67) rfl w.heap.size 0 (gcells G S I J).toList _ rfl hg9 Tryd.underlying23 rfl (by kernel_rfl) ?_) | (refine wp_loadBlkG rfl (.tmp 11) rfl g2 zx2 rfl hB9 ?_))
      refine (superReadDescs_any G S I J zx2 hzx2 _ HW9.out.t).mono ?_
      rintro e w10 ⟨u, E, rfl, hpost, hb10⟩
      have hfin := hE3.out _ (HC3.out) _ _ _ hpost
      have HBL : Hid (Below w.heap.size w w10) := HW9.out.bel.trans (hb10.mono HW9.out.bel.size)
      clear hpost hb10 HW9 hg9 hB9 hE3 HC2 HC3
      obtain ⟨c3, hc3⟩ : ∃ c, (E == 0) = c := ⟨_, rfl⟩
      rw [hc3, hc6, beq_iff_eq] at hfin
      subst hfin
      go_wp2_with fail
      go_ret
      exact ⟨rfl, HBL.out⟩
end Go.Proofs.YtbbcckopkbiojaaDoor
