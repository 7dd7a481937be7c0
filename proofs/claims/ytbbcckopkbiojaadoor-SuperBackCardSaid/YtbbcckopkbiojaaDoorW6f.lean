/- SuperBack. Printed by gen_w6f.py. -/
import Derived.Test.YtbbcckopkbiojaaDoorU6k
namespace Go.Proofs.YtbbcckopkbiojaaDoor
open Go.RowKit
set_option linter.unusedVariables false

structure Q6 (w : World) (G S I J O : Int) (z : Nat → Int) (G' S' I' J' : Int) (W : World) : Prop where
  s : At W w.heap.size 26 (scells G S I J O)
  bb : Blk W (w.heap.size + 1) 29 256 z
  q : At W (w.heap.size + 2) 23 (gcells G' S' I' J')
  t : Tab W
  bel : Below w.heap.size w W
theorem Q6.below {w : World} {G S I J O : Int} {z : Nat → Int} {G' S' I' J' : Int} {W W' : World} (h : Q6 w G S I J O z G' S' I' J' W) (hb : Below W.heap.size W W') : Q6 w G S I J O z G' S' I' J' W' :=
  ⟨h.s.below hb h.s.lt, h.bb.below hb h.bb.lt, h.q.below hb h.q.lt, h.t.below hb (Nat.le_refl _), h.bel.trans (hb.mono h.bel.size)⟩
theorem Q6.only {w : World} {G S I J O : Int} {z : Nat → Int} {G' S' I' J' : Int} {W W' : World} {g : Nat} (h : Q6 w G S I J O z G' S' I' J' W) (hb : Only g W W') (hg : w.heap.size + 2 < g) (hT : 0 < w.heap.size) : Q6 w G S I J O z G' S' I' J' W' :=
  ⟨h.s.only hb (by omega), h.bb.only hb (by omega), h.q.only hb (by omega), h.t.only hb (by omega), h.bel.trans (hb.below (by omega))⟩
theorem Q6.drewN {w : World} {G S I J O : Int} {z : Nat → Int} {G' S' I' J' : Int} {W : World} (h : Q6 w G S I J O z G' S' I' J' W) (m : Nat) : Q6 w G S I J O z G' S' I' J' (W.drewN m) := ⟨h.s, h.bb, h.q, h.t, bel_drewN h.bel m⟩

set_option maxRecDepth 100000 in
set_option maxHeartbeats 8000000 in
theorem superBack_walk (G S I J O : Int) (hO : 0 ≤ O ∧ O < 4294967296) (a : Option Addr) (n cap : Nat) (b i d : Nat → Int) (hn : (n : Int) ≤ 9223372036854775807) (z : Nat → Int) (hzb : Byt z) (G' S' I' J' : Int) (w : World) (hT : Tab w) (hr : RRow w a 3 n (df b i d)) :
    Calls Tryd.prog 6 #[sval G S I J O, .slice a n cap, bval z, gval G' S' I' J'] w fun e w' => e = .returned (.bool true) ∧ Below w.heap.size w w' := by
  have hal := zero_block
  have hals := zero_super
  have hTl := hT.lt
  have HR := Lib.hid hr
  have st0 : Hid (Q6 w G S I J O z G' S' I' J' (((w.alloc (.cells (scells G S I J O) 26)).alloc (.cells (Ks .u8 256 z).toArray 29)).alloc (.cells (gcells G' S' I' J') 23))) := by
    refine ⟨((At.new w _ _).alloc _).alloc _, ?_, ?_, ((hT.alloc _).alloc _).alloc _, (((Below.refl _ _).alloc (Nat.le_refl _) _).alloc (by simp) _).alloc (by simp; omega) _⟩
    · have := Blk.new (w.alloc (.cells (scells G S I J O) 26)) 29 256 z
      simp only [World.size_alloc] at this
      exact this.alloc _
    · have := At.new ((w.alloc (.cells (scells G S I J O) 26)).alloc (.cells (Ks .u8 256 z).toArray 29)) 23 (gcells G' S' I' J')
      simp only [World.size_alloc] at this
      exact this
  clear hT hr
  go_enter Tryd.func6, Tryd.ntmps6
  go_wp2_with fail
  refine (awake6 _ st0.out.t).mono ?_
  rintro e w1 ⟨rfl, hb1⟩
  have st1 := st0.out.below hb1
  have hs1 := st1.s
  clear st0 hb1
  by_cases h1000 : (1000 : Int) < n
  · go_wp2_with fail
    go_ret
    exact ⟨rfl, st1.bel⟩
  go_wp2_with (first | (refine wp_loadAtG rfl 26 (.tmp 4) rfl _ _ _ rfl hs1 Tryd.underlying26 rfl (by kernel_rfl) ?_))
  refine (superWrite_any G S I J O hO _ st1.t).mono ?_
  rintro e w2 ⟨rfl, hb2⟩
  have st2 := st1.below hb2
  have hn2 := Blk.new w2 29 256 (fun _ => 0)
  have hlt2 := st2.q.lt
  have hzb1 : Byt (supZ G S I J O) := supZ_byt _ _ _ _ _
  clear st1 hs1 hb2
  go_wp2_with (first | (refine wp_storeBlk rfl (.tmp 9) (.tmp 33) rfl w2.heap.size (supZ G S I J O) _ rfl rfl hn2 ?_))
  intro w3 hB3 ho3
  have st3 := (st2.below ((Below.refl _ _).alloc (Nat.le_refl _) (.cells (Ks .u8 256 (fun _ => 0)).toArray 29))).only ho3 (by omega) hTl
  obtain ⟨g1, hg1⟩ : ∃ g1, w2.heap.size = g1 := ⟨_, rfl⟩
  rw [hg1] at hB3 hlt2 ⊢
  have HS3 := Lib.hid st3
  clear st2 hn2 ho3 hg1 st3
  go_wp2_with (first | (refine wp_loadBlkG rfl (.tmp 9) rfl g1 (supZ G S I J O) rfl hB3 ?_))
  refine (superRead_any _ hzb1 _ HS3.out.t).mono ?_
  rintro e w4 ⟨rfl, hb4⟩
  obtain ⟨x1, x2, x3, x4, x5, hx⟩ := readV_form (supZ G S I J O)
  rw [hx]
  have st4 := HS3.out.below hb4
  have hB4 := hB3.below hb4 hB3.lt
  have hs5 := At.new w4 26 (scells x1 x2 x3 x4 x5)
  have st5 := st4.below ((Below.refl _ _).alloc (Nat.le_refl _) (.cells (scells x1 x2 x3 x4 x5) 26))
  have hB5 := hB4.alloc (.cells (scells x1 x2 x3 x4 x5) 26)
  have hlt5 := hB4.lt
  have hq5 := st5.q
  have HF1 : Hid (supE G S I J O = 0 → readE (supZ G S I J O) = 0 ∧ eqS x1 x2 x3 x4 x5 G S I J O = true) := fun h => by
    obtain ⟨h1, h2⟩ := sup_back (supE_iff.1 h) hO
    rw [h2] at hx
    simp only [Value.agg.injEq, Array.mk.injEq, List.cons.injEq, Value.int.injEq, true_and, and_true] at hx
    exact ⟨h1, eqS_iff.2 ⟨hx.1.symm, hx.2.1.symm, hx.2.2.1.symm, hx.2.2.2.1.symm, hx.2.2.2.2.symm⟩⟩
  have HF2 : Hid (supE G S I J O ≠ 0 → eqB (supZ G S I J O) (fun _ => 0) 256 = true) := fun h => by
    have : supOk G S I J O = false := by cases h' : supOk G S I J O with
      | false => rfl
      | true => exact absurd (supE_iff.2 h') h
    unfold supZ; rw [this]; exact eqB_refl _ _
  have HF4 : Hid (descE G' S' I' J' n b i d ≠ 0 → eqB (descZ G' S' I' J' n b i d) (fun _ => 0) 256 = true) := fun h => by
    have : descOk G' S' I' J' n b i d = false := by cases h' : descOk G' S' I' J' n b i d with
      | false => rfl
      | true => exact absurd (descE_iff.2 h') h
    unfold descZ; rw [this]; exact eqB_refl _ _
  have HS5 := Lib.hid st5
  have HA5 := Lib.hid hs5
  have HB5 := Lib.hid hB5
  clear hx HS3 hB3 hb4 st4 hB4 st5 hs5 hB5
  go_wp2_with (first | (refine wp_loadAtG rfl 23 (.tmp 7) rfl _ _ _ rfl hq5 Tryd.underlying23 rfl (by kernel_rfl) ?_))
  refine (superWriteDescs_any G' S' I' J' a n cap b i d hn _ HS5.out.t (HR.out.below (df_ne _ _ _ _) HS5.out.bel)).mono ?_
  rintro e w6 ⟨rfl, hb6⟩
  have st6 := HS5.out.below hb6
  have hA6 := HA5.out.below hb6 HA5.out.lt
  have hB6 := HB5.out.below hb6 HB5.out.lt
  have hn6 := Blk.new w6 29 256 (fun _ => 0)
  have hlt6 := hA6.lt
  have hzb2 : Byt (descZ G' S' I' J' n b i d) := descZ_byt _ _ _ _ _ _ _ _
  obtain ⟨g3, hg3⟩ : ∃ g3, w4.heap.size = g3 := ⟨_, rfl⟩
  rw [hg3] at hA6 hlt6 hlt5 ⊢
  clear HS5 HA5 HB5 hq5 hb6 hg3
  go_wp2_with (first | (refine wp_storeBlk rfl (.tmp 13) (.tmp 44) rfl w6.heap.size (descZ G' S' I' J' n b i d) _ rfl rfl hn6 ?_))
  intro w7 hC7 ho7
  have st7 := (st6.below ((Below.refl _ _).alloc (Nat.le_refl _) (.cells (Ks .u8 256 (fun _ => 0)).toArray 29))).only ho7 (by omega) hTl
  have hA7 : At w7 g3 26 (scells x1 x2 x3 x4 x5) := (hA6.alloc _).only ho7 (by omega)
  have hB7 : Blk w7 g1 29 256 (supZ G S I J O) := (hB6.alloc _).only ho7 (by omega)
  obtain ⟨g2, hg2⟩ : ∃ g2, w6.heap.size = g2 := ⟨_, rfl⟩
  rw [hg2] at hC7 hlt6 ⊢
  have hq7 := st7.q
  have HS7 := Lib.hid st7
  have HA7 := Lib.hid hA7
  have HB7 := Lib.hid hB7
  clear st6 hA6 hB6 hn6 ho7 hg2 st7 hA7 hB7
  go_wp2_with (first | (refine wp_loadAtG rfl 23 (.tmp 7) rfl _ _ _ rfl hq7 Tryd.underlying23 rfl (by kernel_rfl) ?_) | (refine wp_loadBlkG rfl (.tmp 13) rfl g2 (descZ G' S' I' J' n b i d) rfl hC7 ?_))
  refine (superReadDescs_any G' S' I' J' _ hzb2 _ HS7.out.t).mono ?_
  rintro e w8 ⟨v8, E8, rfl, hpost8, hb8⟩
  have st8 := HS7.out.below hb8
  have hA8 := HA7.out.below hb8 HA7.out.lt
  have hB8 := HB7.out.below hb8 HB7.out.lt
  have hC8 := hC7.below hb8 hC7.lt
  have HF3 : Hid (descE G' S' I' J' n b i d = 0 → E8 = 0 ∧ ∃ a8 cap8, v8 = .slice a8 n cap8 ∧ Calls Tryd.prog 15 #[.slice a n cap, .slice a8 n cap8] w8 fun e w' => e = .returned (.bool true) ∧ ∃ k, w' = w8.drewN k) := fun h => by
    obtain ⟨h1, h2, h3⟩ := desc_back (descE_iff.1 h)
    rcases hpost8 with ⟨_, he, hm⟩ | ⟨h', _⟩
    · rw [h2] at hm
      obtain ⟨a8, cap8, rfl⟩ := hm.form
      refine ⟨he, a8, cap8, rfl, (sameD_any a a8 n n cap cap8 _ _ _ _ _ _ w8 hn hn (HR.out.below (df_ne _ _ _ _) st8.bel) (hm.row (df_len _ _ _))).mono ?_⟩
      rintro e w' ⟨he, hd⟩
      exact ⟨by rw [he, (sameD_iff.2 ⟨rfl, fun k hk => ⟨(h3 k hk).1.symm, (h3 k hk).2.1.symm, (h3 k hk).2.2.symm⟩⟩ : sameD _ _ _ _ _ _ _ _ = true)], hd⟩
    · rw [h1] at h'; cases h'
  clear HS7 HA7 HB7 hC7 hq7 hpost8 hb8 hlt5 hlt2 hlt6 HR
  have hS8 := st8.s
  have hnS : ∀ W, (binOp .neq 26 (sval x1 x2 x3 x4 x5) (sval G S I J O)).run Tryd.prog W = .ok (.bool (!eqS x1 x2 x3 x4 x5 G S I J O)) W := fun W => run_neq_super _ _ _ _ _ _ _ _ _ _ W
  have hnB : ∀ W, (binOp .neq 29 (bval (supZ G S I J O)) (bval (fun _ => 0))).run Tryd.prog W = .ok (.bool (!eqB (supZ G S I J O) (fun _ => 0) 256)) W := fun W => run_neq_block _ _ W
  have hnC : ∀ W, (binOp .neq 29 (bval (descZ G' S' I' J' n b i d)) (bval (fun _ => 0))).run Tryd.prog W = .ok (.bool (!eqB (descZ G' S' I' J' n b i d) (fun _ => 0) 256)) W := fun W => run_neq_block _ _ W
  generalize eqS x1 x2 x3 x4 x5 G S I J O = q1 at *
  generalize eqB (supZ G S I J O) (fun _ => 0) 256 = q2 at *
  generalize eqB (descZ G' S' I' J' n b i d) (fun _ => 0) 256 = q3 at *
  generalize readE (supZ G S I J O) = f1 at *
  generalize supE G S I J O = e1 at *
  generalize descE G' S' I' J' n b i d = e3 at *
  generalize supZ G S I J O = z1 at *
  generalize descZ G' S' I' J' n b i d = z2 at *
  have HST8 := Lib.hid st8
  clear st8
  by_cases he1 : e1 = 0
  · obtain ⟨rfl, rfl⟩ := HF1.out he1
    subst he1
    clear HF1 HF2 hnB
    by_cases he3 : e3 = 0
    · obtain ⟨rfl, a8, cap8, rfl, hsm⟩ := HF3.out he3
      subst he3
      have HSM := Lib.hid hsm
      clear HF3 HF4 hnC hsm
      go_wp2_with (first | (refine wp_loadAtG rfl 26 (.tmp 11) rfl _ _ _ rfl hA8 Tryd.underlying26 rfl (by kernel_rfl) ?_) | (refine wp_loadAtG rfl 26 (.tmp 4) rfl _ _ _ rfl hS8 Tryd.underlying26 rfl (by kernel_rfl) ?_))
      refine HSM.out.mono ?_
      rintro e w9 ⟨rfl, kk, rfl⟩
      have st9 := HST8.out.drewN kk
      clear HSM HST8 hA8 hS8 hB8 hC8 hnS
      generalize w8.drewN kk = w9 at *
      have hbT := st9.bb
      have HST := Lib.hid st9
      clear st9
      go_wp2_with (first | (refine wp_loadBlkG rfl (.tmp 6) rfl (w.heap.size + 1) z rfl hbT ?_))
      refine (superRead_any z hzb _ HST.out.t).mono ?_
      rintro e w12 ⟨rfl, hb12⟩
      have st12 := HST.out.below hb12
      clear HST hbT hb12
      cases hz12 : (readE z == 0) with
      | false =>
        obtain ⟨y1, y2, y3, y4, y5, hy⟩ := readV_form z
        rw [hy]
        have st13 := st12.below ((Below.refl _ _).alloc (Nat.le_refl _) (.cells (scells y1 y2 y3 y4 y5) 26))
        clear st12 hy
        have hqP := st13.q
        have hbP := st13.bb
        have HSP := Lib.hid st13
        clear st13
        go_wp2_with (first | (refine wp_loadAtG rfl 23 (.tmp 7) rfl _ _ _ rfl hqP Tryd.underlying23 rfl (by kernel_rfl) ?_) | (refine wp_loadBlkG rfl (.tmp 6) rfl (w.heap.size + 1) z rfl hbP ?_))
        refine (superReadDescs_any G' S' I' J' z hzb _ HSP.out.t).mono ?_
        rintro e w20 ⟨v20, E20, rfl, hpost20, hb20⟩
        have st20 := HSP.out.below hb20
        clear HSP hqP hbP hb20
        cases hr20 : rdOk G' S' I' J' z with
        | false =>
          have hE : (E20 != 0) = true ∧ v20 = .slice none 0 0 := by
            rcases hpost20 with ⟨h, _⟩ | ⟨_, h, h'⟩
            · rw [hr20] at h; cases h
            · exact ⟨by rw [h]; split <;> rfl, h'⟩
          obtain ⟨hE, rfl⟩ := hE
          clear hpost20 hr20
          go_wp2_with fail
          go_ret
          exact ⟨rfl, st20.bel⟩
        | true =>
          have hE : E20 = 0 ∧ ∃ a20 cap20, v20 = .slice a20 G'.toNat cap20 ∧ RRow w20 a20 3 G'.toNat (df (rB z) (rI z) (rD z)) := by
            rcases hpost20 with ⟨_, h, hm⟩ | ⟨h, _⟩
            · obtain ⟨a20, cap20, rfl⟩ := hm.form
              exact ⟨h, a20, cap20, rfl, hm.row (df_len _ _ _)⟩
            · rw [hr20] at h; cases h
          obtain ⟨rfl, a20, cap20, rfl, hrow20⟩ := hE
          have HROW20 := Lib.hid hrow20
          obtain ⟨hok20, hsame20⟩ := descs_back hzb hr20
          have hgn20 : (G'.toNat : Int) ≤ 9223372036854775807 := by
            obtain ⟨g1', g2', _⟩ := (mayG_iff G' S' I' J').1 (descOk_iff.1 hok20).1
            omega
          have HE20 := Lib.hid (descE_iff.2 hok20)
          have HEQ20 := Lib.hid ((eqB_iff (descZ G' S' I' J' G'.toNat (rB z) (rI z) (rD z)) z 256).2 hsame20)
          have hq20 := st20.q
          have HST20 := Lib.hid st20
          clear hpost20 hr20 hrow20 hok20 hsame20 st20
          generalize G'.toNat = n20 at *
          go_wp2_with (first | (refine wp_loadAtG rfl 23 (.tmp 7) rfl _ _ _ rfl hq20 Tryd.underlying23 rfl (by kernel_rfl) ?_))
          refine (superWriteDescs_any G' S' I' J' a20 n20 cap20 _ _ _ hgn20 _ HST20.out.t HROW20.out).mono ?_
          rintro e w21 ⟨rfl, hb21⟩
          rw [HE20.out]
          have st21 := HST20.out.below hb21
          have hn21 := Blk.new w21 29 256 (fun _ => 0)
          have hlt21 := st21.q.lt
          clear HST20 hq20 hb21 HROW20 HE20
          go_wp2_with (first | (refine wp_storeBlk rfl (.tmp 23) (.tmp 129) rfl w21.heap.size (descZ G' S' I' J' n20 (rB z) (rI z) (rD z)) _ rfl rfl hn21 ?_))
          intro w22 hB22 ho22
          have st22 := (st21.below ((Below.refl _ _).alloc (Nat.le_refl _) (.cells (Ks .u8 256 (fun _ => 0)).toArray 29))).only ho22 (by omega) hTl
          have hql : ∀ W, (binOp .eql 29 (bval (descZ G' S' I' J' n20 (rB z) (rI z) (rD z))) (bval z)).run Tryd.prog W = .ok (.bool true) W := fun W => by rw [run_eql_block, HEQ20.out]
          have hbb22 := st22.bb
          have HBL := Lib.hid st22.bel
          clear st21 hn21 ho22 hlt21 st22 HEQ20
          go_wp2_with (first | (refine wp_loadBlkG rfl (.tmp 23) rfl w21.heap.size (descZ G' S' I' J' n20 (rB z) (rI z) (rD z)) rfl hB22 ?_) | (refine wp_loadBlkG rfl (.tmp 6) rfl (w.heap.size + 1) z rfl hbb22 ?_))
          go_ret
          exact ⟨rfl, HBL.out⟩

      | true =>
        have hz0 : readE z = 0 := by simpa using hz12
        obtain ⟨hok12, hsame12⟩ := read_back hzb hz0
        have hrv : readV z = sval (hd z 4) (hd z 5) (hd z 6) (hd z 7) (g32 z 16) := by unfold readV; rw [if_pos hz0]
        rw [hrv, hz0]
        have HE12 := Lib.hid (supE_iff.2 hok12)
        have HEQ12 := Lib.hid ((eqB_iff (supZ (hd z 4) (hd z 5) (hd z 6) (hd z 7) (g32 z 16)) z 256).2 hsame12)
        have hOb := g32_bd hzb 16
        have st13 := st12.below ((Below.refl _ _).alloc (Nat.le_refl _) (.cells (scells (hd z 4) (hd z 5) (hd z 6) (hd z 7) (g32 z 16)) 26))
        have hs13 := At.new w12 26 (scells (hd z 4) (hd z 5) (hd z 6) (hd z 7) (g32 z 16))
        clear st12 hz12 hz0 hok12 hsame12 hrv
        generalize hd z 4 = y1 at *
        generalize hd z 5 = y2 at *
        generalize hd z 6 = y3 at *
        generalize hd z 7 = y4 at *
        generalize g32 z 16 = y5 at *
        have HS13 := Lib.hid st13
        clear st13
        go_wp2_with (first | (refine wp_loadAtG rfl 26 (.tmp 17) rfl _ _ _ rfl hs13 Tryd.underlying26 rfl (by kernel_rfl) ?_))
        refine (superWrite_any y1 y2 y3 y4 y5 hOb _ HS13.out.t).mono ?_
        rintro e w14 ⟨rfl, hb14⟩
        rw [HE12.out]
        have st14 := HS13.out.below hb14
        have hn14 := Blk.new w14 29 256 (fun _ => 0)
        have hlt14 := st14.q.lt
        clear HS13 hs13 hb14 HE12
        go_wp2_with (first | (refine wp_storeBlk rfl (.tmp 19) (.tmp 105) rfl w14.heap.size (supZ y1 y2 y3 y4 y5) _ rfl rfl hn14 ?_))
        intro w15 hB15 ho15
        have st15 := (st14.below ((Below.refl _ _).alloc (Nat.le_refl _) (.cells (Ks .u8 256 (fun _ => 0)).toArray 29))).only ho15 (by omega) hTl
        have hql : ∀ W, (binOp .neq 29 (bval (supZ y1 y2 y3 y4 y5)) (bval z)).run Tryd.prog W = .ok (.bool false) W := fun W => by rw [run_neq_block, HEQ12.out]; rfl
        have hbb15 := st15.bb
        have hqP := st15.q
        have HSP0 := Lib.hid st15
        clear st14 hn14 ho15 hlt14 HEQ12 st15
        go_wp2_with (first | (refine wp_loadBlkG rfl (.tmp 19) rfl w14.heap.size (supZ y1 y2 y3 y4 y5) rfl hB15 ?_) | (refine wp_loadBlkG rfl (.tmp 6) rfl (w.heap.size + 1) z rfl hbb15 ?_) | (refine wp_loadAtG rfl 23 (.tmp 7) rfl _ _ _ rfl hqP Tryd.underlying23 rfl (by kernel_rfl) ?_))
        clear hql hqP hbb15 hB15
        refine (superReadDescs_any G' S' I' J' z hzb _ HSP0.out.t).mono ?_
        rintro e w20 ⟨v20, E20, rfl, hpost20, hb20⟩
        have st20 := HSP0.out.below hb20
        clear HSP0 hb20
        cases hr20 : rdOk G' S' I' J' z with
        | false =>
          have hE : (E20 != 0) = true ∧ v20 = .slice none 0 0 := by
            rcases hpost20 with ⟨h, _⟩ | ⟨_, h, h'⟩
            · rw [hr20] at h; cases h
            · exact ⟨by rw [h]; split <;> rfl, h'⟩
          obtain ⟨hE, rfl⟩ := hE
          clear hpost20 hr20
          go_wp2_with fail
          go_ret
          exact ⟨rfl, st20.bel⟩
        | true =>
          have hE : E20 = 0 ∧ ∃ a20 cap20, v20 = .slice a20 G'.toNat cap20 ∧ RRow w20 a20 3 G'.toNat (df (rB z) (rI z) (rD z)) := by
            rcases hpost20 with ⟨_, h, hm⟩ | ⟨h, _⟩
            · obtain ⟨a20, cap20, rfl⟩ := hm.form
              exact ⟨h, a20, cap20, rfl, hm.row (df_len _ _ _)⟩
            · rw [hr20] at h; cases h
          obtain ⟨rfl, a20, cap20, rfl, hrow20⟩ := hE
          have HROW20 := Lib.hid hrow20
          obtain ⟨hok20, hsame20⟩ := descs_back hzb hr20
          have hgn20 : (G'.toNat : Int) ≤ 9223372036854775807 := by
            obtain ⟨g1', g2', _⟩ := (mayG_iff G' S' I' J').1 (descOk_iff.1 hok20).1
            omega
          have HE20 := Lib.hid (descE_iff.2 hok20)
          have HEQ20 := Lib.hid ((eqB_iff (descZ G' S' I' J' G'.toNat (rB z) (rI z) (rD z)) z 256).2 hsame20)
          have hq20 := st20.q
          have HST20 := Lib.hid st20
          clear hpost20 hr20 hrow20 hok20 hsame20 st20
          generalize G'.toNat = n20 at *
          go_wp2_with (first | (refine wp_loadAtG rfl 23 (.tmp 7) rfl _ _ _ rfl hq20 Tryd.underlying23 rfl (by kernel_rfl) ?_))
          refine (superWriteDescs_any G' S' I' J' a20 n20 cap20 _ _ _ hgn20 _ HST20.out.t HROW20.out).mono ?_
          rintro e w21 ⟨rfl, hb21⟩
          rw [HE20.out]
          have st21 := HST20.out.below hb21
          have hn21 := Blk.new w21 29 256 (fun _ => 0)
          have hlt21 := st21.q.lt
          clear HST20 hq20 hb21 HROW20 HE20
          go_wp2_with (first | (refine wp_storeBlk rfl (.tmp 23) (.tmp 129) rfl w21.heap.size (descZ G' S' I' J' n20 (rB z) (rI z) (rD z)) _ rfl rfl hn21 ?_))
          intro w22 hB22 ho22
          have st22 := (st21.below ((Below.refl _ _).alloc (Nat.le_refl _) (.cells (Ks .u8 256 (fun _ => 0)).toArray 29))).only ho22 (by omega) hTl
          have hql : ∀ W, (binOp .eql 29 (bval (descZ G' S' I' J' n20 (rB z) (rI z) (rD z))) (bval z)).run Tryd.prog W = .ok (.bool true) W := fun W => by rw [run_eql_block, HEQ20.out]
          have hbb22 := st22.bb
          have HBL := Lib.hid st22.bel
          clear st21 hn21 ho22 hlt21 st22 HEQ20
          go_wp2_with (first | (refine wp_loadBlkG rfl (.tmp 23) rfl w21.heap.size (descZ G' S' I' J' n20 (rB z) (rI z) (rD z)) rfl hB22 ?_) | (refine wp_loadBlkG rfl (.tmp 6) rfl (w.heap.size + 1) z rfl hbb22 ?_))
          go_ret
          exact ⟨rfl, HBL.out⟩
    · have hq3 := HF4.out he3
      subst hq3
      have hn3 : (e3 == 0) = false := by simpa using he3
      have hn3' : (e3 != 0) = true := by simpa using he3
      have st9 := HST8.out
      clear HF3 HF4 he3 HST8
      have HST9 := Lib.hid st9
      clear st9
      have hb9 := HST9.out.bb
      go_wp2_with (first | (refine wp_loadAtG rfl 26 (.tmp 11) rfl _ _ _ rfl hA8 Tryd.underlying26 rfl (by kernel_rfl) ?_) | (refine wp_loadAtG rfl 26 (.tmp 4) rfl _ _ _ rfl hS8 Tryd.underlying26 rfl (by kernel_rfl) ?_) | (refine wp_loadBlkG rfl (.tmp 13) rfl g2 z2 rfl hC8 ?_) | (refine wp_loadBlkG rfl (.tmp 6) rfl (w.heap.size + 1) z rfl hb9 ?_))
      clear hb9 hA8 hS8 hB8 hC8 hnS hnC hn3 hn3'
      refine (superRead_any z hzb _ HST9.out.t).mono ?_
      rintro e w12 ⟨rfl, hb12⟩
      have st12 := HST9.out.below hb12
      clear HST9 hb12
      cases hz12 : (readE z == 0) with
      | false =>
        obtain ⟨y1, y2, y3, y4, y5, hy⟩ := readV_form z
        rw [hy]
        have st13 := st12.below ((Below.refl _ _).alloc (Nat.le_refl _) (.cells (scells y1 y2 y3 y4 y5) 26))
        clear st12 hy
        have hqP := st13.q
        have hbP := st13.bb
        have HSP := Lib.hid st13
        clear st13
        go_wp2_with (first | (refine wp_loadAtG rfl 23 (.tmp 7) rfl _ _ _ rfl hqP Tryd.underlying23 rfl (by kernel_rfl) ?_) | (refine wp_loadBlkG rfl (.tmp 6) rfl (w.heap.size + 1) z rfl hbP ?_))
        refine (superReadDescs_any G' S' I' J' z hzb _ HSP.out.t).mono ?_
        rintro e w20 ⟨v20, E20, rfl, hpost20, hb20⟩
        have st20 := HSP.out.below hb20
        clear HSP hqP hbP hb20
        cases hr20 : rdOk G' S' I' J' z with
        | false =>
          have hE : (E20 != 0) = true ∧ v20 = .slice none 0 0 := by
            rcases hpost20 with ⟨h, _⟩ | ⟨_, h, h'⟩
            · rw [hr20] at h; cases h
            · exact ⟨by rw [h]; split <;> rfl, h'⟩
          obtain ⟨hE, rfl⟩ := hE
          clear hpost20 hr20
          go_wp2_with fail
          go_ret
          exact ⟨rfl, st20.bel⟩
        | true =>
          have hE : E20 = 0 ∧ ∃ a20 cap20, v20 = .slice a20 G'.toNat cap20 ∧ RRow w20 a20 3 G'.toNat (df (rB z) (rI z) (rD z)) := by
            rcases hpost20 with ⟨_, h, hm⟩ | ⟨h, _⟩
            · obtain ⟨a20, cap20, rfl⟩ := hm.form
              exact ⟨h, a20, cap20, rfl, hm.row (df_len _ _ _)⟩
            · rw [hr20] at h; cases h
          obtain ⟨rfl, a20, cap20, rfl, hrow20⟩ := hE
          have HROW20 := Lib.hid hrow20
          obtain ⟨hok20, hsame20⟩ := descs_back hzb hr20
          have hgn20 : (G'.toNat : Int) ≤ 9223372036854775807 := by
            obtain ⟨g1', g2', _⟩ := (mayG_iff G' S' I' J').1 (descOk_iff.1 hok20).1
            omega
          have HE20 := Lib.hid (descE_iff.2 hok20)
          have HEQ20 := Lib.hid ((eqB_iff (descZ G' S' I' J' G'.toNat (rB z) (rI z) (rD z)) z 256).2 hsame20)
          have hq20 := st20.q
          have HST20 := Lib.hid st20
          clear hpost20 hr20 hrow20 hok20 hsame20 st20
          generalize G'.toNat = n20 at *
          go_wp2_with (first | (refine wp_loadAtG rfl 23 (.tmp 7) rfl _ _ _ rfl hq20 Tryd.underlying23 rfl (by kernel_rfl) ?_))
          refine (superWriteDescs_any G' S' I' J' a20 n20 cap20 _ _ _ hgn20 _ HST20.out.t HROW20.out).mono ?_
          rintro e w21 ⟨rfl, hb21⟩
          rw [HE20.out]
          have st21 := HST20.out.below hb21
          have hn21 := Blk.new w21 29 256 (fun _ => 0)
          have hlt21 := st21.q.lt
          clear HST20 hq20 hb21 HROW20 HE20
          go_wp2_with (first | (refine wp_storeBlk rfl (.tmp 23) (.tmp 129) rfl w21.heap.size (descZ G' S' I' J' n20 (rB z) (rI z) (rD z)) _ rfl rfl hn21 ?_))
          intro w22 hB22 ho22
          have st22 := (st21.below ((Below.refl _ _).alloc (Nat.le_refl _) (.cells (Ks .u8 256 (fun _ => 0)).toArray 29))).only ho22 (by omega) hTl
          have hql : ∀ W, (binOp .eql 29 (bval (descZ G' S' I' J' n20 (rB z) (rI z) (rD z))) (bval z)).run Tryd.prog W = .ok (.bool true) W := fun W => by rw [run_eql_block, HEQ20.out]
          have hbb22 := st22.bb
          have HBL := Lib.hid st22.bel
          clear st21 hn21 ho22 hlt21 st22 HEQ20
          go_wp2_with (first | (refine wp_loadBlkG rfl (.tmp 23) rfl w21.heap.size (descZ G' S' I' J' n20 (rB z) (rI z) (rD z)) rfl hB22 ?_) | (refine wp_loadBlkG rfl (.tmp 6) rfl (w.heap.size + 1) z rfl hbb22 ?_))
          go_ret
          exact ⟨rfl, HBL.out⟩

      | true =>
        have hz0 : readE z = 0 := by simpa using hz12
        obtain ⟨hok12, hsame12⟩ := read_back hzb hz0
        have hrv : readV z = sval (hd z 4) (hd z 5) (hd z 6) (hd z 7) (g32 z 16) := by unfold readV; rw [if_pos hz0]
        rw [hrv, hz0]
        have HE12 := Lib.hid (supE_iff.2 hok12)
        have HEQ12 := Lib.hid ((eqB_iff (supZ (hd z 4) (hd z 5) (hd z 6) (hd z 7) (g32 z 16)) z 256).2 hsame12)
        have hOb := g32_bd hzb 16
        have st13 := st12.below ((Below.refl _ _).alloc (Nat.le_refl _) (.cells (scells (hd z 4) (hd z 5) (hd z 6) (hd z 7) (g32 z 16)) 26))
        have hs13 := At.new w12 26 (scells (hd z 4) (hd z 5) (hd z 6) (hd z 7) (g32 z 16))
        clear st12 hz12 hz0 hok12 hsame12 hrv
        generalize hd z 4 = y1 at *
        generalize hd z 5 = y2 at *
        generalize hd z 6 = y3 at *
        generalize hd z 7 = y4 at *
        generalize g32 z 16 = y5 at *
        have HS13 := Lib.hid st13
        clear st13
        go_wp2_with (first | (refine wp_loadAtG rfl 26 (.tmp 17) rfl _ _ _ rfl hs13 Tryd.underlying26 rfl (by kernel_rfl) ?_))
        refine (superWrite_any y1 y2 y3 y4 y5 hOb _ HS13.out.t).mono ?_
        rintro e w14 ⟨rfl, hb14⟩
        rw [HE12.out]
        have st14 := HS13.out.below hb14
        have hn14 := Blk.new w14 29 256 (fun _ => 0)
        have hlt14 := st14.q.lt
        clear HS13 hs13 hb14 HE12
        go_wp2_with (first | (refine wp_storeBlk rfl (.tmp 19) (.tmp 105) rfl w14.heap.size (supZ y1 y2 y3 y4 y5) _ rfl rfl hn14 ?_))
        intro w15 hB15 ho15
        have st15 := (st14.below ((Below.refl _ _).alloc (Nat.le_refl _) (.cells (Ks .u8 256 (fun _ => 0)).toArray 29))).only ho15 (by omega) hTl
        have hql : ∀ W, (binOp .neq 29 (bval (supZ y1 y2 y3 y4 y5)) (bval z)).run Tryd.prog W = .ok (.bool false) W := fun W => by rw [run_neq_block, HEQ12.out]; rfl
        have hbb15 := st15.bb
        have hqP := st15.q
        have HSP0 := Lib.hid st15
        clear st14 hn14 ho15 hlt14 HEQ12 st15
        go_wp2_with (first | (refine wp_loadBlkG rfl (.tmp 19) rfl w14.heap.size (supZ y1 y2 y3 y4 y5) rfl hB15 ?_) | (refine wp_loadBlkG rfl (.tmp 6) rfl (w.heap.size + 1) z rfl hbb15 ?_) | (refine wp_loadAtG rfl 23 (.tmp 7) rfl _ _ _ rfl hqP Tryd.underlying23 rfl (by kernel_rfl) ?_))
        clear hql hqP hbb15 hB15
        refine (superReadDescs_any G' S' I' J' z hzb _ HSP0.out.t).mono ?_
        rintro e w20 ⟨v20, E20, rfl, hpost20, hb20⟩
        have st20 := HSP0.out.below hb20
        clear HSP0 hb20
        cases hr20 : rdOk G' S' I' J' z with
        | false =>
          have hE : (E20 != 0) = true ∧ v20 = .slice none 0 0 := by
            rcases hpost20 with ⟨h, _⟩ | ⟨_, h, h'⟩
            · rw [hr20] at h; cases h
            · exact ⟨by rw [h]; split <;> rfl, h'⟩
          obtain ⟨hE, rfl⟩ := hE
          clear hpost20 hr20
          go_wp2_with fail
          go_ret
          exact ⟨rfl, st20.bel⟩
        | true =>
          have hE : E20 = 0 ∧ ∃ a20 cap20, v20 = .slice a20 G'.toNat cap20 ∧ RRow w20 a20 3 G'.toNat (df (rB z) (rI z) (rD z)) := by
            rcases hpost20 with ⟨_, h, hm⟩ | ⟨h, _⟩
            · obtain ⟨a20, cap20, rfl⟩ := hm.form
              exact ⟨h, a20, cap20, rfl, hm.row (df_len _ _ _)⟩
            · rw [hr20] at h; cases h
          obtain ⟨rfl, a20, cap20, rfl, hrow20⟩ := hE
          have HROW20 := Lib.hid hrow20
          obtain ⟨hok20, hsame20⟩ := descs_back hzb hr20
          have hgn20 : (G'.toNat : Int) ≤ 9223372036854775807 := by
            obtain ⟨g1', g2', _⟩ := (mayG_iff G' S' I' J').1 (descOk_iff.1 hok20).1
            omega
          have HE20 := Lib.hid (descE_iff.2 hok20)
          have HEQ20 := Lib.hid ((eqB_iff (descZ G' S' I' J' G'.toNat (rB z) (rI z) (rD z)) z 256).2 hsame20)
          have hq20 := st20.q
          have HST20 := Lib.hid st20
          clear hpost20 hr20 hrow20 hok20 hsame20 st20
          generalize G'.toNat = n20 at *
          go_wp2_with (first | (refine wp_loadAtG rfl 23 (.tmp 7) rfl _ _ _ rfl hq20 Tryd.underlying23 rfl (by kernel_rfl) ?_))
          refine (superWriteDescs_any G' S' I' J' a20 n20 cap20 _ _ _ hgn20 _ HST20.out.t HROW20.out).mono ?_
          rintro e w21 ⟨rfl, hb21⟩
          rw [HE20.out]
          have st21 := HST20.out.below hb21
          have hn21 := Blk.new w21 29 256 (fun _ => 0)
          have hlt21 := st21.q.lt
          clear HST20 hq20 hb21 HROW20 HE20
          go_wp2_with (first | (refine wp_storeBlk rfl (.tmp 23) (.tmp 129) rfl w21.heap.size (descZ G' S' I' J' n20 (rB z) (rI z) (rD z)) _ rfl rfl hn21 ?_))
          intro w22 hB22 ho22
          have st22 := (st21.below ((Below.refl _ _).alloc (Nat.le_refl _) (.cells (Ks .u8 256 (fun _ => 0)).toArray 29))).only ho22 (by omega) hTl
          have hql : ∀ W, (binOp .eql 29 (bval (descZ G' S' I' J' n20 (rB z) (rI z) (rD z))) (bval z)).run Tryd.prog W = .ok (.bool true) W := fun W => by rw [run_eql_block, HEQ20.out]
          have hbb22 := st22.bb
          have HBL := Lib.hid st22.bel
          clear st21 hn21 ho22 hlt21 st22 HEQ20
          go_wp2_with (first | (refine wp_loadBlkG rfl (.tmp 23) rfl w21.heap.size (descZ G' S' I' J' n20 (rB z) (rI z) (rD z)) rfl hB22 ?_) | (refine wp_loadBlkG rfl (.tmp 6) rfl (w.heap.size + 1) z rfl hbb22 ?_))
          go_ret
          exact ⟨rfl, HBL.out⟩
  · have hq2 := HF2.out he1
    subst hq2
    have hn1 : (e1 == 0) = false := by simpa using he1
    have hn1' : (e1 != 0) = true := by simpa using he1
    clear HF1 HF2 hnS he1
    by_cases he3 : e3 = 0
    · obtain ⟨rfl, a8, cap8, rfl, hsm⟩ := HF3.out he3
      subst he3
      have HSM := Lib.hid hsm
      clear HF3 HF4 hnC hsm
      go_wp2_with (first | (refine wp_loadBlkG rfl (.tmp 9) rfl g1 z1 rfl hB8 ?_))
      refine HSM.out.mono ?_
      rintro e w9 ⟨rfl, kk, rfl⟩
      have st9 := HST8.out.drewN kk
      clear HSM HST8 hA8 hS8 hB8 hC8 hnB hn1 hn1'
      generalize w8.drewN kk = w9 at *
      have hbT := st9.bb
      have HST := Lib.hid st9
      clear st9
      go_wp2_with (first | (refine wp_loadBlkG rfl (.tmp 6) rfl (w.heap.size + 1) z rfl hbT ?_))
      refine (superRead_any z hzb _ HST.out.t).mono ?_
      rintro e w12 ⟨rfl, hb12⟩
      have st12 := HST.out.below hb12
      clear HST hbT hb12
      cases hz12 : (readE z == 0) with
      | false =>
        obtain ⟨y1, y2, y3, y4, y5, hy⟩ := readV_form z
        rw [hy]
        have st13 := st12.below ((Below.refl _ _).alloc (Nat.le_refl _) (.cells (scells y1 y2 y3 y4 y5) 26))
        clear st12 hy
        have hqP := st13.q
        have hbP := st13.bb
        have HSP := Lib.hid st13
        clear st13
        go_wp2_with (first | (refine wp_loadAtG rfl 23 (.tmp 7) rfl _ _ _ rfl hqP Tryd.underlying23 rfl (by kernel_rfl) ?_) | (refine wp_loadBlkG rfl (.tmp 6) rfl (w.heap.size + 1) z rfl hbP ?_))
        refine (superReadDescs_any G' S' I' J' z hzb _ HSP.out.t).mono ?_
        rintro e w20 ⟨v20, E20, rfl, hpost20, hb20⟩
        have st20 := HSP.out.below hb20
        clear HSP hqP hbP hb20
        cases hr20 : rdOk G' S' I' J' z with
        | false =>
          have hE : (E20 != 0) = true ∧ v20 = .slice none 0 0 := by
            rcases hpost20 with ⟨h, _⟩ | ⟨_, h, h'⟩
            · rw [hr20] at h; cases h
            · exact ⟨by rw [h]; split <;> rfl, h'⟩
          obtain ⟨hE, rfl⟩ := hE
          clear hpost20 hr20
          go_wp2_with fail
          go_ret
          exact ⟨rfl, st20.bel⟩
        | true =>
          have hE : E20 = 0 ∧ ∃ a20 cap20, v20 = .slice a20 G'.toNat cap20 ∧ RRow w20 a20 3 G'.toNat (df (rB z) (rI z) (rD z)) := by
            rcases hpost20 with ⟨_, h, hm⟩ | ⟨h, _⟩
            · obtain ⟨a20, cap20, rfl⟩ := hm.form
              exact ⟨h, a20, cap20, rfl, hm.row (df_len _ _ _)⟩
            · rw [hr20] at h; cases h
          obtain ⟨rfl, a20, cap20, rfl, hrow20⟩ := hE
          have HROW20 := Lib.hid hrow20
          obtain ⟨hok20, hsame20⟩ := descs_back hzb hr20
          have hgn20 : (G'.toNat : Int) ≤ 9223372036854775807 := by
            obtain ⟨g1', g2', _⟩ := (mayG_iff G' S' I' J').1 (descOk_iff.1 hok20).1
            omega
          have HE20 := Lib.hid (descE_iff.2 hok20)
          have HEQ20 := Lib.hid ((eqB_iff (descZ G' S' I' J' G'.toNat (rB z) (rI z) (rD z)) z 256).2 hsame20)
          have hq20 := st20.q
          have HST20 := Lib.hid st20
          clear hpost20 hr20 hrow20 hok20 hsame20 st20
          generalize G'.toNat = n20 at *
          go_wp2_with (first | (refine wp_loadAtG rfl 23 (.tmp 7) rfl _ _ _ rfl hq20 Tryd.underlying23 rfl (by kernel_rfl) ?_))
          refine (superWriteDescs_any G' S' I' J' a20 n20 cap20 _ _ _ hgn20 _ HST20.out.t HROW20.out).mono ?_
          rintro e w21 ⟨rfl, hb21⟩
          rw [HE20.out]
          have st21 := HST20.out.below hb21
          have hn21 := Blk.new w21 29 256 (fun _ => 0)
          have hlt21 := st21.q.lt
          clear HST20 hq20 hb21 HROW20 HE20
          go_wp2_with (first | (refine wp_storeBlk rfl (.tmp 23) (.tmp 129) rfl w21.heap.size (descZ G' S' I' J' n20 (rB z) (rI z) (rD z)) _ rfl rfl hn21 ?_))
          intro w22 hB22 ho22
          have st22 := (st21.below ((Below.refl _ _).alloc (Nat.le_refl _) (.cells (Ks .u8 256 (fun _ => 0)).toArray 29))).only ho22 (by omega) hTl
          have hql : ∀ W, (binOp .eql 29 (bval (descZ G' S' I' J' n20 (rB z) (rI z) (rD z))) (bval z)).run Tryd.prog W = .ok (.bool true) W := fun W => by rw [run_eql_block, HEQ20.out]
          have hbb22 := st22.bb
          have HBL := Lib.hid st22.bel
          clear st21 hn21 ho22 hlt21 st22 HEQ20
          go_wp2_with (first | (refine wp_loadBlkG rfl (.tmp 23) rfl w21.heap.size (descZ G' S' I' J' n20 (rB z) (rI z) (rD z)) rfl hB22 ?_) | (refine wp_loadBlkG rfl (.tmp 6) rfl (w.heap.size + 1) z rfl hbb22 ?_))
          go_ret
          exact ⟨rfl, HBL.out⟩

      | true =>
        have hz0 : readE z = 0 := by simpa using hz12
        obtain ⟨hok12, hsame12⟩ := read_back hzb hz0
        have hrv : readV z = sval (hd z 4) (hd z 5) (hd z 6) (hd z 7) (g32 z 16) := by unfold readV; rw [if_pos hz0]
        rw [hrv, hz0]
        have HE12 := Lib.hid (supE_iff.2 hok12)
        have HEQ12 := Lib.hid ((eqB_iff (supZ (hd z 4) (hd z 5) (hd z 6) (hd z 7) (g32 z 16)) z 256).2 hsame12)
        have hOb := g32_bd hzb 16
        have st13 := st12.below ((Below.refl _ _).alloc (Nat.le_refl _) (.cells (scells (hd z 4) (hd z 5) (hd z 6) (hd z 7) (g32 z 16)) 26))
        have hs13 := At.new w12 26 (scells (hd z 4) (hd z 5) (hd z 6) (hd z 7) (g32 z 16))
        clear st12 hz12 hz0 hok12 hsame12 hrv
        generalize hd z 4 = y1 at *
        generalize hd z 5 = y2 at *
        generalize hd z 6 = y3 at *
        generalize hd z 7 = y4 at *
        generalize g32 z 16 = y5 at *
        have HS13 := Lib.hid st13
        clear st13
        go_wp2_with (first | (refine wp_loadAtG rfl 26 (.tmp 17) rfl _ _ _ rfl hs13 Tryd.underlying26 rfl (by kernel_rfl) ?_))
        refine (superWrite_any y1 y2 y3 y4 y5 hOb _ HS13.out.t).mono ?_
        rintro e w14 ⟨rfl, hb14⟩
        rw [HE12.out]
        have st14 := HS13.out.below hb14
        have hn14 := Blk.new w14 29 256 (fun _ => 0)
        have hlt14 := st14.q.lt
        clear HS13 hs13 hb14 HE12
        go_wp2_with (first | (refine wp_storeBlk rfl (.tmp 19) (.tmp 105) rfl w14.heap.size (supZ y1 y2 y3 y4 y5) _ rfl rfl hn14 ?_))
        intro w15 hB15 ho15
        have st15 := (st14.below ((Below.refl _ _).alloc (Nat.le_refl _) (.cells (Ks .u8 256 (fun _ => 0)).toArray 29))).only ho15 (by omega) hTl
        have hql : ∀ W, (binOp .neq 29 (bval (supZ y1 y2 y3 y4 y5)) (bval z)).run Tryd.prog W = .ok (.bool false) W := fun W => by rw [run_neq_block, HEQ12.out]; rfl
        have hbb15 := st15.bb
        have hqP := st15.q
        have HSP0 := Lib.hid st15
        clear st14 hn14 ho15 hlt14 HEQ12 st15
        go_wp2_with (first | (refine wp_loadBlkG rfl (.tmp 19) rfl w14.heap.size (supZ y1 y2 y3 y4 y5) rfl hB15 ?_) | (refine wp_loadBlkG rfl (.tmp 6) rfl (w.heap.size + 1) z rfl hbb15 ?_) | (refine wp_loadAtG rfl 23 (.tmp 7) rfl _ _ _ rfl hqP Tryd.underlying23 rfl (by kernel_rfl) ?_))
        clear hql hqP hbb15 hB15
        refine (superReadDescs_any G' S' I' J' z hzb _ HSP0.out.t).mono ?_
        rintro e w20 ⟨v20, E20, rfl, hpost20, hb20⟩
        have st20 := HSP0.out.below hb20
        clear HSP0 hb20
        cases hr20 : rdOk G' S' I' J' z with
        | false =>
          have hE : (E20 != 0) = true ∧ v20 = .slice none 0 0 := by
            rcases hpost20 with ⟨h, _⟩ | ⟨_, h, h'⟩
            · rw [hr20] at h; cases h
            · exact ⟨by rw [h]; split <;> rfl, h'⟩
          obtain ⟨hE, rfl⟩ := hE
          clear hpost20 hr20
          go_wp2_with fail
          go_ret
          exact ⟨rfl, st20.bel⟩
        | true =>
          have hE : E20 = 0 ∧ ∃ a20 cap20, v20 = .slice a20 G'.toNat cap20 ∧ RRow w20 a20 3 G'.toNat (df (rB z) (rI z) (rD z)) := by
            rcases hpost20 with ⟨_, h, hm⟩ | ⟨h, _⟩
            · obtain ⟨a20, cap20, rfl⟩ := hm.form
              exact ⟨h, a20, cap20, rfl, hm.row (df_len _ _ _)⟩
            · rw [hr20] at h; cases h
          obtain ⟨rfl, a20, cap20, rfl, hrow20⟩ := hE
          have HROW20 := Lib.hid hrow20
          obtain ⟨hok20, hsame20⟩ := descs_back hzb hr20
          have hgn20 : (G'.toNat : Int) ≤ 9223372036854775807 := by
            obtain ⟨g1', g2', _⟩ := (mayG_iff G' S' I' J').1 (descOk_iff.1 hok20).1
            omega
          have HE20 := Lib.hid (descE_iff.2 hok20)
          have HEQ20 := Lib.hid ((eqB_iff (descZ G' S' I' J' G'.toNat (rB z) (rI z) (rD z)) z 256).2 hsame20)
          have hq20 := st20.q
          have HST20 := Lib.hid st20
          clear hpost20 hr20 hrow20 hok20 hsame20 st20
          generalize G'.toNat = n20 at *
          go_wp2_with (first | (refine wp_loadAtG rfl 23 (.tmp 7) rfl _ _ _ rfl hq20 Tryd.underlying23 rfl (by kernel_rfl) ?_))
          refine (superWriteDescs_any G' S' I' J' a20 n20 cap20 _ _ _ hgn20 _ HST20.out.t HROW20.out).mono ?_
          rintro e w21 ⟨rfl, hb21⟩
          rw [HE20.out]
          have st21 := HST20.out.below hb21
          have hn21 := Blk.new w21 29 256 (fun _ => 0)
          have hlt21 := st21.q.lt
          clear HST20 hq20 hb21 HROW20 HE20
          go_wp2_with (first | (refine wp_storeBlk rfl (.tmp 23) (.tmp 129) rfl w21.heap.size (descZ G' S' I' J' n20 (rB z) (rI z) (rD z)) _ rfl rfl hn21 ?_))
          intro w22 hB22 ho22
          have st22 := (st21.below ((Below.refl _ _).alloc (Nat.le_refl _) (.cells (Ks .u8 256 (fun _ => 0)).toArray 29))).only ho22 (by omega) hTl
          have hql : ∀ W, (binOp .eql 29 (bval (descZ G' S' I' J' n20 (rB z) (rI z) (rD z))) (bval z)).run Tryd.prog W = .ok (.bool true) W := fun W => by rw [run_eql_block, HEQ20.out]
          have hbb22 := st22.bb
          have HBL := Lib.hid st22.bel
          clear st21 hn21 ho22 hlt21 st22 HEQ20
          go_wp2_with (first | (refine wp_loadBlkG rfl (.tmp 23) rfl w21.heap.size (descZ G' S' I' J' n20 (rB z) (rI z) (rD z)) rfl hB22 ?_) | (refine wp_loadBlkG rfl (.tmp 6) rfl (w.heap.size + 1) z rfl hbb22 ?_))
          go_ret
          exact ⟨rfl, HBL.out⟩
    · have hq3 := HF4.out he3
      subst hq3
      have hn3 : (e3 == 0) = false := by simpa using he3
      have hn3' : (e3 != 0) = true := by simpa using he3
      have HST9 := Lib.hid HST8.out
      clear HF3 HF4 he3 HST8
      have hb9 := HST9.out.bb
      go_wp2_with (first | (refine wp_loadBlkG rfl (.tmp 9) rfl g1 z1 rfl hB8 ?_) | (refine wp_loadBlkG rfl (.tmp 13) rfl g2 z2 rfl hC8 ?_) | (refine wp_loadBlkG rfl (.tmp 6) rfl (w.heap.size + 1) z rfl hb9 ?_))
      clear hb9 hA8 hS8 hB8 hC8 hnB hnC hn3 hn3' hn1 hn1'
      refine (superRead_any z hzb _ HST9.out.t).mono ?_
      rintro e w12 ⟨rfl, hb12⟩
      have st12 := HST9.out.below hb12
      clear HST9 hb12
      cases hz12 : (readE z == 0) with
      | false =>
        obtain ⟨y1, y2, y3, y4, y5, hy⟩ := readV_form z
        rw [hy]
        have st13 := st12.below ((Below.refl _ _).alloc (Nat.le_refl _) (.cells (scells y1 y2 y3 y4 y5) 26))
        clear st12 hy
        have hqP := st13.q
        have hbP := st13.bb
        have HSP := Lib.hid st13
        clear st13
        go_wp2_with (first | (refine wp_loadAtG rfl 23 (.tmp 7) rfl _ _ _ rfl hqP Tryd.underlying23 rfl (by kernel_rfl) ?_) | (refine wp_loadBlkG rfl (.tmp 6) rfl (w.heap.size + 1) z rfl hbP ?_))
        refine (superReadDescs_any G' S' I' J' z hzb _ HSP.out.t).mono ?_
        rintro e w20 ⟨v20, E20, rfl, hpost20, hb20⟩
        have st20 := HSP.out.below hb20
        clear HSP hqP hbP hb20
        cases hr20 : rdOk G' S' I' J' z with
        | false =>
          have hE : (E20 != 0) = true ∧ v20 = .slice none 0 0 := by
            rcases hpost20 with ⟨h, _⟩ | ⟨_, h, h'⟩
            · rw [hr20] at h; cases h
            · exact ⟨by rw [h]; split <;> rfl, h'⟩
          obtain ⟨hE, rfl⟩ := hE
          clear hpost20 hr20
          go_wp2_with fail
          go_ret
          exact ⟨rfl, st20.bel⟩
        | true =>
          have hE : E20 = 0 ∧ ∃ a20 cap20, v20 = .slice a20 G'.toNat cap20 ∧ RRow w20 a20 3 G'.toNat (df (rB z) (rI z) (rD z)) := by
            rcases hpost20 with ⟨_, h, hm⟩ | ⟨h, _⟩
            · obtain ⟨a20, cap20, rfl⟩ := hm.form
              exact ⟨h, a20, cap20, rfl, hm.row (df_len _ _ _)⟩
            · rw [hr20] at h; cases h
          obtain ⟨rfl, a20, cap20, rfl, hrow20⟩ := hE
          have HROW20 := Lib.hid hrow20
          obtain ⟨hok20, hsame20⟩ := descs_back hzb hr20
          have hgn20 : (G'.toNat : Int) ≤ 9223372036854775807 := by
            obtain ⟨g1', g2', _⟩ := (mayG_iff G' S' I' J').1 (descOk_iff.1 hok20).1
            omega
          have HE20 := Lib.hid (descE_iff.2 hok20)
          have HEQ20 := Lib.hid ((eqB_iff (descZ G' S' I' J' G'.toNat (rB z) (rI z) (rD z)) z 256).2 hsame20)
          have hq20 := st20.q
          have HST20 := Lib.hid st20
          clear hpost20 hr20 hrow20 hok20 hsame20 st20
          generalize G'.toNat = n20 at *
          go_wp2_with (first | (refine wp_loadAtG rfl 23 (.tmp 7) rfl _ _ _ rfl hq20 Tryd.underlying23 rfl (by kernel_rfl) ?_))
          refine (superWriteDescs_any G' S' I' J' a20 n20 cap20 _ _ _ hgn20 _ HST20.out.t HROW20.out).mono ?_
          rintro e w21 ⟨rfl, hb21⟩
          rw [HE20.out]
          have st21 := HST20.out.below hb21
          have hn21 := Blk.new w21 29 256 (fun _ => 0)
          have hlt21 := st21.q.lt
          clear HST20 hq20 hb21 HROW20 HE20
          go_wp2_with (first | (refine wp_storeBlk rfl (.tmp 23) (.tmp 129) rfl w21.heap.size (descZ G' S' I' J' n20 (rB z) (rI z) (rD z)) _ rfl rfl hn21 ?_))
          intro w22 hB22 ho22
          have st22 := (st21.below ((Below.refl _ _).alloc (Nat.le_refl _) (.cells (Ks .u8 256 (fun _ => 0)).toArray 29))).only ho22 (by omega) hTl
          have hql : ∀ W, (binOp .eql 29 (bval (descZ G' S' I' J' n20 (rB z) (rI z) (rD z))) (bval z)).run Tryd.prog W = .ok (.bool true) W := fun W => by rw [run_eql_block, HEQ20.out]
          have hbb22 := st22.bb
          have HBL := Lib.hid st22.bel
          clear st21 hn21 ho22 hlt21 st22 HEQ20
          go_wp2_with (first | (refine wp_loadBlkG rfl (.tmp 23) rfl w21.heap.size (descZ G' S' I' J' n20 (rB z) (rI z) (rD z)) rfl hB22 ?_) | (refine wp_loadBlkG rfl (.tmp 6) rfl (w.heap.size + 1) z rfl hbb22 ?_))
          go_ret
          exact ⟨rfl, HBL.out⟩

      | true =>
        have hz0 : readE z = 0 := by simpa using hz12
        obtain ⟨hok12, hsame12⟩ := read_back hzb hz0
        have hrv : readV z = sval (hd z 4) (hd z 5) (hd z 6) (hd z 7) (g32 z 16) := by unfold readV; rw [if_pos hz0]
        rw [hrv, hz0]
        have HE12 := Lib.hid (supE_iff.2 hok12)
        have HEQ12 := Lib.hid ((eqB_iff (supZ (hd z 4) (hd z 5) (hd z 6) (hd z 7) (g32 z 16)) z 256).2 hsame12)
        have hOb := g32_bd hzb 16
        have st13 := st12.below ((Below.refl _ _).alloc (Nat.le_refl _) (.cells (scells (hd z 4) (hd z 5) (hd z 6) (hd z 7) (g32 z 16)) 26))
        have hs13 := At.new w12 26 (scells (hd z 4) (hd z 5) (hd z 6) (hd z 7) (g32 z 16))
        clear st12 hz12 hz0 hok12 hsame12 hrv
        generalize hd z 4 = y1 at *
        generalize hd z 5 = y2 at *
        generalize hd z 6 = y3 at *
        generalize hd z 7 = y4 at *
        generalize g32 z 16 = y5 at *
        have HS13 := Lib.hid st13
        clear st13
        go_wp2_with (first | (refine wp_loadAtG rfl 26 (.tmp 17) rfl _ _ _ rfl hs13 Tryd.underlying26 rfl (by kernel_rfl) ?_))
        refine (superWrite_any y1 y2 y3 y4 y5 hOb _ HS13.out.t).mono ?_
        rintro e w14 ⟨rfl, hb14⟩
        rw [HE12.out]
        have st14 := HS13.out.below hb14
        have hn14 := Blk.new w14 29 256 (fun _ => 0)
        have hlt14 := st14.q.lt
        clear HS13 hs13 hb14 HE12
        go_wp2_with (first | (refine wp_storeBlk rfl (.tmp 19) (.tmp 105) rfl w14.heap.size (supZ y1 y2 y3 y4 y5) _ rfl rfl hn14 ?_))
        intro w15 hB15 ho15
        have st15 := (st14.below ((Below.refl _ _).alloc (Nat.le_refl _) (.cells (Ks .u8 256 (fun _ => 0)).toArray 29))).only ho15 (by omega) hTl
        have hql : ∀ W, (binOp .neq 29 (bval (supZ y1 y2 y3 y4 y5)) (bval z)).run Tryd.prog W = .ok (.bool false) W := fun W => by rw [run_neq_block, HEQ12.out]; rfl
        have hbb15 := st15.bb
        have hqP := st15.q
        have HSP0 := Lib.hid st15
        clear st14 hn14 ho15 hlt14 HEQ12 st15
        go_wp2_with (first | (refine wp_loadBlkG rfl (.tmp 19) rfl w14.heap.size (supZ y1 y2 y3 y4 y5) rfl hB15 ?_) | (refine wp_loadBlkG rfl (.tmp 6) rfl (w.heap.size + 1) z rfl hbb15 ?_) | (refine wp_loadAtG rfl 23 (.tmp 7) rfl _ _ _ rfl hqP Tryd.underlying23 rfl (by kernel_rfl) ?_))
        clear hql hqP hbb15 hB15
        refine (superReadDescs_any G' S' I' J' z hzb _ HSP0.out.t).mono ?_
        rintro e w20 ⟨v20, E20, rfl, hpost20, hb20⟩
        have st20 := HSP0.out.below hb20
        clear HSP0 hb20
        cases hr20 : rdOk G' S' I' J' z with
        | false =>
          have hE : (E20 != 0) = true ∧ v20 = .slice none 0 0 := by
            rcases hpost20 with ⟨h, _⟩ | ⟨_, h, h'⟩
            · rw [hr20] at h; cases h
            · exact ⟨by rw [h]; split <;> rfl, h'⟩
          obtain ⟨hE, rfl⟩ := hE
          clear hpost20 hr20
          go_wp2_with fail
          go_ret
          exact ⟨rfl, st20.bel⟩
        | true =>
          have hE : E20 = 0 ∧ ∃ a20 cap20, v20 = .slice a20 G'.toNat cap20 ∧ RRow w20 a20 3 G'.toNat (df (rB z) (rI z) (rD z)) := by
            rcases hpost20 with ⟨_, h, hm⟩ | ⟨h, _⟩
            · obtain ⟨a20, cap20, rfl⟩ := hm.form
              exact ⟨h, a20, cap20, rfl, hm.row (df_len _ _ _)⟩
            · rw [hr20] at h; cases h
          obtain ⟨rfl, a20, cap20, rfl, hrow20⟩ := hE
          have HROW20 := Lib.hid hrow20
          obtain ⟨hok20, hsame20⟩ := descs_back hzb hr20
          have hgn20 : (G'.toNat : Int) ≤ 9223372036854775807 := by
            obtain ⟨g1', g2', _⟩ := (mayG_iff G' S' I' J').1 (descOk_iff.1 hok20).1
            omega
          have HE20 := Lib.hid (descE_iff.2 hok20)
          have HEQ20 := Lib.hid ((eqB_iff (descZ G' S' I' J' G'.toNat (rB z) (rI z) (rD z)) z 256).2 hsame20)
          have hq20 := st20.q
          have HST20 := Lib.hid st20
          clear hpost20 hr20 hrow20 hok20 hsame20 st20
          generalize G'.toNat = n20 at *
          go_wp2_with (first | (refine wp_loadAtG rfl 23 (.tmp 7) rfl _ _ _ rfl hq20 Tryd.underlying23 rfl (by kernel_rfl) ?_))
          refine (superWriteDescs_any G' S' I' J' a20 n20 cap20 _ _ _ hgn20 _ HST20.out.t HROW20.out).mono ?_
          rintro e w21 ⟨rfl, hb21⟩
          rw [HE20.out]
          have st21 := HST20.out.below hb21
          have hn21 := Blk.new w21 29 256 (fun _ => 0)
          have hlt21 := st21.q.lt
          clear HST20 hq20 hb21 HROW20 HE20
          go_wp2_with (first | (refine wp_storeBlk rfl (.tmp 23) (.tmp 129) rfl w21.heap.size (descZ G' S' I' J' n20 (rB z) (rI z) (rD z)) _ rfl rfl hn21 ?_))
          intro w22 hB22 ho22
          have st22 := (st21.below ((Below.refl _ _).alloc (Nat.le_refl _) (.cells (Ks .u8 256 (fun _ => 0)).toArray 29))).only ho22 (by omega) hTl
          have hql : ∀ W, (binOp .eql 29 (bval (descZ G' S' I' J' n20 (rB z) (rI z) (rD z))) (bval z)).run Tryd.prog W = .ok (.bool true) W := fun W => by rw [run_eql_block, HEQ20.out]
          have hbb22 := st22.bb
          have HBL := Lib.hid st22.bel
          clear st21 hn21 ho22 hlt21 st22 HEQ20
          go_wp2_with (first | (refine wp_loadBlkG rfl (.tmp 23) rfl w21.heap.size (descZ G' S' I' J' n20 (rB z) (rI z) (rD z)) rfl hB22 ?_) | (refine wp_loadBlkG rfl (.tmp 6) rfl (w.heap.size + 1) z rfl hbb22 ?_))
          go_ret
          exact ⟨rfl, HBL.out⟩
end Go.Proofs.YtbbcckopkbiojaaDoor
