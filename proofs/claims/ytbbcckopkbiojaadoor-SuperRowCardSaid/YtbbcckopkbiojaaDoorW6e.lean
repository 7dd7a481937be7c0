/- SuperRow. -/
import Derived.Test.YtbbcckopkbiojaaDoorU6j
namespace Go.Proofs.YtbbcckopkbiojaaDoor
open Go.RowKit
set_option linter.unusedVariables false

theorem may_less {G S I J : Int} (h : mayG G S I J = true) (h2 : 2 ≤ G) : mayG (G - 1) S I J = true := by
  obtain ⟨h1, h2', h3, h4, h5, h6, h7, h8, h9, h10, h11⟩ := (mayG_iff G S I J).1 h
  refine (mayG_iff _ _ _ _).2 ⟨by omega, by omega, h3, h4, h5, h6, h7, h8, h9, h10, ?_⟩
  rw [Int.sub_mul]; omega
theorem nDa_less {G S I J : Int} (h : mayG G S I J = true) (h2 : 2 ≤ G) : nDa (G - 1) S I J = nDa G S I J := by unfold nDa; rw [h, may_less h h2]
/-- by one group less descriptors are read only if the last one is nought -/
theorem row_less {G S I J : Int} {n : Nat} {b i d : Nat → Int} (h : descOk G S I J (n + 1) b i d = true) (h1 : 1 ≤ n) : rdOk (G - 1) S I J (descZ G S I J (n + 1) b i d) = eqD (b n) (i n) (d n) 0 0 0 := by
  obtain ⟨hm, hd'⟩ := descOk_iff.1 h
  obtain ⟨hn, hn4, hall⟩ := mayD_iff hm hd'
  obtain ⟨_, _, hr⟩ := desc_back h
  have hv := dH_hvs hall
  have hG2 : 2 ≤ G := by omega
  have hGn : (G - 1).toNat = n := by omega
  have hm2 := may_less hm hG2
  have hmd : mayD (G - 1) S I J n b i d = true := by
    unfold mayD at hd' ⊢
    rw [Bool.and_eq_true, decide_eq_true_eq, allB_iff] at hd' ⊢
    rw [nDa_less hm hG2]
    exact ⟨by omega, fun k hk => hd'.2 k (by omega)⟩
  rw [Bool.eq_iff_iff, eqD_iff]
  unfold rdOk rdIn
  rw [hm2, hGn, desc_sum h, mayD_congr (fun k hk => hr k (by omega)), hmd]
  have hh : ∀ k, k < 126 → hd (descZ G S I J (n + 1) b i d) k = dH b i d (n + 1) k := fun k hk => by rw [descZ_yes h]; exact hd_seal hv hk
  have hz := allZ_hd (descZ_byt G S I J (n + 1) b i d) (4 * n) (126 - 4 * n)
  rw [show 2 * (4 * n) = 8 * n by omega, show 2 * (126 - 4 * n) = 252 - 8 * n by omega] at hz
  have zb : allB (fun k => hd (descZ G S I J (n + 1) b i d) (4 * k + 3) == 0) n = true := (allB_iff _ _).2 fun k hk => by
    show (hd (descZ G S I J (n + 1) b i d) (4 * k + 3) == 0) = true
    rw [hh _ (by omega), dH_eq, if_pos (by omega), if_neg (by omega), if_neg (by omega), if_neg (by omega)]; rfl
  rw [zb, hz]
  simp only [Bool.true_and, Bool.and_true, allZ_iff]
  have a0 : dH b i d (n + 1) (4 * n) = b n := by rw [dH_eq, if_pos (by omega), if_pos (by omega), show 4 * n / 4 = n by omega]
  have a1 : dH b i d (n + 1) (4 * n + 1) = i n := by rw [dH_eq, if_pos (by omega), if_neg (by omega), if_pos (by omega), show (4 * n + 1) / 4 = n by omega]
  have a2 : dH b i d (n + 1) (4 * n + 2) = d n := by rw [dH_eq, if_pos (by omega), if_neg (by omega), if_neg (by omega), if_pos (by omega), show (4 * n + 2) / 4 = n by omega]
  constructor
  · intro hx
    have x0 : hd (descZ G S I J (n + 1) b i d) (4 * n + 0) = 0 := hx 0 (by omega)
    have x1 : hd (descZ G S I J (n + 1) b i d) (4 * n + 1) = 0 := hx 1 (by omega)
    have x2 : hd (descZ G S I J (n + 1) b i d) (4 * n + 2) = 0 := hx 2 (by omega)
    rw [hh _ (by omega), show 4 * n + 0 = 4 * n from rfl, a0] at x0
    rw [hh _ (by omega), a1] at x1
    rw [hh _ (by omega), a2] at x2
    exact ⟨x0, x1, x2⟩
  · rintro ⟨x0, x1, x2⟩ j hj
    show hd (descZ G S I J (n + 1) b i d) (4 * n + j) = 0
    rw [hh _ (by omega)]
    by_cases e0 : j = 0
    · rw [e0, show 4 * n + 0 = 4 * n from rfl, a0, x0]
    by_cases e1 : j = 1
    · rw [e1, a1, x1]
    by_cases e2 : j = 2
    · rw [e2, a2, x2]
    rw [dH_eq]
    by_cases e3 : j = 3
    · rw [if_pos (by omega), if_neg (by omega), if_neg (by omega), if_neg (by omega)]
    · rw [if_neg (by omega)]

structure Z6 (w : World) (G S I J : Int) (g1 : Nat) (z1 : Nat → Int) (W : World) : Prop where
  s : At W w.heap.size 23 (gcells G S I J)
  b1 : Blk W g1 29 256 z1
  t : Tab W
  bel : Below w.heap.size w W
theorem Z6.below {w : World} {G S I J : Int} {g1 : Nat} {z1 : Nat → Int} {W W' : World} (h : Z6 w G S I J g1 z1 W) (hb : Below W.heap.size W W') : Z6 w G S I J g1 z1 W' :=
  ⟨h.s.below hb h.s.lt, h.b1.below hb h.b1.lt, h.t.below hb (Nat.le_refl _), h.bel.trans (hb.mono h.bel.size)⟩
theorem Z6.drewN {w : World} {G S I J : Int} {g1 : Nat} {z1 : Nat → Int} {W : World} (h : Z6 w G S I J g1 z1 W) (m : Nat) : Z6 w G S I J g1 z1 (W.drewN m) := ⟨h.s, h.b1, h.t, bel_drewN h.bel m⟩

set_option maxRecDepth 100000 in
set_option maxHeartbeats 4000000 in
theorem superRow_walk (G S I J : Int) (a : Option Addr) (n cap : Nat) (b i d : Nat → Int) (hn : (n : Int) ≤ 9223372036854775807) (w : World) (hT : Tab w) (hr : RRow w a 3 n (df b i d)) (hlc : n ≤ cap) (hcc : (cap : Int) ≤ 9223372036854775807) :
    Calls Tryd.prog 10 #[gval G S I J, .slice a n cap] w fun e w' => e = .returned (.bool true) ∧ Below w.heap.size w w' := by
  have hal := zero_block
  have halg := zero_geo
  have hald := zero_desc
  have hTl := hT.lt
  have HR := Lib.hid hr
  have hs0 := At.new w 23 (gcells G S I J)
  have HT0 := Lib.hid (hT.alloc (.cells (gcells G S I J) 23))
  have HL0 : Hid (Below w.heap.size w (w.alloc (.cells (gcells G S I J) 23))) := (Below.refl _ _).alloc (Nat.le_refl _) _
  clear hT hr
  go_enter Tryd.func10, Tryd.ntmps10
  go_wp2_with fail
  refine (awake6 _ HT0.out).mono ?_
  rintro e w1 ⟨rfl, hb1⟩
  have hs1 := hs0.below hb1 hs0.lt
  have hL1 : Below w.heap.size w w1 := HL0.out.trans (hb1.mono HL0.out.size)
  have HT1 := Lib.hid (HT0.out.below hb1 (Nat.le_refl _))
  clear hs0 HT0 HL0 hb1
  go_wp2_with (first | (refine wp_loadAtG rfl 23 (.tmp 2) rfl _ _ _ rfl hs1 Tryd.underlying23 rfl (by kernel_rfl) ?_))
  refine (superWriteDescs_any G S I J a n cap b i d hn _ HT1.out (HR.out.below (df_ne _ _ _ _) hL1)).mono ?_
  rintro e w2 ⟨rfl, hb2⟩
  have hs2 := hs1.below hb2 hs1.lt
  have hL2 : Below w.heap.size w w2 := hL1.trans (hb2.mono hL1.size)
  have HT2 := Lib.hid (HT1.out.below hb2 (Nat.le_refl _))
  have hn2 := Blk.new w2 29 256 (fun _ => 0)
  have hlt2 := hs2.lt
  have hzb : Byt (descZ G S I J n b i d) := descZ_byt _ _ _ _ _ _ _ _
  clear hs1 hL1 HT1 hb2
  go_wp2_with (first | (refine wp_storeBlk rfl (.tmp 5) (.tmp 19) rfl w2.heap.size (descZ G S I J n b i d) _ rfl rfl hn2 ?_))
  intro w3 hB3 ho3
  have hw3 : Z6 w G S I J w2.heap.size (descZ G S I J n b i d) w3 := ⟨(hs2.alloc _).only ho3 (by omega), hB3, (HT2.out.alloc _).only ho3 (by omega), (hL2.alloc hL2.size _).trans (ho3.below hL2.size)⟩
  obtain ⟨g1, hg1⟩ : ∃ g1, w2.heap.size = g1 := ⟨_, rfl⟩
  rw [hg1] at hw3 hlt2 ⊢
  clear hs2 hL2 HT2 hn2 hB3 ho3 hg1
  by_cases hok : descOk G S I J n b i d = true
  rotate_left
  · have he : (descE G S I J n b i d != 0) = true := by rw [bne_iff_ne]; exact fun h => hok (descE_iff.1 h)
    have HBL := Lib.hid hw3.bel
    clear hw3 hok
    go_wp2_with fail
    go_ret
    exact ⟨rfl, HBL.out⟩
  have he : (descE G S I J n b i d != 0) = false := by rw [descE_iff.2 hok]; rfl
  have hB3 := hw3.b1
  have hS3 := hw3.s
  have HW3 := Lib.hid hw3
  have HOK := Lib.hid hok
  clear hw3 hok
  go_wp2_with (first | (refine wp_loadAtG rfl 23 (.tmp 2) rfl _ _ _ rfl hS3 Tryd.underlying23 rfl (by kernel_rfl) ?_) | (refine wp_loadBlkG rfl (.tmp 5) rfl g1 (descZ G S I J n b i d) rfl hB3 ?_))
  refine (superReadDescs_any G S I J _ hzb _ HW3.out.t).mono ?_
  rintro e w4 ⟨v, E, rfl, hpost, hb4⟩
  have hw4 := HW3.out.below hb4
  obtain ⟨hrd, hGn, hvals⟩ := desc_back HOK.out
  have hmine : E = 0 ∧ RMine w4 w3.heap.size 48 3 v n (df (rB (descZ G S I J n b i d)) (rI (descZ G S I J n b i d)) (rD (descZ G S I J n b i d))) := by
    rcases hpost with ⟨_, h, hm⟩ | ⟨h, _⟩
    · rw [hGn] at hm; exact ⟨h, hm⟩
    · rw [hrd] at h; cases h
  obtain ⟨rfl, hmine⟩ := hmine
  obtain ⟨a4, cap4, rfl⟩ := hmine.form
  have HM4 := Lib.hid hmine
  have hmG := (descOk_iff.1 HOK.out).1
  obtain ⟨hnG, hn4, hall⟩ := mayD_iff hmG (descOk_iff.1 HOK.out).2
  obtain ⟨hG1, _⟩ := (mayG_iff G S I J).1 hmG
  have HMG := Lib.hid hmG
  obtain ⟨m, rfl⟩ : ∃ m, n = m + 1 := ⟨n - 1, by omega⟩
  obtain rfl : G = (m : Int) + 1 := by omega
  have HSAME : Hid (∀ W, RRow W a 3 (m + 1) (df b i d) → RRow W a4 3 (m + 1) (df (rB (descZ ((m : Int) + 1) S I J (m + 1) b i d)) (rI (descZ ((m : Int) + 1) S I J (m + 1) b i d)) (rD (descZ ((m : Int) + 1) S I J (m + 1) b i d))) → Calls Tryd.prog 15 #[.slice a (m + 1) cap, .slice a4 (m + 1) cap4] W fun e w' => e = .returned (.bool true) ∧ ∃ k, w' = W.drewN k) := fun W h1 h2 => by
    refine (sameD_any a a4 (m + 1) (m + 1) cap cap4 _ _ _ _ _ _ W hn hn h1 h2).mono ?_
    rintro e w' ⟨he, hd⟩
    exact ⟨by rw [he, (sameD_iff.2 ⟨rfl, fun k hk => ⟨(hvals k hk).1.symm, (hvals k hk).2.1.symm, (hvals k hk).2.2.symm⟩⟩ : sameD _ _ _ _ _ _ _ _ = true)], hd⟩
  have HVAL := Lib.hid hvals
  clear HW3 hB3 hS3 hpost hb4 hrd hGn hvals hmine hmG hnG hall
  have hc4 : w4.cell? ⟨w.heap.size, 0, none⟩ = some (.int .i64 ((m : Int) + 1)) := hw4.s.cell (i := 0) rfl
  have HW4 := Lib.hid hw4
  clear hw4
  go_wp2_with fail
  refine (HSAME.out _ (HR.out.below (df_ne _ _ _ _) HW4.out.bel) (HM4.out.row (df_len _ _ _))).mono ?_
  rintro e w5 ⟨rfl, kk, rfl⟩
  have hw5 := HW4.out.drewN kk
  have HM5 : Hid (RMine (w4.drewN kk) w3.heap.size 48 3 (.slice a4 (m + 1) cap4) (m + 1) (df (rB (descZ ((m : Int) + 1) S I J (m + 1) b i d)) (rI (descZ ((m : Int) + 1) S I J (m + 1) b i d)) (rD (descZ ((m : Int) + 1) S I J (m + 1) b i d)))) := HM4.out
  clear HM4 HW4
  generalize w4.drewN kk = w5 at *
  have hS5 := hw5.s
  have hc5 : w5.cell? ⟨w.heap.size, 0, none⟩ = some (.int .i64 ((m : Int) + 1)) := hw5.s.cell (i := 0) rfl
  have hs6 := At.new w5 23 (gcells (m : Int) S I J)
  have hw6 := hw5.below ((Below.refl _ _).alloc (Nat.le_refl _) (.cells (gcells (m : Int) S I J) 23))
  have hB6 := hw6.b1
  have hS6 := hw6.s
  have HW6 := Lib.hid hw6
  have hc6 : (w5.alloc (.cells #[.int .i64 (m : Int), .int .i64 S, .int .i64 I, .int .i64 J] 23)).cell? ⟨w.heap.size, 0, none⟩ = some (.int .i64 ((m : Int) + 1)) := hw6.s.cell (i := 0) rfl
  have hc7 : (w5.alloc (.cells #[.int .i64 ((m : Int) + 1), .int .i64 S, .int .i64 I, .int .i64 J] 23)).cell? ⟨w.heap.size, 0, none⟩ = some (.int .i64 ((m : Int) + 1)) := (hw5.s.alloc _).cell (i := 0) rfl
  clear hw5 hc4 HSAME hw6
  go_wp2_with (first | (refine wp_loadAtG rfl 23 (.tmp 2) rfl _ _ _ rfl hS5 Tryd.underlying23 rfl (by kernel_rfl) ?_) | (refine wp_loadAtG rfl 23 (.tmp 9) rfl _ _ _ rfl hs6 Tryd.underlying23 rfl (by kernel_rfl) ?_) | (refine wp_loadBlkG rfl (.tmp 5) rfl g1 (descZ ((m : Int) + 1) S I J (m + 1) b i d) rfl hB6 ?_))
  refine (superReadDescs_any (m : Int) S I J _ hzb _ HW6.out.t).mono ?_
  rintro e w10 ⟨v', E', rfl, hpost, hb10⟩
  have hw10 := HW6.out.below hb10
  have hc10 : w10.cell? ⟨w.heap.size, 0, none⟩ = some (.int .i64 ((m : Int) + 1)) := hw10.s.cell (i := 0) rfl
  have HW10 := Lib.hid hw10
  clear HW6 hb10 hc5 hc6 hc7 hS5 hs6 hB6 hS6 hw10
  by_cases hm0 : m = 0
  · have hE : E' = 50 := by
      have hng : mayG ((0 : Nat) : Int) S I J = false := mayG_no fun h => by omega
      subst hm0
      rcases hpost with ⟨h, _⟩ | ⟨_, h, _⟩
      · unfold rdOk at h; rw [hng] at h; cases h
      · rw [h, hng]; rfl
    have hq1 : ((m : Int) + 1 == 1) = true := by simp [hm0]
    subst hE
    clear hpost hm0
    go_wp2_with fail
    go_ret
    exact ⟨rfl, HW10.out.bel⟩
  have hq1 : ((m : Int) + 1 == 1) = false := by rw [beq_eq_false_iff_ne]; omega
  have hml := may_less HMG.out (by omega)
  have hrl := row_less HOK.out (by omega)
  rw [show (m : Int) + 1 - 1 = (m : Int) by omega] at hml hrl
  have hrr := HR.out.below (df_ne _ _ _ _) HW10.out.bel
  rcases hrr with h0 | ⟨bb, off, rfl, hsg⟩
  · omega
  have r0 : w10.cell? ⟨bb, off + m * 3, none⟩ = some (.int .i64 (b m)) := hsg m (by omega) 0 _ rfl
  have r1 : w10.cell? ⟨bb, off + m * 3 + 1, none⟩ = some (.int .i64 (i m)) := hsg m (by omega) 1 _ rfl
  have r2 : w10.cell? ⟨bb, off + m * 3 + 2, none⟩ = some (.int .i64 (d m)) := hsg m (by omega) 2 _ rfl
  have hql : ∀ W, (binOp .eql 48 (dval (b m) (i m) (d m)) (dval 0 0 0)).run Tryd.prog W = .ok (.bool (eqD (b m) (i m) (d m) 0 0 0)) W := fun W => run_eql_desc _ _ _ _ _ _ W
  have HROW : Hid (RRow w10 (some ⟨bb, off, none⟩) 3 m (df b i d)) := .inr ⟨bb, off, rfl, fun k hk j v hv => hsg k (by omega) j v hv⟩
  clear hsg
  generalize hvd : eqD (b m) (i m) (d m) 0 0 0 = vd at *
  cases vd with
  | false =>
    have hE : E' = 60 := by
      rcases hpost with ⟨h, _⟩ | ⟨_, h, _⟩
      · rw [hrl] at h; cases h
      · rw [h, hml]; rfl
    subst hE
    clear hpost hm0 hml hrl hvd
    go_wp2_with fail
    go_ret
    exact ⟨rfl, HW10.out.bel⟩
  | true =>
    have hmine : E' = 0 ∧ RMine w10 (w5.alloc (.cells (gcells (m : Int) S I J) 23)).heap.size 48 3 v' m (df (rB (descZ ((m : Int) + 1) S I J (m + 1) b i d)) (rI (descZ ((m : Int) + 1) S I J (m + 1) b i d)) (rD (descZ ((m : Int) + 1) S I J (m + 1) b i d))) := by
      rcases hpost with ⟨_, h, hm⟩ | ⟨h, _⟩
      · rw [Int.toNat_natCast] at hm; exact ⟨h, hm⟩
      · rw [hrl] at h; cases h
    obtain ⟨rfl, hmine⟩ := hmine
    obtain ⟨a7, cap7, rfl⟩ := hmine.form
    have HM7 := Lib.hid hmine
    have HSAME : Hid (∀ W cp, RRow W (some ⟨bb, off, none⟩) 3 m (df b i d) → RRow W a7 3 m (df (rB (descZ ((m : Int) + 1) S I J (m + 1) b i d)) (rI (descZ ((m : Int) + 1) S I J (m + 1) b i d)) (rD (descZ ((m : Int) + 1) S I J (m + 1) b i d))) → Calls Tryd.prog 15 #[.slice a7 m cap7, .slice (some ⟨bb, off, none⟩) m cp] W fun e w' => e = .returned (.bool true) ∧ ∃ k, w' = W.drewN k) := fun W cp h1 h2 => by
      refine (sameD_any a7 (some ⟨bb, off, none⟩) m m cap7 cp _ _ _ _ _ _ W (by omega) (by omega) h2 h1).mono ?_
      rintro e w' ⟨he, hd⟩
      exact ⟨by rw [he, (sameD_iff.2 ⟨rfl, fun k hk => HVAL.out k (by omega)⟩ : sameD _ _ _ _ _ _ _ _ = true)], hd⟩
    clear hpost hm0 hml hrl hvd hmine
    go_wp2_with fail
    refine (HSAME.out _ _ HROW.out (HM7.out.row (df_len _ _ _))).mono ?_
    rintro e w11 ⟨rfl, kk2, rfl⟩
    have HBL : Hid (Below w.heap.size w (w10.drewN kk2)) := bel_drewN HW10.out.bel kk2
    generalize w10.drewN kk2 = w11 at *
    clear HSAME HROW HM7 HW10
    go_wp2_with fail
    go_ret
    exact ⟨rfl, HBL.out⟩
end Go.Proofs.YtbbcckopkbiojaaDoor
