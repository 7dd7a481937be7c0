/- SuperReads. -/
import Derived.Test.YtbbcckopkbiojaaDoorU6t
import Derived.Test.YtbbcckopkbiojaaDoorU6x
import Derived.Test.YtbbcckopkbiojaaDoorU6i
import Derived.Test.YtbbcckopkbiojaaDoorStore
namespace Go.Proofs.YtbbcckopkbiojaaDoor
open Go.RowKit
set_option linter.unusedVariables false

def rdN (G S I J : Int) (z : Nat → Int) : Nat := if rdOk G S I J z then G.toNat else 0
def rdE (G S I J : Int) (z : Nat → Int) : Int := if rdOk G S I J z then 0 else if mayG G S I J then 60 else 50
theorem rd_post {w : World} {G S I J : Int} {z : Nat → Int} {v : Value} {e : Int} {W : World} (h : RdPost w G S I J z v e W) : e = rdE G S I J z ∧ RMine W w.heap.size 48 3 v (rdN G S I J z) (df (rB z) (rI z) (rD z)) := by
  rcases h with ⟨h1, h2, h3⟩ | ⟨h1, h2, rfl⟩
  · unfold rdE rdN; rw [h1]; exact ⟨h2, h3⟩
  · unfold rdE rdN; rw [h1]; exact ⟨by rw [h2]; rfl, RMine.nil _ _ _ _ _⟩
theorem readV_sup (z : Nat → Int) : ∃ x1 x2 x3 x4 x5, readV z = sval x1 x2 x3 x4 x5 := by
  unfold readV
  split
  · exact ⟨_, _, _, _, _, rfl⟩
  · exact ⟨_, _, _, _, _, rfl⟩
theorem stored6 {w w' : World} {o : Obj} (ho : Only w.heap.size (w.alloc o) w') : Below w.heap.size w w' := ((Below.refl _ _).alloc (Nat.le_refl _) o).trans (ho.below (Nat.le_refl _))
theorem info_i64 : (Tryd.prog.info? 3).map (·.size) = some 1 := by kernel_rfl

structure R6 (w : World) (z : Nat → Int) (G S I J : Int) (W : World) : Prop where
  b : Blk W w.heap.size 29 256 z
  q : At W (w.heap.size + 1) 23 (gcells G S I J)
  bel : Below w.heap.size w W
theorem R6.below {w : World} {z : Nat → Int} {G S I J : Int} {W W' : World} (h : R6 w z G S I J W) (hb : Below W.heap.size W W') : R6 w z G S I J W' := ⟨h.b.below hb h.b.lt, h.q.below hb h.q.lt, h.bel.trans (hb.mono h.bel.size)⟩
theorem R6.only {w : World} {z : Nat → Int} {G S I J : Int} {W W' : World} {p : Nat} (h : R6 w z G S I J W) (hb : Only p W W') (hp : w.heap.size + 2 ≤ p) : R6 w z G S I J W' := ⟨h.b.only hb (by omega), h.q.only hb (by omega), h.bel.trans (hb.below (by omega))⟩
theorem R6.sz {w : World} {z : Nat → Int} {G S I J : Int} {W : World} (h : R6 w z G S I J W) : w.heap.size + 2 ≤ W.heap.size := h.q.lt
/-- all that the loop keeps -/
structure R7 (w : World) (z : Nat → Int) (G S I J : Int) (g1 g2 : Nat) (x1 x2 x3 x4 x5 : Int) (B : Nat) (v : Value) (n : Nat) (f : Nat → List Value) (W : World) : Prop extends R6 w z G S I J W where
  x : At W g1 26 (scells x1 x2 x3 x4 x5)
  y : At W g2 26 (scells x1 x2 x3 x4 x5)
  m : RMine W (w.heap.size + 2) 48 3 v n f
  l1 : g1 < B
  l2 : g2 < B
  l3 : ∀ p, v.ownBlock = some p → p < B
  l4 : w.heap.size + 2 ≤ B ∧ B ≤ W.heap.size
section
variable {w : World} {z : Nat → Int} {G S I J : Int} {g1 g2 : Nat} {x1 x2 x3 x4 x5 : Int} {B : Nat} {v : Value} {n : Nat} {f : Nat → List Value} {W W' : World}
theorem R7.below (h : R7 w z G S I J g1 g2 x1 x2 x3 x4 x5 B v n f W) (hb : Below W.heap.size W W') : R7 w z G S I J g1 g2 x1 x2 x3 x4 x5 B v n f W' :=
  ⟨h.toR6.below hb, h.x.below hb h.x.lt, h.y.below hb h.y.lt, h.m.below hb, h.l1, h.l2, h.l3, h.l4.1, Nat.le_trans h.l4.2 hb.size⟩
theorem R7.only {p : Nat} (h : R7 w z G S I J g1 g2 x1 x2 x3 x4 x5 B v n f W) (hb : Only p W W') (hp : B ≤ p) : R7 w z G S I J g1 g2 x1 x2 x3 x4 x5 B v n f W' :=
  have l1 := h.l1
  have l2 := h.l2
  ⟨h.toR6.only hb (Nat.le_trans h.l4.1 hp), h.x.only hb (by omega), h.y.only hb (by omega), h.m.kept (grown_only hb) (.inr (fun e => by have := h.l3 _ e; omega)), h.l1, h.l2, h.l3, h.l4.1, by rw [hb.size]; exact h.l4.2⟩
end
/-- what was told: a block of one's own, or none -/
structure RQ (B q n : Nat) (W : World) : Prop where
  h : ∃ cs, W.heap[q]? = some (.cells cs 48 (0, 0)) ∧ n * 3 ≤ cs.size
  l : B ≤ q
theorem RQ.cell {B q n : Nat} {W : World} (h : RQ B q n W) {k : Nat} (hk : k < n) : (∃ u, W.cell? ⟨q, k * 3, none⟩ = some u) ∧ W.frozen? ⟨q, k * 3, none⟩ = false := by
  obtain ⟨cs, h1, h2⟩ := h.h
  exact ⟨⟨_, cell_of_heap h1 (Array.getElem?_eq_getElem (show k * 3 < cs.size by omega))⟩, soft_of_heap h1 _⟩
theorem RQ.only {B q n : Nat} {W W' : World} (h : RQ B q n W) (hb : Only q W W') : RQ B q n W' := by
  obtain ⟨cs, h1, h2⟩ := h.h
  obtain ⟨c', hc1, hc2⟩ := hb.shape _ _ _ h1
  exact ⟨⟨c', hc2, by rw [hc1]; exact h2⟩, h.l⟩
theorem mine_q {W : World} {B n : Nat} {v : Value} {f : Nat → List Value} (h : RMine W B 48 3 v n f) (hn : 0 < n) : ∃ q cap, v = .slice (some ⟨q, 0, none⟩) n cap ∧ RQ B q n W := by
  rcases h.2 with ⟨_, h0⟩ | ⟨g, cap, cur, hv, hb, hg, hn, hc, hs, _⟩
  · omega
  · exact ⟨g, cap, hv, ⟨⟨cur, hg, by rw [hs]; omega⟩, hb⟩⟩

set_option maxRecDepth 100000 in
set_option maxHeartbeats 8000000 in
theorem superReads_walk (z : Nat → Int) (hzb : Byt z) (G S I J : Int) (w : World) (hT : Tab w) :
    Calls Tryd.prog 4 #[bval z, gval G S I J] w fun e w' => e = .returned (.bool true) ∧ Below w.heap.size w w' := by
  have hals := zero_super
  obtain ⟨W, hW⟩ : ∃ W, W = (w.alloc (.cells (Ks .u8 256 z).toArray 29)).alloc (.cells (gcells G S I J) 23) := ⟨_, rfl⟩
  have st0 : R6 w z G S I J W := by
    rw [hW]
    refine ⟨(Blk.new w _ _ _).alloc _, ?_, ((Below.refl _ _).alloc (Nat.le_refl _) _).alloc (by simp) _⟩
    have := At.new (w.alloc (.cells (Ks .u8 256 z).toArray 29)) 23 (gcells G S I J)
    simp only [World.size_alloc] at this
    exact this
  have HT : Hid (∀ W, R6 w z G S I J W → Tab W) := fun W h => hT.below h.bel (Nat.le_refl _)
  have HW := Lib.hid hW
  obtain ⟨x1, x2, x3, x4, x5, hx⟩ := readV_sup z
  have HX := Lib.hid hx
  clear hW hT hx
  go_enter Tryd.func4, Tryd.ntmps4
  have hb0 : Blk ((w.alloc (.cells (Ks .u8 256 z).toArray 29)).alloc (.cells (gcells G S I J) 23)) w.heap.size 29 256 z := (Blk.new w _ _ _).alloc _
  go_wp2_with (first | (refine wp_loadBlkG rfl (.tmp 2) rfl w.heap.size z rfl hb0 ?_))
  rw [← HW.out]
  clear HW hb0
  refine (superRead_any z hzb W (HT.out _ st0)).mono ?_
  rintro e w1 ⟨rfl, hb1⟩
  have st1 := st0.below hb1
  have hn1 := At.new w1 26 (scells 0 0 0 0 0)
  rw [HX.out]
  clear st0 hb1
  go_wp2_with (first | (refine wp_storeAt rfl 26 (.tmp 5) (.tmp 18) rfl w1.heap.size (scells x1 x2 x3 x4 x5) (scells 0 0 0 0 0) rfl rfl hn1 info_super rfl (all_s _ _ _ _ _) ?_))
  intro w2 hx2 ho2
  have st2 := st1.below (stored6 ho2)
  obtain ⟨g1, hg1⟩ : ∃ g1, w1.heap.size = g1 := ⟨_, rfl⟩
  rw [hg1] at hx2 ⊢
  have hb2 := st2.b
  have ST2 := Lib.hid st2
  have HX2 := Lib.hid hx2
  clear st1 hn1 ho2 hg1 st2 hx2
  go_wp2_with (first | (refine wp_loadBlkG rfl (.tmp 2) rfl w.heap.size z rfl hb2 ?_))
  clear hb2
  refine (rsRead_any z hzb _).mono ?_
  rintro e w3 ⟨rfl, hb3⟩
  have st3 := ST2.out.below hb3
  have hx3 := HX2.out.below hb3 HX2.out.lt
  have hn3 := At.new w3 26 (scells 0 0 0 0 0)
  rw [HX.out]
  clear ST2 HX2 hb3
  go_wp2_with (first | (refine wp_storeAt rfl 26 (.tmp 7) (.tmp 23) rfl w3.heap.size (scells x1 x2 x3 x4 x5) (scells 0 0 0 0 0) rfl rfl hn3 info_super rfl (all_s _ _ _ _ _) ?_))
  intro w4 hy4 ho4
  have st4 := st3.below (stored6 ho4)
  have hx4 := hx3.below (stored6 ho4) hx3.lt
  obtain ⟨g2, hg2⟩ : ∃ g2, w3.heap.size = g2 := ⟨_, rfl⟩
  rw [hg2] at hy4 ⊢
  have hb4 := st4.b
  have hq4 := st4.q
  have ST4 := Lib.hid st4
  have HX4 := Lib.hid hx4
  have HY4 := Lib.hid hy4
  clear st3 hx3 hn3 ho4 hg2 st4 hx4 hy4
  go_wp2_with (first | (refine wp_loadBlkG rfl (.tmp 2) rfl w.heap.size z rfl hb4 ?_) | (refine wp_loadAtG rfl 23 (.tmp 3) rfl _ _ _ rfl hq4 Tryd.underlying23 rfl (by kernel_rfl) ?_))
  clear hb4 hq4
  refine (rsReadDescs_any G S I J z hzb w4).mono ?_
  rintro e w5 ⟨v, E, rfl, hp5, hb5⟩
  obtain ⟨rfl, hm5⟩ := rd_post hp5
  obtain ⟨N, hN⟩ : ∃ N, rdN G S I J z = N := ⟨_, rfl⟩
  have hN4 : (N : Int) ≤ 9223372036854775807 := by
    rw [← hN]
    unfold rdN
    split
    · rename_i hok
      unfold rdOk at hok
      rw [Bool.and_eq_true] at hok
      obtain ⟨h1, h2, _⟩ := (mayG_iff G S I J).1 hok.1
      omega
    · decide
  rw [hN] at hm5
  have HNE := Lib.hid hN
  have st5 : Hid (R7 w z G S I J g1 g2 x1 x2 x3 x4 x5 w5.heap.size v N (df (rB z) (rI z) (rD z)) w5) :=
    ⟨ST4.out.below hb5, HX4.out.below hb5 HX4.out.lt, HY4.out.below hb5 HY4.out.lt, hm5.low ST4.out.sz, (HX4.out.below hb5 HX4.out.lt).lt, (HY4.out.below hb5 HY4.out.lt).lt, fun p hp => (World.ownsRow.lt hm5 p hp).2, (ST4.out.below hb5).sz, Nat.le_refl _⟩
  obtain ⟨a, cap, rfl⟩ := hm5.form
  clear ST4 HX4 HY4 hp5 hm5 hb5 hN
  generalize w5.heap.size = B at *
  obtain ⟨E, hE⟩ : ∃ E, rdE G S I J z = E := ⟨_, rfl⟩
  have HEE := Lib.hid hE
  rw [hE]
  have hEE : (E != E) = false := by simp
  clear hE
  go_wp2_with fail
  go_loopw [11] (fun u wr => ∃ t : Nat, t ≤ 2 ∧ u = .int .i64 (t : Int) ∧ R7 w z G S I J g1 g2 x1 x2 x3 x4 x5 B (.slice a N cap) N (df (rB z) (rI z) (rD z)) wr) (fun u _ => 2 - (intOf u).toNat)
  case atStart => exact ⟨0, by omega, rfl, st5.out⟩
  case round =>
    clear st5
    obtain ⟨t, ht, rfl, st⟩ := hrel
    have ST := Lib.hid st
    by_cases hlt : t < 2
    · have hlt' : (t : Int) < 2 := by omega
      have hb := st.b
      have hq := st.q
      clear st
      go_wp2_with (first | (refine wp_loadBlkG rfl (.tmp 2) rfl w.heap.size z rfl hb ?_) | (refine wp_loadAtG rfl 23 (.tmp 3) rfl _ _ _ rfl hq Tryd.underlying23 rfl (by kernel_rfl) ?_))
      clear hb hq
      refine (superReadDescs_any G S I J z hzb _ (HT.out _ ST.out.toR6)).mono ?_
      rintro e w6 ⟨v6, E6, rfl, hp6, hb6⟩
      obtain ⟨rfl, hm6⟩ := rd_post hp6
      rw [HNE.out] at hm6
      rw [HEE.out]
      have ST6 := Lib.hid (ST.out.below hb6)
      have hwb : B ≤ wr.heap.size := ST.out.l4.2
      obtain ⟨a6, cap6, rfl⟩ := hm6.form
      have HM6 := Lib.hid (hm6.low hwb)
      clear ST hp6 hb6 hm6 hwb
      go_wp2_with fail
      refine (sameD_any a6 a N N cap6 cap _ _ _ _ _ _ w6 hN4 hN4 (HM6.out.row (df_len _ _ _)) (ST6.out.m.row (df_len _ _ _))).mono ?_
      rintro e w7 ⟨rfl, m, rfl⟩
      rw [(sameD_iff.2 ⟨rfl, fun k hk => ⟨rfl, rfl, rfl⟩⟩ : sameD N N (rB z) (rI z) (rD z) (rB z) (rI z) (rD z) = true)]
      have hbd : Below w6.heap.size w6 (w6.drewN m) := bel_drewN (Below.refl _ _) m
      have ST7 := Lib.hid (ST6.out.below hbd)
      have HM7 := Lib.hid (HM6.out.below hbd)
      generalize w6.drewN m = w7 at *
      clear ST6 HM6 hbd
      go_wp2_with fail
      by_cases h0 : N = 0
      · have hN0 : (N : Int) = 0 := by omega
        go_loopw [14] (fun u wr => u = .int .i64 0 ∧ R7 w z G S I J g1 g2 x1 x2 x3 x4 x5 B (.slice a N cap) N (df (rB z) (rI z) (rD z)) wr) (fun u _ => 0)
        case atStart => exact ⟨rfl, ST7.out⟩
        case round =>
          clear ST7 HM7
          obtain ⟨rfl, st⟩ := hrel
          have hz1 : ¬ (0 : Int) < (N : Int) := by omega
          go_wp2_with fail
          go_roundw
          case rel => first | exact ⟨t + 1, by omega, by go_num, st⟩ | exact ⟨t + 1, by omega, rfl, st⟩
          case measure => simp [intOf]; omega
      · obtain ⟨q, cap', hv, hq⟩ := mine_q HM7.out (by omega)
        injection hv with hv1 hv2 hv3
        subst hv1
        have HQ := Lib.hid hq
        clear hq hv2 hv3 HM7
        go_loopw [14] (fun u wr => ∃ k : Nat, k ≤ N ∧ u = .int .i64 (k : Int) ∧ R7 w z G S I J g1 g2 x1 x2 x3 x4 x5 B (.slice a N cap) N (df (rB z) (rI z) (rD z)) wr ∧ RQ B q N wr) (fun u _ => N - (intOf u).toNat)
        case atStart => exact ⟨0, by omega, rfl, ST7.out, HQ.out⟩
        case round =>
          clear ST7 HQ
          obtain ⟨k, hk, rfl, st, hq⟩ := hrel
          by_cases hkn : k < N
          · obtain ⟨⟨u0, hc⟩, hf⟩ := hq.cell hkn
            have ST8 := Lib.hid st
            have HQ8 := Lib.hid hq
            clear st hq
            go_wp2_with (first | (refine wp_store1 rfl 3 (.tmp 59) _ rfl q (k * 3) (.int .i64 (-5)) rfl rfl u0 hc hf info_i64 rfl ?_))
            have ho := Only.setCell wr ⟨q, k * 3, none⟩ (.int .i64 (-5))
            have st9 := ST8.out.only ho HQ8.out.l
            have hq9 := HQ8.out.only ho
            generalize wr.setCell ⟨q, k * 3, none⟩ (.int .i64 (-5)) = w9 at *
            clear ST8 HQ8 hc hf ho
            go_wp2_with fail
            go_roundw
            case rel => first | exact ⟨k + 1, by omega, by go_num, st9, hq9⟩ | exact ⟨k + 1, by omega, rfl, st9, hq9⟩
            case measure => simp [intOf]; omega
          · obtain rfl : k = N := by omega
            go_wp2_with fail
            go_roundw
            case rel => first | exact ⟨t + 1, by omega, by go_num, st⟩ | exact ⟨t + 1, by omega, rfl, st⟩
            case measure => simp [intOf]; omega
    · obtain rfl : t = 2 := by omega
      have hx := st.x
      have hy := st.y
      have hqq : ∀ W, (binOp .eql 26 (sval x1 x2 x3 x4 x5) (sval x1 x2 x3 x4 x5)).run Tryd.prog W = .ok (.bool true) W := fun W => by rw [run_eql_super, eqS_iff.2 ⟨rfl, rfl, rfl, rfl, rfl⟩]
      have hre : (readE z == readE z) = true := by simp
      have HB := Lib.hid st.bel
      clear st ST
      generalize readE z = er at *
      go_wp2_with (first | (refine wp_loadAtG rfl 26 (.tmp 5) rfl _ _ _ rfl hx Tryd.underlying26 rfl (by kernel_rfl) ?_) | (refine wp_loadAtG rfl 26 (.tmp 7) rfl _ _ _ rfl hy Tryd.underlying26 rfl (by kernel_rfl) ?_))
      go_ret
      exact ⟨rfl, HB.out⟩
end Go.Proofs.YtbbcckopkbiojaaDoor
