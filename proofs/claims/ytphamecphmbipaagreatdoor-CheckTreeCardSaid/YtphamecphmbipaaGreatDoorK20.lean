/- Texts of this claim, merged. -/
import Derived.Test.YtphamecphmbipaaGreatDoorK19
set_option maxRecDepth 100000
set_option maxHeartbeats 16000000

namespace Go.Proofs.YtphamecphmbipaaGreatDoor
open Go.RowKit
set_option linter.unusedVariables false
structure RmS (w:World) (G S I J:Int) (p:Nat) (x y v:Int) (W:World):Prop where
 s:At W w.heap.size 23 (gcells G S I J)
 dd:At W p 67 (dcells x y v)
 bel:Below w.heap.size w W
theorem RmS.below {w:World} {G S I J:Int} {p:Nat} {x y v:Int} {W W':World} (h:RmS w G S I J p x y v W) (hb:Below W.heap.size W W'):RmS w G S I J p x y v W':=⟨h.s.below hb h.s.lt,h.dd.below hb h.dd.lt,h.bel.trans (hb.mono h.bel.size)⟩
theorem rsMay_any (G S I J:Int) (hm:mayG G S I J = true) (a:Option Addr) (n cap:Nat) (b i d:Nat → Int) (hn:(n:Int) ≤ 9223372036854775807) (w:World) (hr:RRow w a 3 n (df b i d)) :
  Calls Tryz.prog 99 #[gval G S I J,.slice a n cap] w fun e w' => e = .returned (.bool (mayD G S I J n b i d)) ∧ Below w.heap.size w w':=by
 have hs0:=At.new w 23 (gcells G S I J)
 have hL0:Below w.heap.size w (w.alloc (.cells (gcells G S I J) 23)):=(Below.refl _ _).alloc (Nat.le_refl _) _
 have HR:=Lib.hid hr
 have hI:4 ≤ I ∧ I ≤ 64:=by
  obtain ⟨h1,h2,h3,h4,h5,h6,h7,h8,h9,h10,h11⟩:=(mayG_iff G S I J).1 hm
  exact ⟨h5,h6⟩
 have c0:(w.alloc (.cells #[.int .i64 G,.int .i64 S,.int .i64 I,.int .i64 J] 23)).cell? ⟨w.heap.size,0,none⟩ = some (.int .i64 G):=hs0.cell (i:=0) rfl
 have HS0:=Lib.hid hs0
 have HL0:=Lib.hid hL0
 clear hr hm hs0 hL0
 go_enter Tryz.func99,Tryz.ntmps99
 by_cases hg:(n:Int) = G
 rotate_left
 ·have hg':((n:Int) != G) = true:=by simpa using hg
  have HN:Hid (mayD G S I J n b i d = false):=by show _ = _;unfold mayD;simp [hg]
  clear hg
  go_wp2_with fail
  go_ret
  exact ⟨by rw [HN.out];rfl,HL0.out⟩
 have hg':((n:Int) != G) = false:=by simpa using hg
 have HD:Hid (mayD G S I J n b i d = allB (fun k => okD (nDa G S I J) I (b k) (i k) (d k)) n):=by show _ = _;unfold mayD;simp [hg]
 have HDA:Hid (∀ W,Calls Tryz.prog 58 #[gval G S I J] W fun e w' => e = .returned (.int .i64 (nDa G S I J)) ∧ Below W.heap.size W w'):=fun W => rData5_any G S I J W
 have hda:=nDa_bd G S I J
 generalize nDa G S I J = da at *
 clear hg
 go_wp2_with fail
 clear hg' c0
 go_loopw [5] (fun u wr => ∃ k:Nat,k ≤ n ∧ u = .int .i64 (k:Int) ∧ Hid (allB (fun k => okD da I (b k) (i k) (d k)) k = true) ∧ At wr w.heap.size 23 (gcells G S I J) ∧ Below w.heap.size w wr) (fun u _ => n - (intOf u).toNat)
 case atStart => exact ⟨0,by omega,rfl,rfl,HS0.out,HL0.out⟩
 case round =>
  clear HS0 HL0
  obtain ⟨k,hk,rfl,HALL,hs,hbl⟩:=hrel
  by_cases hlt:k < n
  ·rcases HR.out.below (df_ne _ _ _ _) hbl with h0 | ⟨bb,off,rfl,hsg⟩
   ·omega
   have r0:wr.cell? ⟨bb,off + k * 3,none⟩ = some (.int .i64 (b k)):=hsg k hlt 0 _ rfl
   have r1:wr.cell? ⟨bb,off + k * 3 + 1,none⟩ = some (.int .i64 (i k)):=hsg k hlt 1 _ rfl
   have r2:wr.cell? ⟨bb,off + k * 3 + 2,none⟩ = some (.int .i64 (d k)):=hsg k hlt 2 _ rfl
   have ST:Hid (RmS w G S I J wr.heap.size (b k) (i k) (d k) (wr.alloc (.cells (dcells (b k) (i k) (d k)) 67))):=⟨hs.alloc _,At.new _ _ _,hbl.alloc hbl.size _⟩
   have HK:Hid (∀ c,okD da I (b k) (i k) (d k) = c → (c = true → allB (fun k => okD da I (b k) (i k) (d k)) (k + 1) = true) ∧ (c = false → allB (fun k => okD da I (b k) (i k) (d k)) n = false)):=fun c hc =>
    ⟨fun h => by show (allB _ k && okD da I (b k) (i k) (d k)) = true;rw [HALL.out,hc,h];rfl,fun h => allB_no hlt (by rw [hc,h])⟩
   clear hsg hs hbl HALL
   generalize b k = x at *
   generalize i k = y at *
   generalize d k = v at *
   have hd0:∀ X:InW (RmS w G S I J wr.heap.size x y v),X.W.cell? ⟨wr.heap.size,0,none⟩ = some (.int .i64 x):=fun X => X.h.dd.cell (i:=0) rfl
   have hd1:∀ X:InW (RmS w G S I J wr.heap.size x y v),X.W.cell? ⟨wr.heap.size,1,none⟩ = some (.int .i64 y):=fun X => X.h.dd.cell (i:=1) rfl
   have hd2:∀ X:InW (RmS w G S I J wr.heap.size x y v),X.W.cell? ⟨wr.heap.size,2,none⟩ = some (.int .i64 v):=fun X => X.h.dd.cell (i:=2) rfl
   have hg2:∀ X:InW (RmS w G S I J wr.heap.size x y v),X.W.cell? ⟨w.heap.size,2,none⟩ = some (.int .i64 I):=fun X => X.h.s.cell (i:=2) rfl
   by_cases h1:0 ≤ x
   rotate_left
   ·have HF:Hid (allB (fun k => okD da I (b k) (i k) (d k)) n = false):=(HK.out false (okD_no fun h => h1 (h.1))).2 rfl
    have q1:decide (x < 0) = true:=by rw [decide_eq_true_eq];omega
    go_wp2_with fail
    refine wp_region_S (RmS w G S I J wr.heap.size x y v) (by kernel_rfl) (by kernel_rfl) ⟨ST.out.s,ST.out.dd,ST.out.bel.drew⟩ ?_
    intro hne
    repeat first | go_big_quiet_skip | (go_big_quiet_want;go_big_quiet_op;go_big_quiet_on)
    refine wpQuiet_nil ?_
    intro w6 h6
    have st6:=h6.out
    clear h6 hne hd0 hd1 hd2 hg2
    go_wp2_with fail
    go_ret
    exact ⟨by rw [HD.out,HF.out];rfl,st6.bel⟩
   have q1:decide (x < 0) = false:=by rw [decide_eq_false_iff_not];omega
   by_cases h2:x ≤ da
   rotate_left
   ·have HF:Hid (allB (fun k => okD da I (b k) (i k) (d k)) n = false):=(HK.out false (okD_no fun h => h2 (h.2.1))).2 rfl
    have q2:decide (da < x) = true:=by rw [decide_eq_true_eq];omega
    go_wp2_with fail
    refine wp_region_S (RmS w G S I J wr.heap.size x y v) (by kernel_rfl) (by kernel_rfl) ⟨ST.out.s,ST.out.dd,ST.out.bel.drew⟩ ?_
    intro hne
    first | go_big_quiet_skip | (go_big_quiet_want;go_big_quiet_op;go_big_quiet_on)
    first | go_big_quiet_skip | (go_big_quiet_want;go_big_quiet_op;go_big_quiet_on)
    first | go_big_quiet_skip | (go_big_quiet_want;go_big_quiet_op;go_big_quiet_on)
    first | go_big_quiet_skip | (go_big_quiet_want;go_big_quiet_op;go_big_quiet_on)
    first | go_big_quiet_skip | (go_big_quiet_want;go_big_quiet_op;go_big_quiet_on)
    first | go_big_quiet_skip | (go_big_quiet_want;go_big_quiet_op;go_big_quiet_on)
    refine q_load rfl 23 _ rfl _ _ rfl (gcells G S I J).toList _ (fun W h => h.s.range) Tryz.underlying23 rfl (by kernel_rfl) ?_
    refine wpQuiet_frame (by simp only [Act.put,List.setIfInBounds_toArray,List.set_cons_succ,List.set_cons_zero];exact rfl) ?_
    go_big_quiet_want
    go_big_quiet_op
    refine ⟨_,fun s => q_call s (fun W hW => (HDA.out W).mono fun e w' h => ⟨h.1,hW.below h.2⟩),?_⟩
    go_big_quiet_on
    repeat first | go_big_quiet_skip | (go_big_quiet_want;go_big_quiet_op;go_big_quiet_on)
    refine wpQuiet_nil ?_
    intro w6 h6
    have st6:=h6.out
    clear h6 hne hd0 hd1 hd2 hg2
    go_wp2_with fail
    go_ret
    exact ⟨by rw [HD.out,HF.out];rfl,st6.bel⟩
   have q2:decide (da < x) = false:=by rw [decide_eq_false_iff_not];omega
   by_cases h3:0 ≤ y
   rotate_left
   ·have HF:Hid (allB (fun k => okD da I (b k) (i k) (d k)) n = false):=(HK.out false (okD_no fun h => h3 (h.2.2.1))).2 rfl
    have q3:decide (y < 0) = true:=by rw [decide_eq_true_eq];omega
    go_wp2_with fail
    refine wp_region_S (RmS w G S I J wr.heap.size x y v) (by kernel_rfl) (by kernel_rfl) ⟨ST.out.s,ST.out.dd,ST.out.bel.drew⟩ ?_
    intro hne
    first | go_big_quiet_skip | (go_big_quiet_want;go_big_quiet_op;go_big_quiet_on)
    first | go_big_quiet_skip | (go_big_quiet_want;go_big_quiet_op;go_big_quiet_on)
    first | go_big_quiet_skip | (go_big_quiet_want;go_big_quiet_op;go_big_quiet_on)
    first | go_big_quiet_skip | (go_big_quiet_want;go_big_quiet_op;go_big_quiet_on)
    first | go_big_quiet_skip | (go_big_quiet_want;go_big_quiet_op;go_big_quiet_on)
    first | go_big_quiet_skip | (go_big_quiet_want;go_big_quiet_op;go_big_quiet_on)
    refine q_load rfl 23 _ rfl _ _ rfl (gcells G S I J).toList _ (fun W h => h.s.range) Tryz.underlying23 rfl (by kernel_rfl) ?_
    refine wpQuiet_frame (by simp only [Act.put,List.setIfInBounds_toArray,List.set_cons_succ,List.set_cons_zero];exact rfl) ?_
    go_big_quiet_want
    go_big_quiet_op
    refine ⟨_,fun s => q_call s (fun W hW => (HDA.out W).mono fun e w' h => ⟨h.1,hW.below h.2⟩),?_⟩
    go_big_quiet_on
    repeat first | go_big_quiet_skip | (go_big_quiet_want;go_big_quiet_op;go_big_quiet_on)
    refine wpQuiet_nil ?_
    intro w6 h6
    have st6:=h6.out
    clear h6 hne hd0 hd1 hd2 hg2
    go_wp2_with fail
    go_ret
    exact ⟨by rw [HD.out,HF.out];rfl,st6.bel⟩
   have q3:decide (y < 0) = false:=by rw [decide_eq_false_iff_not];omega
   by_cases h4:0 ≤ v
   rotate_left
   ·have HF:Hid (allB (fun k => okD da I (b k) (i k) (d k)) n = false):=(HK.out false (okD_no fun h => h4 (h.2.2.2.2.1))).2 rfl
    have q4:decide (v < 0) = true:=by rw [decide_eq_true_eq];omega
    go_wp2_with fail
    refine wp_region_S (RmS w G S I J wr.heap.size x y v) (by kernel_rfl) (by kernel_rfl) ⟨ST.out.s,ST.out.dd,ST.out.bel.drew⟩ ?_
    intro hne
    first | go_big_quiet_skip | (go_big_quiet_want;go_big_quiet_op;go_big_quiet_on)
    first | go_big_quiet_skip | (go_big_quiet_want;go_big_quiet_op;go_big_quiet_on)
    first | go_big_quiet_skip | (go_big_quiet_want;go_big_quiet_op;go_big_quiet_on)
    first | go_big_quiet_skip | (go_big_quiet_want;go_big_quiet_op;go_big_quiet_on)
    first | go_big_quiet_skip | (go_big_quiet_want;go_big_quiet_op;go_big_quiet_on)
    first | go_big_quiet_skip | (go_big_quiet_want;go_big_quiet_op;go_big_quiet_on)
    refine q_load rfl 23 _ rfl _ _ rfl (gcells G S I J).toList _ (fun W h => h.s.range) Tryz.underlying23 rfl (by kernel_rfl) ?_
    refine wpQuiet_frame (by simp only [Act.put,List.setIfInBounds_toArray,List.set_cons_succ,List.set_cons_zero];exact rfl) ?_
    go_big_quiet_want
    go_big_quiet_op
    refine ⟨_,fun s => q_call s (fun W hW => (HDA.out W).mono fun e w' h => ⟨h.1,hW.below h.2⟩),?_⟩
    go_big_quiet_on
    repeat first | go_big_quiet_skip | (go_big_quiet_want;go_big_quiet_op;go_big_quiet_on)
    refine wpQuiet_nil ?_
    intro w6 h6
    have st6:=h6.out
    clear h6 hne hd0 hd1 hd2 hg2
    go_wp2_with fail
    go_ret
    exact ⟨by rw [HD.out,HF.out];rfl,st6.bel⟩
   have q4:decide (v < 0) = false:=by rw [decide_eq_false_iff_not];omega
   by_cases h5:y ≤ I
   rotate_left
   ·have HF:Hid (allB (fun k => okD da I (b k) (i k) (d k)) n = false):=(HK.out false (okD_no fun h => h5 (h.2.2.2.1))).2 rfl
    have q5:decide (I < y) = true:=by rw [decide_eq_true_eq];omega
    go_wp2_with fail
    refine wp_region_S (RmS w G S I J wr.heap.size x y v) (by kernel_rfl) (by kernel_rfl) ⟨ST.out.s,ST.out.dd,ST.out.bel.drew⟩ ?_
    intro hne
    first | go_big_quiet_skip | (go_big_quiet_want;go_big_quiet_op;go_big_quiet_on)
    first | go_big_quiet_skip | (go_big_quiet_want;go_big_quiet_op;go_big_quiet_on)
    first | go_big_quiet_skip | (go_big_quiet_want;go_big_quiet_op;go_big_quiet_on)
    first | go_big_quiet_skip | (go_big_quiet_want;go_big_quiet_op;go_big_quiet_on)
    first | go_big_quiet_skip | (go_big_quiet_want;go_big_quiet_op;go_big_quiet_on)
    first | go_big_quiet_skip | (go_big_quiet_want;go_big_quiet_op;go_big_quiet_on)
    refine q_load rfl 23 _ rfl _ _ rfl (gcells G S I J).toList _ (fun W h => h.s.range) Tryz.underlying23 rfl (by kernel_rfl) ?_
    refine wpQuiet_frame (by simp only [Act.put,List.setIfInBounds_toArray,List.set_cons_succ,List.set_cons_zero];exact rfl) ?_
    go_big_quiet_want
    go_big_quiet_op
    refine ⟨_,fun s => q_call s (fun W hW => (HDA.out W).mono fun e w' h => ⟨h.1,hW.below h.2⟩),?_⟩
    go_big_quiet_on
    repeat first | go_big_quiet_skip | (go_big_quiet_want;go_big_quiet_op;go_big_quiet_on)
    refine wpQuiet_nil ?_
    intro w6 h6
    have st6:=h6.out
    clear h6 hne hd0 hd1 hd2 hg2
    go_wp2_with fail
    go_ret
    exact ⟨by rw [HD.out,HF.out];rfl,st6.bel⟩
   have q5:decide (I < y) = false:=by rw [decide_eq_false_iff_not];omega
   by_cases h6:v ≤ I
   rotate_left
   ·have HF:Hid (allB (fun k => okD da I (b k) (i k) (d k)) n = false):=(HK.out false (okD_no fun h => by omega)).2 rfl
    have q6:decide (I < v) = true:=by rw [decide_eq_true_eq];omega
    go_wp2_with fail
    refine wp_region_S (RmS w G S I J wr.heap.size x y v) (by kernel_rfl) (by kernel_rfl) ⟨ST.out.s,ST.out.dd,ST.out.bel.drew⟩ ?_
    intro hne
    first | go_big_quiet_skip | (go_big_quiet_want;go_big_quiet_op;go_big_quiet_on)
    first | go_big_quiet_skip | (go_big_quiet_want;go_big_quiet_op;go_big_quiet_on)
    first | go_big_quiet_skip | (go_big_quiet_want;go_big_quiet_op;go_big_quiet_on)
    first | go_big_quiet_skip | (go_big_quiet_want;go_big_quiet_op;go_big_quiet_on)
    first | go_big_quiet_skip | (go_big_quiet_want;go_big_quiet_op;go_big_quiet_on)
    first | go_big_quiet_skip | (go_big_quiet_want;go_big_quiet_op;go_big_quiet_on)
    refine q_load rfl 23 _ rfl _ _ rfl (gcells G S I J).toList _ (fun W h => h.s.range) Tryz.underlying23 rfl (by kernel_rfl) ?_
    refine wpQuiet_frame (by simp only [Act.put,List.setIfInBounds_toArray,List.set_cons_succ,List.set_cons_zero];exact rfl) ?_
    go_big_quiet_want
    go_big_quiet_op
    refine ⟨_,fun s => q_call s (fun W hW => (HDA.out W).mono fun e w' h => ⟨h.1,hW.below h.2⟩),?_⟩
    go_big_quiet_on
    repeat first | go_big_quiet_skip | (go_big_quiet_want;go_big_quiet_op;go_big_quiet_on)
    refine wpQuiet_nil ?_
    intro w6 h6
    have st6:=h6.out
    clear h6 hne hd0 hd1 hd2 hg2
    go_wp2_with fail
    go_ret
    exact ⟨by rw [HD.out,HF.out];rfl,st6.bel⟩
   have q6:decide (I < v) = false:=by rw [decide_eq_false_iff_not];omega
   by_cases h7:y + v ≤ I
   rotate_left
   ·have HF:Hid (allB (fun k => okD da I (b k) (i k) (d k)) n = false):=(HK.out false (okD_no fun h => by omega)).2 rfl
    have q7:decide (I < y + v) = true:=by rw [decide_eq_true_eq];omega
    go_wp2_with fail
    refine wp_region_S (RmS w G S I J wr.heap.size x y v) (by kernel_rfl) (by kernel_rfl) ⟨ST.out.s,ST.out.dd,ST.out.bel.drew⟩ ?_
    intro hne
    first | go_big_quiet_skip | (go_big_quiet_want;go_big_quiet_op;go_big_quiet_on)
    first | go_big_quiet_skip | (go_big_quiet_want;go_big_quiet_op;go_big_quiet_on)
    first | go_big_quiet_skip | (go_big_quiet_want;go_big_quiet_op;go_big_quiet_on)
    first | go_big_quiet_skip | (go_big_quiet_want;go_big_quiet_op;go_big_quiet_on)
    first | go_big_quiet_skip | (go_big_quiet_want;go_big_quiet_op;go_big_quiet_on)
    first | go_big_quiet_skip | (go_big_quiet_want;go_big_quiet_op;go_big_quiet_on)
    refine q_load rfl 23 _ rfl _ _ rfl (gcells G S I J).toList _ (fun W h => h.s.range) Tryz.underlying23 rfl (by kernel_rfl) ?_
    refine wpQuiet_frame (by simp only [Act.put,List.setIfInBounds_toArray,List.set_cons_succ,List.set_cons_zero];exact rfl) ?_
    go_big_quiet_want
    go_big_quiet_op
    refine ⟨_,fun s => q_call s (fun W hW => (HDA.out W).mono fun e w' h => ⟨h.1,hW.below h.2⟩),?_⟩
    go_big_quiet_on
    repeat first | go_big_quiet_skip | (go_big_quiet_want;go_big_quiet_op;go_big_quiet_on)
    refine wpQuiet_nil ?_
    intro w6 h6
    have st6:=h6.out
    clear h6 hne hd0 hd1 hd2 hg2
    go_wp2_with fail
    go_ret
    exact ⟨by rw [HD.out,HF.out];rfl,st6.bel⟩
   have q7:decide (I < y + v) = false:=by rw [decide_eq_false_iff_not];omega
   have HY:Hid (allB (fun k => okD da I (b k) (i k) (d k)) (k + 1) = true):=(HK.out true ((okD_iff _ _ _ _ _).2 ⟨h1,h2,h3,h5,h4,by omega⟩)).1 rfl
   go_wp2_with fail
   refine wp_region_S (RmS w G S I J wr.heap.size x y v) (by kernel_rfl) (by kernel_rfl) ⟨ST.out.s,ST.out.dd,ST.out.bel.drew⟩ ?_
   intro hne
   first | go_big_quiet_skip | (go_big_quiet_want;go_big_quiet_op;go_big_quiet_on)
   first | go_big_quiet_skip | (go_big_quiet_want;go_big_quiet_op;go_big_quiet_on)
   first | go_big_quiet_skip | (go_big_quiet_want;go_big_quiet_op;go_big_quiet_on)
   first | go_big_quiet_skip | (go_big_quiet_want;go_big_quiet_op;go_big_quiet_on)
   first | go_big_quiet_skip | (go_big_quiet_want;go_big_quiet_op;go_big_quiet_on)
   first | go_big_quiet_skip | (go_big_quiet_want;go_big_quiet_op;go_big_quiet_on)
   refine q_load rfl 23 _ rfl _ _ rfl (gcells G S I J).toList _ (fun W h => h.s.range) Tryz.underlying23 rfl (by kernel_rfl) ?_
   refine wpQuiet_frame (by simp only [Act.put,List.setIfInBounds_toArray,List.set_cons_succ,List.set_cons_zero];exact rfl) ?_
   go_big_quiet_want
   go_big_quiet_op
   refine ⟨_,fun s => q_call s (fun W hW => (HDA.out W).mono fun e w' h => ⟨h.1,hW.below h.2⟩),?_⟩
   go_big_quiet_on
   repeat first | go_big_quiet_skip | (go_big_quiet_want;go_big_quiet_op;go_big_quiet_on)
   refine wpQuiet_nil ?_
   intro w6 h6
   have st6:=h6.out
   clear h6 hne hd0 hd1 hd2 hg2
   go_wp2_with fail
   go_roundw
   case rel => first | exact ⟨k + 1,by omega,by go_num,HY,st6.s,st6.bel⟩ | exact ⟨k + 1,by omega,rfl,HY,st6.s,st6.bel⟩
   case measure => simp [intOf];omega
  ·obtain rfl:k = n:=by omega
   go_wp2_with fail
   go_ret
   exact ⟨by rw [HD.out,HALL.out];rfl,hbl⟩
structure WdC (w:World) (G S I J:Int) (g bb off n:Nat) (f:Nat → List Value) (l:Nat → Int) (k:Nat) (v:Int) (j:Nat) (W:World):Prop where
 s:At W w.heap.size 23 (gcells G S I J)
 r:Blk W (w.heap.size + 1) 32 256 (fun _ => 0)
 b:Blk W g 32 256 (hz (if j = 0 then l else upd l k v))
 q:RSeg W bb off 3 n f
 bel:Below w.heap.size w W
structure WdR (w:World) (G S I J:Int) (g:Nat) (l:Nat → Int) (W:World):Prop where
 s:At W w.heap.size 23 (gcells G S I J)
 r:Blk W (w.heap.size + 1) 32 256 (fun _ => 0)
 b:Blk W g 32 256 (hz l)
 bel:Below w.heap.size w W
theorem rsWriteDescs_any (G S I J:Int) (a:Option Addr) (n cap:Nat) (b i d:Nat → Int) (hn:(n:Int) ≤ 9223372036854775807) (w:World) (hr:RRow w a 3 n (df b i d)) :
  Calls Tryz.prog 61 #[gval G S I J,.slice a n cap] w fun e w' => e = .returned (.tuple #[bval (descZ G S I J n b i d),.int .i64 (descE G S I J n b i d)]) ∧ Below w.heap.size w w':=by
 have hal:=zero_block
 have HR:=Lib.hid hr
 obtain ⟨W,hW⟩:∃ W,W = (w.alloc (.cells (gcells G S I J) 23)).alloc (.cells (Ks .u8 256 (fun _ => 0)).toArray 32):=⟨_,rfl⟩
 have hS:At W w.heap.size 23 (gcells G S I J):=by rw [hW];exact (At.new w _ _).alloc _
 have hRb:Blk W (w.heap.size + 1) 32 256 (fun _ => 0):=by
  rw [hW]
  have:=Blk.new (w.alloc (.cells (gcells G S I J) 23)) 32 256 (fun _ => 0)
  simp only [World.size_alloc] at this
  exact this
 have hL:Below w.heap.size w W:=by rw [hW];exact ((Below.refl _ _).alloc (Nat.le_refl _) _).alloc (by simp) _
 have HW:=Lib.hid hW
 clear hW hr
 go_enter Tryz.func61,Tryz.ntmps61
 have hS0:At ((w.alloc (.cells (gcells G S I J) 23)).alloc (.cells (Ks .u8 256 (fun _ => 0)).toArray 32)) w.heap.size 23 (gcells G S I J):=(At.new w _ _).alloc _
 go_wp2_with (first | (refine wp_loadAtG rfl 23 (.tmp 2) rfl _ _ _ rfl hS0 Tryz.underlying23 rfl (by kernel_rfl) ?_))
 rw [← HW.out]
 clear HW hS0
 refine (rMay5_any G S I J W).mono ?_
 rintro e w1 ⟨rfl,hb1⟩
 have hS1:=hS.below hb1 hS.lt
 have hR1:=hRb.below hb1 hRb.lt
 have hL1:Below w.heap.size w w1:=hL.trans (hb1.mono hL.size)
 clear hS hRb hL hb1
 cases hm:mayG G S I J with
 | false =>
  have HO:Hid (descOk G S I J n b i d = false ∧ descE G S I J n b i d = 50):=by show _ ∧ _;unfold descOk descE;rw [hm];exact ⟨rfl,rfl⟩
  clear hm
  go_wp2_with (first | (refine wp_storeBlk rfl (.tmp 4) (.tmp 11) rfl (w.heap.size + 1) (fun _ => 0) _ rfl rfl hR1 ?_))
  intro w2 hR2 ho2
  go_wp2_with fail
  exact bodyPost_ret (results_blk2 rfl _ _ (w.heap.size + 1) _ rfl hR2) rfl ⟨by rw [descZ,HO.out.1,HO.out.2];rfl,hL1.trans (ho2.below (by omega))⟩
 | true =>
 have HM:=Lib.hid hm
 clear hm
 go_wp2_with (first | (refine wp_loadAtG rfl 23 (.tmp 2) rfl _ _ _ rfl hS1 Tryz.underlying23 rfl (by kernel_rfl) ?_))
 refine (rsMay_any G S I J HM.out a n cap b i d hn w1 (HR.out.below (df_ne _ _ _ _) hL1)).mono ?_
 rintro e w2 ⟨rfl,hb2⟩
 have hS2:=hS1.below hb2 hS1.lt
 have hR2:=hR1.below hb2 hR1.lt
 have hL2:Below w.heap.size w w2:=hL1.trans (hb2.mono hL1.size)
 have hsz:=hR2.lt
 clear hS1 hR1 hL1 hb2
 cases ho:mayD G S I J n b i d with
 | false =>
  have HO:Hid (descOk G S I J n b i d = false ∧ descE G S I J n b i d = 2):=by
   show _ ∧ _
   unfold descOk descE;rw [HM.out,ho];exact ⟨rfl,rfl⟩
  clear ho
  go_wp2_with (first | (refine wp_storeBlk rfl (.tmp 4) (.tmp 16) rfl (w.heap.size + 1) (fun _ => 0) _ rfl rfl hR2 ?_))
  intro w3 hR3 ho3
  go_wp2_with fail
  exact bodyPost_ret (results_blk2 rfl _ _ (w.heap.size + 1) _ rfl hR3) rfl ⟨by rw [descZ,HO.out.1,HO.out.2];rfl,hL2.trans (ho3.below (by omega))⟩
 | true =>
 have HO:Hid (descOk G S I J n b i d = true ∧ descE G S I J n b i d = 0):=by
  show _ ∧ _
  unfold descOk descE;rw [HM.out,ho];exact ⟨rfl,rfl⟩
 have HMD:=Lib.hid (mayD_iff HM.out ho).2.2
 have hn4:=(mayD_iff HM.out ho).2.1
 clear ho
 obtain ⟨g,hg⟩:∃ g,g = w2.heap.size:=⟨_,rfl⟩
 have hg2:w.heap.size + 2 ≤ g:=by omega
 have st0:Hid (WdR w G S I J g (dH b i d 0) (w2.alloc (.cells (Ks .u8 256 (fun _ => 0)).toArray 32))) :=
  ⟨hS2.alloc _,hR2.alloc _,by rw [hg];exact (Blk.new w2 _ _ _).congr fun i _ => (hz_zero i).symm,hL2.alloc hL2.size _⟩
 clear hS2 hR2 hL2 hsz
 go_wp2_with fail
 rw [← hg]
 clear hg
 have hsa:=fun W => run_sliceBlkAll g 0 W
 go_loopw [7] (fun u wr => ∃ k:Nat,k ≤ n ∧ u = .int .i64 (k:Int) ∧ WdR w G S I J g (dH b i d k) wr) (fun u _ => n - (intOf u).toNat)
 case atStart => exact ⟨0,by omega,rfl,st0.out⟩
 case round =>
  clear st0
  obtain ⟨k,hk,rfl,st⟩:=hrel
  by_cases hlt:k < n
  ·rcases HR.out with h0 | ⟨bb,off,rfl,hsg0⟩
   ·omega
   have hbb:bb < w.heap.size:=hsg0.lt (by omega) (df_ne _ _ _ _)
   have hsg:=hsg0.below st.bel hbb
   have HB:=Lib.hid (HMD.out k hlt)
   obtain ⟨x,hx⟩:∃ x,b k = x:=⟨_,rfl⟩
   obtain ⟨y,hy⟩:∃ y,i k = y:=⟨_,rfl⟩
   obtain ⟨v,hv⟩:∃ v,d k = v:=⟨_,rfl⟩
   have hx0:=Lib.hid hx
   have hx1:=Lib.hid hy
   have hx2:=Lib.hid hv
   rw [hx,hy,hv] at HB
   obtain ⟨⟨q1,q2⟩,⟨q3,q4⟩,⟨q5,q6⟩⟩:=HB.out
   clear hx hy hv hsg0 HB
   obtain ⟨l0,hl0⟩:∃ l,l = dH b i d k:=⟨_,rfl⟩
   rw [← hl0] at st
   have HL0:=Lib.hid hl0
   have st0:WdC w G S I J g bb off n (df b i d) l0 0 0 0 wr:=⟨st.s,st.r,st.b,hsg,st.bel⟩
   clear hl0 st hsg
   have e0:IntKind.i64.wrap (8 * (k:Int)) = 8 * (k:Int):=IntWalk.i64_in _ (by omega)
   have e1:IntKind.i64.wrap (8 * (k:Int) + 2) = 8 * (k:Int) + 2:=IntWalk.i64_in _ (by omega)
   have e2:IntKind.i64.wrap (8 * (k:Int) + 4) = 8 * (k:Int) + 4:=IntWalk.i64_in _ (by omega)
   have m1:x % 4294967296 = x:=by omega
   have m2:y % 4294967296 = y:=by omega
   have m3:v % 4294967296 = v:=by omega
   have l9:(0:Int) ≤ (k:Int):=by omega
   have l8:(k:Int) < (n:Int):=by omega
   have hf0:∀ X:InW (fun W => ∃ j,WdC w G S I J g bb off n (df b i d) l0 (4 * k + 0) x j W),X.W.cell? ⟨bb,off + k * 3,none⟩ = some (.int .i64 x):=fun X => by obtain ⟨j,h⟩:=X.h;have:=h.q k hlt 0 _ rfl;rw [hx0.out] at this;exact this
   go_wp2_with fail
   refine wp_region_lin (WdC w G S I J g bb off n (df b i d) l0 (4 * k + 0) x) (by kernel_rfl) (by kernel_rfl) (by kernel_rfl) ⟨st0.s,st0.r,st0.b,st0.q,st0.bel.drew⟩ ?_
   clear st0
   intro hne
   (refine lin_take 9 (by kernel_rfl) ?_;simp only [List.take_succ_cons,List.take_zero,List.drop_succ_cons,List.drop_zero])
   first | go_big_quiet_skip | (go_big_quiet_want;go_big_quiet_op;go_big_quiet_on)
   first | go_big_quiet_skip | (go_big_quiet_want;go_big_quiet_op;go_big_quiet_on)
   first | go_big_quiet_skip | (go_big_quiet_want;go_big_quiet_op;go_big_quiet_on)
   first | go_big_quiet_skip | (go_big_quiet_want;go_big_quiet_op;go_big_quiet_on)
   first | go_big_quiet_skip | (go_big_quiet_want;go_big_quiet_op;go_big_quiet_on)
   first | go_big_quiet_skip | (go_big_quiet_want;go_big_quiet_op;go_big_quiet_on)
   first | go_big_quiet_skip | (go_big_quiet_want;go_big_quiet_op;go_big_quiet_on)
   first | go_big_quiet_skip | (go_big_quiet_want;go_big_quiet_op;go_big_quiet_on)
   first | go_big_quiet_skip | (go_big_quiet_want;go_big_quiet_op;go_big_quiet_on)
   refine wpQuiet_nil ?_
   refine lin_call rfl rfl 97 #[.slice (some ⟨g,0,none⟩) 256 256,.int .i64 (8 * (k:Int)),.int .u32 x] (.bool true) (fun W => by kernel_rfl) (fun W h => ?c0) ?_
   case c0 =>
    refine (rputH g l0 (4 * k + 0) (8 * (k:Int)) x (by omega) (by omega) (by omega) (by omega) W h.b).mono ?_
    rintro e w6 ⟨rfl,hB6,ho6⟩
    exact ⟨rfl,h.s.only ho6 (by omega),h.r.only ho6 (by omega),hB6,fun i hi j u hu => (ho6.cell (p:=⟨bb,off + i * 3 + j,none⟩) (by show bb ≠ g;omega)).trans (h.q i hi j u hu),h.bel.trans (ho6.below (by omega))⟩
   refine wpLin_frame (by simp only [Act.put,List.setIfInBounds_toArray,List.set_cons_succ,List.set_cons_zero];exact rfl) ?_
   refine wpLin_nil ?_
   intro w20 st0'
   have st1:WdC w G S I J g bb off n (df b i d) (upd l0 (4 * k + 0) x) 0 0 0 w20:=⟨st0'.s,st0'.r,st0'.b,st0'.q,st0'.bel⟩
   clear hne hf0 st0'
   obtain ⟨l1,hl1⟩:∃ l,l = upd l0 (4 * k + 0) x:=⟨_,rfl⟩
   rw [← hl1] at st1
   have HL1:=Lib.hid hl1
   clear hl1
   have hf1:∀ X:InW (fun W => ∃ j,WdC w G S I J g bb off n (df b i d) l1 (4 * k + 1) y j W),X.W.cell? ⟨bb,off + k * 3 + 1,none⟩ = some (.int .i64 y):=fun X => by obtain ⟨j,h⟩:=X.h;have:=h.q k hlt 1 _ rfl;rw [hx1.out] at this;exact this
   go_wp2_with fail
   refine wp_region_lin (WdC w G S I J g bb off n (df b i d) l1 (4 * k + 1) y) (by kernel_rfl) (by kernel_rfl) (by kernel_rfl) ⟨st1.s,st1.r,st1.b,st1.q,st1.bel.drew⟩ ?_
   clear st1
   intro hne
   (refine lin_take 10 (by kernel_rfl) ?_;simp only [List.take_succ_cons,List.take_zero,List.drop_succ_cons,List.drop_zero])
   first | go_big_quiet_skip | (go_big_quiet_want;go_big_quiet_op;go_big_quiet_on)
   first | go_big_quiet_skip | (go_big_quiet_want;go_big_quiet_op;go_big_quiet_on)
   first | go_big_quiet_skip | (go_big_quiet_want;go_big_quiet_op;go_big_quiet_on)
   first | go_big_quiet_skip | (go_big_quiet_want;go_big_quiet_op;go_big_quiet_on)
   first | go_big_quiet_skip | (go_big_quiet_want;go_big_quiet_op;go_big_quiet_on)
   first | go_big_quiet_skip | (go_big_quiet_want;go_big_quiet_op;go_big_quiet_on)
   first | go_big_quiet_skip | (go_big_quiet_want;go_big_quiet_op;go_big_quiet_on)
   first | go_big_quiet_skip | (go_big_quiet_want;go_big_quiet_op;go_big_quiet_on)
   first | go_big_quiet_skip | (go_big_quiet_want;go_big_quiet_op;go_big_quiet_on)
   first | go_big_quiet_skip | (go_big_quiet_want;go_big_quiet_op;go_big_quiet_on)
   refine wpQuiet_nil ?_
   refine lin_call rfl rfl 97 #[.slice (some ⟨g,0,none⟩) 256 256,.int .i64 (8 * (k:Int) + 2),.int .u32 y] (.bool true) (fun W => by kernel_rfl) (fun W h => ?c1) ?_
   case c1 =>
    refine (rputH g l1 (4 * k + 1) (8 * (k:Int) + 2) y (by omega) (by omega) (by omega) (by omega) W h.b).mono ?_
    rintro e w6 ⟨rfl,hB6,ho6⟩
    exact ⟨rfl,h.s.only ho6 (by omega),h.r.only ho6 (by omega),hB6,fun i hi j u hu => (ho6.cell (p:=⟨bb,off + i * 3 + j,none⟩) (by show bb ≠ g;omega)).trans (h.q i hi j u hu),h.bel.trans (ho6.below (by omega))⟩
   refine wpLin_frame (by simp only [Act.put,List.setIfInBounds_toArray,List.set_cons_succ,List.set_cons_zero];exact rfl) ?_
   refine wpLin_nil ?_
   intro w21 st1'
   have st2:WdC w G S I J g bb off n (df b i d) (upd l1 (4 * k + 1) y) 0 0 0 w21:=⟨st1'.s,st1'.r,st1'.b,st1'.q,st1'.bel⟩
   clear hne hf1 st1'
   obtain ⟨l2,hl2⟩:∃ l,l = upd l1 (4 * k + 1) y:=⟨_,rfl⟩
   rw [← hl2] at st2
   have HL2:=Lib.hid hl2
   clear hl2
   have hf2:∀ X:InW (fun W => ∃ j,WdC w G S I J g bb off n (df b i d) l2 (4 * k + 2) v j W),X.W.cell? ⟨bb,off + k * 3 + 2,none⟩ = some (.int .i64 v):=fun X => by obtain ⟨j,h⟩:=X.h;have:=h.q k hlt 2 _ rfl;rw [hx2.out] at this;exact this
   go_wp2_with fail
   refine wp_region_lin (WdC w G S I J g bb off n (df b i d) l2 (4 * k + 2) v) (by kernel_rfl) (by kernel_rfl) (by kernel_rfl) ⟨st2.s,st2.r,st2.b,st2.q,st2.bel.drew⟩ ?_
   clear st2
   intro hne
   (refine lin_take 10 (by kernel_rfl) ?_;simp only [List.take_succ_cons,List.take_zero,List.drop_succ_cons,List.drop_zero])
   first | go_big_quiet_skip | (go_big_quiet_want;go_big_quiet_op;go_big_quiet_on)
   first | go_big_quiet_skip | (go_big_quiet_want;go_big_quiet_op;go_big_quiet_on)
   first | go_big_quiet_skip | (go_big_quiet_want;go_big_quiet_op;go_big_quiet_on)
   first | go_big_quiet_skip | (go_big_quiet_want;go_big_quiet_op;go_big_quiet_on)
   first | go_big_quiet_skip | (go_big_quiet_want;go_big_quiet_op;go_big_quiet_on)
   first | go_big_quiet_skip | (go_big_quiet_want;go_big_quiet_op;go_big_quiet_on)
   first | go_big_quiet_skip | (go_big_quiet_want;go_big_quiet_op;go_big_quiet_on)
   first | go_big_quiet_skip | (go_big_quiet_want;go_big_quiet_op;go_big_quiet_on)
   first | go_big_quiet_skip | (go_big_quiet_want;go_big_quiet_op;go_big_quiet_on)
   first | go_big_quiet_skip | (go_big_quiet_want;go_big_quiet_op;go_big_quiet_on)
   refine wpQuiet_nil ?_
   refine lin_call rfl rfl 97 #[.slice (some ⟨g,0,none⟩) 256 256,.int .i64 (8 * (k:Int) + 4),.int .u32 v] (.bool true) (fun W => by kernel_rfl) (fun W h => ?c2) ?_
   case c2 =>
    refine (rputH g l2 (4 * k + 2) (8 * (k:Int) + 4) v (by omega) (by omega) (by omega) (by omega) W h.b).mono ?_
    rintro e w6 ⟨rfl,hB6,ho6⟩
    exact ⟨rfl,h.s.only ho6 (by omega),h.r.only ho6 (by omega),hB6,fun i hi j u hu => (ho6.cell (p:=⟨bb,off + i * 3 + j,none⟩) (by show bb ≠ g;omega)).trans (h.q i hi j u hu),h.bel.trans (ho6.below (by omega))⟩
   refine wpLin_frame (by simp only [Act.put,List.setIfInBounds_toArray,List.set_cons_succ,List.set_cons_zero];exact rfl) ?_
   refine wpLin_nil ?_
   intro w22 st2'
   have st3:WdC w G S I J g bb off n (df b i d) (upd l2 (4 * k + 2) v) 0 0 0 w22:=⟨st2'.s,st2'.r,st2'.b,st2'.q,st2'.bel⟩
   clear hne hf2 st2'
   obtain ⟨l3,hl3⟩:∃ l,l = upd l2 (4 * k + 2) v:=⟨_,rfl⟩
   rw [← hl3] at st3
   have HL3:=Lib.hid hl3
   clear hl3
   have st':WdR w G S I J g (dH b i d (k + 1)) w22:=⟨st3.s,st3.r,by have:=st3.b;rw [if_pos rfl,HL3.out,HL2.out,HL1.out,HL0.out,← hx0.out,← hx1.out,← hx2.out] at this;exact this,st3.bel⟩
   clear st3 HL0 HL1 HL2 HL3
   go_wp2_with fail
   go_roundw
   case rel => first | exact ⟨k + 1,by omega,by go_num,st'⟩ | exact ⟨k + 1,by omega,rfl,st'⟩
   case measure => simp [intOf];omega
  ·obtain rfl:k = n:=by omega
   have hb:=st.b
   go_wp2_with (first | (refine wp_loadBlkG rfl (.tmp 6) rfl g _ rfl hb ?_))
   refine (rsealed_any _ (hz_byt _) _).mono ?_
   rintro e w8 ⟨rfl,hb8⟩
   have hR8:=st.r.below hb8 st.r.lt
   have hL8:Below w.heap.size w w8:=st.bel.trans (hb8.mono st.bel.size)
   clear st hb hb8
   go_wp2_with (first | (refine wp_storeBlk rfl (.tmp 4) (.tmp 56) rfl (w.heap.size + 1) (sealZ (hz (dH b i d k))) _ rfl rfl hR8 ?_))
   intro w9 hR9 ho9
   go_wp2_with fail
   exact bodyPost_ret (results_blk2 rfl _ _ (w.heap.size + 1) _ rfl hR9) rfl ⟨by rw [descZ,HO.out.1,HO.out.2];rfl,hL8.trans (ho9.below (by omega))⟩
structure MS where
 L:Nat → Nat → Int
 next:Nat
def turnZ (z:Nat → Int) (i:Nat):Nat → Int:=bZ (setB (bt z) i)
namespace MS
def put (m:MS) (b:Nat) (z:Nat → Int):MS:={ m with L:=updN m.L b z }
def set (x:Im) (m:MS) (k d bit:Nat):MS:=m.put (x.st k + d) (turnZ (m.L (x.st k + d)) bit)
def grp (x:Im) (b:Nat):Nat:=(b - (2 + x.j)) / x.s
def plc (x:Im) (b:Nat):Nat:=(b - (2 + x.j)) % x.s
def takeF (x:Im):Nat → MS → Nat × MS
 | 0,m => (0,m)
 | f + 1,m => if x.data m.next = true then (m.next,set x { m with next:=m.next + 1 } (grp x m.next) 0 (plc x m.next)) else takeF x f { m with next:=m.next + 1 }
def take (x:Im) (m:MS):Nat × MS:=takeF x (x.n - m.next) m
def down (x:Im):List Nat → Nat → MS → Nat × MS
 | [],b,m => (b,m)
 | k :: ks,b,m =>
  if b = 0 then (0,m)
  else if (g32 (m.L b) (4 * k)).toNat = 0 then
   down x ks (m.take x).1 ((m.take x).2.put b (over ((m.take x).2.L b) (4 * k) 4 (byteOf ((m.take x).1:Nat))))
  else down x ks (g32 (m.L b) (4 * k)).toNat m
def hang (x:Im) (y:Ino) (i:Int) (m:MS):Nat × Ino × MS :=
 if i < 0 ∨ 65536 ≤ i then (0,y,m)
 else if y.p (Im.wayP i.toNat) = 0 then
  ((down x (Im.wayB i.toNat) (m.take x).1 (m.take x).2).1,{ y with p:=fun q => if q = Im.wayP i.toNat then (((m.take x).1:Nat):Int) else y.p q },(down x (Im.wayB i.toNat) (m.take x).1 (m.take x).2).2)
 else ((down x (Im.wayB i.toNat) (y.p (Im.wayP i.toNat)).toNat m).1,y,(down x (Im.wayB i.toNat) (y.p (Im.wayP i.toNat)).toNat m).2)
end MS
structure PF where
 kind:Int
 size:Int
 nb:Nat
 bl:Nat → Int
 nn:Nat
 dir:Nat → Int
 nm:Nat → ByteArray
 orp:Bool
 links:Int
structure PlanD where
 nf:Nat
 f:Nat → PF
 nc:Nat
 cb:Nat → Int
 ca:Nat → Int
 co:Nat → Int
 sums:Bool
abbrev Slt:=Nat × ByteArray
namespace PlanD
variable (P:PlanD)
def n (x:Im):Nat:=min P.nf (x.ni - 1)
structure IS where
 ino:Nat → Ino
 sl:Nat → List Slt
def nameF (N i k:Nat) (a:IS):IS :=
 if 0 ≤ (P.f (i - 1)).dir k ∧ (P.f (i - 1)).dir k ≤ (N:Int) then
  ⟨updN a.ino i { a.ino i with links:=IntKind.i64.wrap ((a.ino i).links + 1) },updN a.sl ((P.f (i - 1)).dir k).toNat (a.sl ((P.f (i - 1)).dir k).toNat ++ [(i + 1,(P.f (i - 1)).nm k)])⟩
 else a
def itr {α:Type} (f:Nat → α → α):Nat → α → α
 | 0,a => a
 | n + 1,a => f n (itr f n a)
def fileF (N i:Nat) (a:IS):IS :=
 itr (P.nameF N i) (P.f (i - 1)).nn { a with ino:=updN a.ino i ⟨(P.f (i - 1)).kind,(P.f (i - 1)).links,(i:Int),(P.f (i - 1)).size,fun _ => 0,0⟩ }
def is0:IS:=⟨updN (fun _ => Ino.nil) 0 ⟨2,1,1,0,fun _ => 0,0⟩,fun _ => []⟩
def isF (N:Nat) (k:Nat):IS:=itr (fun i a => P.fileF N (i + 1) a) k is0
structure HS where
 y:Ino
 m:MS
def slotH (x:Im) (l:List Slt) (k:Nat) (h:HS):HS :=
 let r:=MS.hang x h.y ((k / 8:Nat):Int) h.m
 ⟨r.2.1,if 0 < r.1 ∧ (l.getD k default).2.size ≤ 27 then r.2.2.put r.1 (putS (r.2.2.L r.1) (k % 8) (bS ((l.getD k default).1:Nat) (l.getD k default).2)) else r.2.2⟩
def blockH (x:Im) (bl:Nat → Int) (k:Nat) (h:HS):HS :=
 let r:=MS.hang x h.y (bl k) h.m
 ⟨r.2.1,if 0 < r.1 then r.2.2.put r.1 (over (r.2.2.L r.1) 0 1 (fun _ => ((k + 1:Nat):Int) % 256)) else r.2.2⟩
def inoH (x:Im) (l:List Slt) (i:Nat) (h:HS):HS :=
 if h.y.kind = 2 then itr (slotH x l) l.length { h with y:={ h.y with size:=256 * (((l.length + 7) / 8:Nat):Int) } }
 else if i = 0 then h else itr (blockH x (P.f (i - 1)).bl) (P.f (i - 1)).nb h
structure FS where
 ino:Nat → Ino
 m:MS
def fillF (x:Im) (sl:Nat → List Slt) (i:Nat) (a:FS):FS :=
 let h:=P.inoH x (sl i) i ⟨a.ino i,a.m⟩
 ⟨updN a.ino i h.y,h.m⟩
def fill (x:Im) (a:IS) (m:MS) (k:Nat):FS:=itr (P.fillF x a.sl) k ⟨a.ino,m⟩
structure OS where
 o:Nat
 last:Nat
 ino:Nat → Ino
def orpG (i:Nat) (a:OS):OS :=
 if (P.f i).orp = true then
  (if a.last = 0 then ⟨i + 2,i + 1,a.ino⟩ else ⟨a.o,i + 1,updN a.ino a.last { a.ino a.last with next:=((i + 2:Nat):Int) }⟩)
 else a
def orps (ino:Nat → Ino) (k:Nat):OS:=itr P.orpG k ⟨0,0,ino⟩
structure TS where
 L:Nat → Nat → Int
 d:Nat → Int
def tabF (x:Im) (ino:Nat → Ino) (i:Nat) (a:TS):TS :=
 let L1:=updN a.L (x.ib (i + 1)) (putZ (a.L (x.ib (i + 1))) (x.ia (i + 1):Nat) (ino i))
 ⟨if (ino i).kind ≠ 0 then updN L1 (x.st (i / x.i) + 1) (turnZ (L1 (x.st (i / x.i) + 1)) (i % x.i)) else L1,if (ino i).kind = 2 then updN a.d (i / x.i) (a.d (i / x.i) + 1) else a.d⟩
def tab (x:Im) (L:Nat → Nat → Int) (ino:Nat → Ino) (k:Nat):TS:=itr (tabF x ino) k ⟨L,fun _ => 0⟩
def headsL (x:Im) (o:Nat) (t:TS):Nat → Nat → Int :=
 updN (updN t.L 0 (supZ x.g x.s x.i x.j (o:Nat))) 1 (descZ x.g x.s x.i x.j x.g (fun k => (x.s:Int) - (cntB (bt (t.L (x.st k))) x.s:Nat)) (fun k => (x.i:Int) - (cntB (bt (t.L (x.st k + 1))) x.i:Nat)) t.d)
def chgF (n:Nat) (k:Nat) (L:Nat → Nat → Int):Nat → Nat → Int :=
 if 0 ≤ P.cb k ∧ P.cb k < (n:Int) then
  updN L (P.cb k).toNat (over (L (P.cb k).toNat) (P.ca k % 256).toNat 1 (fun _ => (((L (P.cb k).toNat (P.ca k % 256).toNat).toNat ^^^ (P.co k).toNat:Nat):Int)))
 else L
def sumF (k:Nat) (L:Nat → Nat → Int):Nat → Nat → Int:=updN L k (sealZ (L k))
def img (x:Im):Nat → Nat → Int :=
 let N:=P.n x
 let a:=P.isF N N
 let h:=P.fill x a ⟨mkB x.g x.s x.i x.j,0⟩ (N + 1)
 let s:=P.orps h.ino N
 let t:=tab x h.m.L s.ino (N + 1)
 let L:=itr (P.chgF x.n) P.nc (headsL x s.o t)
 if P.sums then sumF 1 (sumF 0 L) else L
end PlanD
theorem turnZ_byt (z:Nat → Int) (i:Nat):Byt (turnZ z i):=bZ_byt _
namespace MS
variable {x:Im}
structure Wf (x:Im) (m:MS) (lev:Nat → Nat):Prop where
 byt:∀ b,Byt (m.L b)
 zero:∀ b,m.next ≤ b → x.data b = true → ∀ k,m.L b k = 0
 ptr:∀ b k,x.data b = true → b < m.next → 0 < lev b → k < 64 → (g32 (m.L b) (4 * k)).toNat = 0 ∨ (x.data (g32 (m.L b) (4 * k)).toNat = true ∧ (g32 (m.L b) (4 * k)).toNat < m.next ∧ lev (g32 (m.L b) (4 * k)).toNat + 1 = lev b)
 le:m.next ≤ x.n
def Pt (x:Im) (m:MS) (lev:Nat → Nat) (l v:Nat):Prop:=v = 0 ∨ (x.data v = true ∧ v < m.next ∧ lev v = l)
structure Ext (x:Im) (m:MS) (lev:Nat → Nat) (m':MS) (lev':Nat → Nat):Prop where
 le:m.next ≤ m'.next
 lev:∀ b,x.data b = true → b < m.next → lev' b = lev b
theorem Ext.refl (m:MS) (lev:Nat → Nat):Ext x m lev m lev:=⟨Nat.le_refl _,fun _ _ _ => rfl⟩
theorem Ext.trans {m m' m'':MS} {lev lev' lev'':Nat → Nat} (h:Ext x m lev m' lev') (k:Ext x m' lev' m'' lev''):Ext x m lev m'' lev'' :=
 ⟨Nat.le_trans h.le k.le,fun b hb hn => (k.lev b hb (Nat.lt_of_lt_of_le hn h.le)).trans (h.lev b hb hn)⟩
theorem Pt.ext {m m':MS} {lev lev':Nat → Nat} {l v:Nat} (h:Pt x m lev l v) (e:Ext x m lev m' lev'):Pt x m' lev' l v:=by
 rcases h with h | ⟨h1,h2,h3⟩
 ·exact .inl h
 ·exact .inr ⟨h1,Nat.lt_of_lt_of_le h2 e.le,(e.lev v h1 h2).trans h3⟩
theorem Pt.lt {m:MS} {lev:Nat → Nat} {l v:Nat} (h:Pt x m lev l v) (h0:v ≠ 0):v < x.n:=by
 rcases h with h | ⟨h1,_,_⟩
 ·exact absurd h h0
 ·unfold Im.data at h1
  rw [Bool.and_eq_true,Bool.and_eq_true,decide_eq_true_eq,decide_eq_true_eq] at h1
  exact h1.2.1
theorem takeF_wf (hs:2 ≤ x.s) (l:Nat):∀ (f:Nat) (m:MS) (lev:Nat → Nat),m.Wf x lev → m.next + f ≤ x.n → ∃ lev',(takeF x f m).2.Wf x lev' ∧ Ext x m lev (takeF x f m).2 lev' ∧ Pt x (takeF x f m).2 lev' l (takeF x f m).1
 | 0,m,lev,h,hf => ⟨lev,h,.refl _ _,.inl rfl⟩
 | f + 1,m,lev,h,hf => by
  rw [takeF]
  by_cases hd:x.data m.next = true
  ·rw [if_pos hd]
   refine ⟨updN lev m.next l,⟨fun b => ?_,fun b hb hdb k => ?_,fun b k hdb hb hl hk => ?_,by show m.next + 1 ≤ x.n;omega⟩,⟨by show m.next ≤ m.next + 1;omega,fun b hdb hb => ?_⟩,.inr ⟨hd,by show m.next < m.next + 1;omega,if_pos rfl⟩⟩
   ·show Byt (updN m.L _ _ b)
    unfold updN
    split
    ·exact turnZ_byt _ _
    ·exact h.byt b
   ·show updN m.L _ _ b k = 0
    have hne:=Im.data_ne (k:=grp x m.next) (d:=0) hdb (by decide) hs
    unfold updN
    rw [if_neg hne]
    exact h.zero b (by replace hb:m.next + 1 ≤ b:=hb;omega) hdb k
   ·have hne:=Im.data_ne (k:=grp x m.next) (d:=0) hdb (by decide) hs
    have e:(set x { m with next:=m.next + 1 } (grp x m.next) 0 (plc x m.next)).L b = m.L b:=by
     show updN m.L _ _ b = _
     unfold updN
     rw [if_neg hne]
    rw [e]
    replace hb:b < m.next + 1:=hb
    by_cases hbn:b = m.next
    ·left
     subst hbn
     have z:=h.zero m.next (Nat.le_refl _) hd
     unfold g32
     rw [z,z,z,z];rfl
    ·have hl':0 < lev b:=by unfold updN at hl;rwa [if_neg hbn] at hl
     rcases h.ptr b k hdb (by omega) hl' hk with h0 | ⟨h1,h2,h3⟩
     ·exact .inl h0
     ·refine .inr ⟨h1,by show _ < m.next + 1;omega,?_⟩
      unfold updN
      rw [if_neg hbn,if_neg (by omega)]
      exact h3
   ·unfold updN
    rw [if_neg (by omega)]
  ·rw [if_neg hd]
   obtain ⟨lev',h1,h2,h3⟩:=takeF_wf hs l f { m with next:=m.next + 1 } lev ⟨h.byt,fun b hb => h.zero b (by replace hb:m.next + 1 ≤ b:=hb;omega),fun b k hdb hb hl hk => by
    replace hb:b < m.next + 1:=hb
    have hbn:b ≠ m.next:=fun e => hd (e ▸ hdb)
    rcases h.ptr b k hdb (by omega) hl hk with h0 | ⟨h1,h2,h3⟩
    ·exact .inl h0
    ·exact .inr ⟨h1,Nat.lt_succ_of_lt h2,h3⟩,by show m.next + 1 ≤ x.n;omega⟩ (by show m.next + 1 + f ≤ x.n;omega)
   refine ⟨lev',h1,⟨?_,fun b hdb hb => h2.lev b hdb (by show b < m.next + 1;omega)⟩,h3⟩
   have:=h2.le
   replace this:m.next + 1 ≤ _:=this
   omega
theorem take_wf (hs:2 ≤ x.s) (l:Nat) {m:MS} {lev:Nat → Nat} (h:m.Wf x lev):∃ lev',(take x m).2.Wf x lev' ∧ Ext x m lev (take x m).2 lev' ∧ Pt x (take x m).2 lev' l (take x m).1 :=
 takeF_wf hs l _ m lev h (by have:=h.le;omega)
theorem Wf.put0 {m:MS} {lev:Nat → Nat} (h:m.Wf x lev) {b:Nat} (hb:Pt x m lev 0 b) (h0:b ≠ 0) {z:Nat → Int} (hz:Byt z):(m.put b z).Wf x lev:=by
 rcases hb with hb | ⟨h1,h2,h3⟩
 ·exact absurd hb h0
 refine ⟨fun c => ?_,fun c hc hdc k => ?_,fun c k hdc hc hl hk => ?_,h.le⟩
 ·show Byt (updN m.L b z c)
  unfold updN
  split
  ·exact hz
  ·exact h.byt c
 ·show updN m.L b z c k = 0
  replace hc:m.next ≤ c:=hc
  unfold updN
  rw [if_neg (by omega)]
  exact h.zero c hc hdc k
 ·have e:(m.put b z).L c = m.L c:=by
   show updN m.L b z c = _
   unfold updN
   rw [if_neg (fun e => by rw [e,h3] at hl;omega)]
  rw [e]
  exact h.ptr c k hdc hc hl hk
theorem Wf.word {m:MS} {lev:Nat → Nat} (h:m.Wf x lev) (hn:x.n ≤ 2048) {b l k v:Nat} (hb:Pt x m lev (l + 1) b) (h0:b ≠ 0) (hk:k < 64) (hv:Pt x m lev l v):(m.put b (over (m.L b) (4 * k) 4 (byteOf (v:Nat)))).Wf x lev:=by
 have hv9:v < 2048:=by
  by_cases e:v = 0
  ·omega
  ·have:=hv.lt e;omega
 rcases hb with hb | ⟨h1,h2,h3⟩
 ·exact absurd hb h0
 refine ⟨fun c => ?_,fun c hc hdc i => ?_,fun c i hdc hc hl hi => ?_,h.le⟩
 ·show Byt (updN m.L b _ c)
  unfold updN
  split
  ·exact byt_over (h.byt _) (byt_byteOf _) _ _
  ·exact h.byt c
 ·show updN m.L b _ c i = 0
  replace hc:m.next ≤ c:=hc
  unfold updN
  rw [if_neg (by omega)]
  exact h.zero c hc hdc i
 ·by_cases e:c = b
  ·subst e
   have e1:(m.put c (over (m.L c) (4 * k) 4 (byteOf (v:Nat)))).L c = over (m.L c) (4 * k) 4 (byteOf (v:Nat)):=if_pos rfl
   rw [e1]
   by_cases ei:i = k
   ·subst ei
    rw [g32_over _ _ _ (by omega) (by omega),Int.toNat_natCast]
    rcases hv with hv | ⟨v1,v2,v3⟩
    ·exact .inl hv
    ·exact .inr ⟨v1,v2,by omega⟩
   ·rw [g32_out _ _ _ _ _ (by omega)]
    exact h.ptr c i hdc hc hl hi
  ·have e1:(m.put b (over (m.L b) (4 * k) 4 (byteOf (v:Nat)))).L c = m.L c:=if_neg e
   rw [e1]
   exact h.ptr c i hdc hc hl hi
theorem down_wf (hs:2 ≤ x.s) (hn:x.n ≤ 2048):∀ (ks:List Nat) (b:Nat) (m:MS) (lev:Nat → Nat),m.Wf x lev → Pt x m lev ks.length b → (∀ k ∈ ks,k < 64) → ∃ lev',(down x ks b m).2.Wf x lev' ∧ Ext x m lev (down x ks b m).2 lev' ∧ Pt x (down x ks b m).2 lev' 0 (down x ks b m).1
 | [],b,m,lev,h,hb,hk => ⟨lev,h,.refl _ _,hb⟩
 | k :: ks,b,m,lev,h,hb,hk => by
  rw [down]
  by_cases h0:b = 0
  ·rw [if_pos h0]
   exact ⟨lev,h,.refl _ _,.inl rfl⟩
  rw [if_neg h0]
  have hk0:=hk k (List.mem_cons_self ..)
  have hks:∀ k ∈ ks,k < 64:=fun k' h' => hk k' (List.mem_cons_of_mem _ h')
  by_cases hv:(g32 (m.L b) (4 * k)).toNat = 0
  ·rw [if_pos hv]
   obtain ⟨lev1,a1,a2,a3⟩:=take_wf hs ks.length h
   have w1:=a1.word hn (hb.ext a2) h0 hk0 a3
   obtain ⟨lev2,b1,b2,b3⟩:=down_wf hs hn ks (m.take x).1 _ lev1 w1 (by rcases a3 with a3 | a3;exact .inl a3;exact .inr a3) hks
   exact ⟨lev2,b1,a2.trans ⟨b2.le,b2.lev⟩,b3⟩
  ·rw [if_neg hv]
   have hp:Pt x m lev ks.length (g32 (m.L b) (4 * k)).toNat:=by
    rcases hb with hb | ⟨h1,h2,h3⟩
    ·exact absurd hb h0
    ·rw [List.length_cons] at h3
     rcases h.ptr b k h1 h2 (by omega) hk0 with h' | ⟨g1,g2,g3⟩
     ·exact .inl h'
     ·exact .inr ⟨g1,g2,by omega⟩
   exact down_wf hs hn ks _ m lev h hp hks
def PtI (x:Im) (m:MS) (lev:Nat → Nat) (y:Ino):Prop:=∀ q,q < 11 → (0 ≤ y.p q ∧ y.p q < 4294967296) ∧ Pt x m lev (Im.lvl q) (y.p q).toNat
theorem PtI.ext {m m':MS} {lev lev':Nat → Nat} {y:Ino} (h:PtI x m lev y) (e:Ext x m lev m' lev'):PtI x m' lev' y:=fun q hq => ⟨(h q hq).1,(h q hq).2.ext e⟩
theorem hang_wf (hs:2 ≤ x.s) (hn:x.n ≤ 2048) {m:MS} {lev:Nat → Nat} (h:m.Wf x lev) {y:Ino} (hy:PtI x m lev y) (i:Int) :
  ∃ lev',(hang x y i m).2.2.Wf x lev' ∧ Ext x m lev (hang x y i m).2.2 lev' ∧ PtI x (hang x y i m).2.2 lev' (hang x y i m).2.1 ∧ Pt x (hang x y i m).2.2 lev' 0 (hang x y i m).1:=by
 unfold hang
 by_cases hi:i < 0 ∨ 65536 ≤ i
 ·rw [if_pos hi]
  exact ⟨lev,h,.refl _ _,hy,.inl rfl⟩
 rw [if_neg hi]
 have hi9:i.toNat < 65536:=by omega
 have hq:=Im.wayP_lt i.toNat
 have hl:=Im.wayB_len i.toNat
 have hk:=Im.wayB_lt hi9
 by_cases h0:y.p (Im.wayP i.toNat) = 0
 ·rw [if_pos h0]
  obtain ⟨lev1,a1,a2,a3⟩:=take_wf hs (Im.lvl (Im.wayP i.toNat)) h
  obtain ⟨lev2,b1,b2,b3⟩:=down_wf hs hn (Im.wayB i.toNat) (m.take x).1 _ lev1 a1 (by rw [hl];exact a3) hk
  refine ⟨lev2,b1,a2.trans b2,fun q hq' => ?_,b3⟩
  dsimp only
  by_cases e:q = Im.wayP i.toNat
  ·rw [if_pos e,e,Int.toNat_natCast]
   have:(m.take x).1 < 2048:=by
    by_cases e:(m.take x).1 = 0
    ·omega
    ·have:=a3.lt e;omega
   exact ⟨by omega,a3.ext b2⟩
  ·rw [if_neg e]
   exact ⟨(hy q hq').1,((hy q hq').2.ext a2).ext b2⟩
 ·rw [if_neg h0]
  obtain ⟨lev2,b1,b2,b3⟩:=down_wf hs hn (Im.wayB i.toNat) (y.p (Im.wayP i.toNat)).toNat m lev h (by rw [hl];exact (hy _ hq).2) hk
  exact ⟨lev2,b1,b2,hy.ext b2,b3⟩
theorem wf0 (hx:x.Ok):Wf x ⟨mkB x.g x.s x.i x.j,0⟩ (fun _ => 0):=by
 obtain ⟨h1,h2,h3,h4,h5,h6,h7,h8,h9,h10,h11⟩:=mayN hx.may
 refine ⟨fun b => mkB_byt _ _ _ _ b,fun b _ hd k => ?_,fun b k _ hb _ _ => (by cases hb),Nat.zero_le _⟩
 have hd2:=hd
 unfold Im.data Im.own at hd2
 rw [Bool.and_eq_true,Bool.and_eq_true,decide_eq_true_eq,decide_eq_true_eq,decide_eq_true_eq] at hd2
 obtain ⟨a1,a2,a3⟩:=hd2
 have hr:(b - (2 + x.j)) % x.s < x.s:=Nat.mod_lt _ (by omega)
 have:=mkB_group (g:=x.g) (i:=x.i) (γ:=(b - (2 + x.j)) / x.s) (d:=(b - (2 + x.j)) % x.s) h3 h8 hr
 have e:2 + x.j + (b - (2 + x.j)) / x.s * x.s + (b - (2 + x.j)) % x.s = b:=by
  have:=Nat.div_add_mod (b - (2 + x.j)) x.s
  rw [Nat.mul_comm] at this
  omega
 rw [e] at this
 show mkB x.g x.s x.i x.j b k = 0
 rw [this]
 rw [if_neg (by omega),if_neg (by omega),if_neg (by omega)]
end MS
end Go.Proofs.YtphamecphmbipaaGreatDoor
