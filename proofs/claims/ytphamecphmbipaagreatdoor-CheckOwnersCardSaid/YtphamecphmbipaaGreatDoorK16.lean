/- Texts of this claim, merged by a program (a claim may have 60 files): U6v, U6w. -/
import Derived.Test.YtphamecphmbipaaGreatDoorK11
namespace Go.Proofs.YtphamecphmbipaaGreatDoor
open Go.RowKit
set_option linter.unusedVariables false
structure RmS (w:World) (G S I J:Int) (p:Nat) (x y v:Int) (W:World):Prop where
 s:At W w.heap.size 23 (gcells G S I J)
 dd:At W p 67 (dcells x y v)
 bel:Below w.heap.size w W
theorem RmS.below {w:World} {G S I J:Int} {p:Nat} {x y v:Int} {W W':World} (h:RmS w G S I J p x y v W) (hb:Below W.heap.size W W'):RmS w G S I J p x y v W':=⟨h.s.below hb h.s.lt,h.dd.below hb h.dd.lt,h.bel.trans (hb.mono h.bel.size)⟩
set_option maxRecDepth 100000 in
set_option maxHeartbeats 8000000 in
theorem rsMay_any (G S I J:Int) (hm:mayG G S I J = true) (a:Option Addr) (n cap:Nat) (b i d:Nat → Int) (hn:(n:Int) ≤ 9223372036854775807) (w:World) (hr:RRow w a 3 n (df b i d)) :
  Calls Tryz.prog 99 #[gval G S I J,.slice a n cap] w fun e w' => e = .returned (.bool (mayD G S I J n b i d)) ∧ Below w.heap.size w w':=by
 have hs0:=At.new w 23 (gcells G S I J)
 have hL0:Below w.heap.size w (w.alloc (.cells (gcells G S I J) 23)):=(Below.refl _ _).alloc (Nat.le_refl _) _
 have HR:=Lib.hid hr
 have hI:4 ≤ I ∧ I ≤ 64:=by
  obtain ⟨h1,h2,h3,h4,h5,h6,h7,h8,h9,h10,h11⟩:=(mayG_iff G S I J).1 hm
  exact ⟨h5,h6⟩
 have c0:(w.alloc (.cells #[.int .i64 G,.int .i64 S,.int .i64 I,.int .i64 J] 23)).cell? ⟨w.heap.size,0,none⟩ = some (.int .i64 G):=hs0.cell (i:=0) rfl
 have HS0:=Lib.hid hs0
 have HL0:=Lib.hid hL0
 clear hr hm hs0 hL0
 go_enter Tryz.func99,Tryz.ntmps99
 by_cases hg:(n:Int) = G
 rotate_left
 ·have hg':((n:Int) != G) = true:=by simpa using hg
  have HN:Hid (mayD G S I J n b i d = false):=by show _ = _;unfold mayD;simp [hg]
  clear hg
  go_wp2_with fail
  go_ret
  exact ⟨by rw [HN.out];rfl,HL0.out⟩
 have hg':((n:Int) != G) = false:=by simpa using hg
 have HD:Hid (mayD G S I J n b i d = allB (fun k => okD (nDa G S I J) I (b k) (i k) (d k)) n):=by show _ = _;unfold mayD;simp [hg]
 have HDA:Hid (∀ W,Calls Tryz.prog 58 #[gval G S I J] W fun e w' => e = .returned (.int .i64 (nDa G S I J)) ∧ Below W.heap.size W w'):=fun W => rData5_any G S I J W
 have hda:=nDa_bd G S I J
 generalize nDa G S I J = da at *
 clear hg
 go_wp2_with fail
 clear hg' c0
 go_loopw [5] (fun u wr => ∃ k:Nat,k ≤ n ∧ u = .int .i64 (k:Int) ∧ Hid (allB (fun k => okD da I (b k) (i k) (d k)) k = true) ∧ At wr w.heap.size 23 (gcells G S I J) ∧ Below w.heap.size w wr) (fun u _ => n - (intOf u).toNat)
 case atStart => exact ⟨0,by omega,rfl,rfl,HS0.out,HL0.out⟩
 case round =>
  clear HS0 HL0
  obtain ⟨k,hk,rfl,HALL,hs,hbl⟩:=hrel
  by_cases hlt:k < n
  ·rcases HR.out.below (df_ne _ _ _ _) hbl with h0 | ⟨bb,off,rfl,hsg⟩
   ·omega
   have r0:wr.cell? ⟨bb,off + k * 3,none⟩ = some (.int .i64 (b k)):=hsg k hlt 0 _ rfl
   have r1:wr.cell? ⟨bb,off + k * 3 + 1,none⟩ = some (.int .i64 (i k)):=hsg k hlt 1 _ rfl
   have r2:wr.cell? ⟨bb,off + k * 3 + 2,none⟩ = some (.int .i64 (d k)):=hsg k hlt 2 _ rfl
   have ST:Hid (RmS w G S I J wr.heap.size (b k) (i k) (d k) (wr.alloc (.cells (dcells (b k) (i k) (d k)) 67))):=⟨hs.alloc _,At.new _ _ _,hbl.alloc hbl.size _⟩
   have HK:Hid (∀ c,okD da I (b k) (i k) (d k) = c → (c = true → allB (fun k => okD da I (b k) (i k) (d k)) (k + 1) = true) ∧ (c = false → allB (fun k => okD da I (b k) (i k) (d k)) n = false)):=fun c hc =>
    ⟨fun h => by show (allB _ k && okD da I (b k) (i k) (d k)) = true;rw [HALL.out,hc,h];rfl,fun h => allB_no hlt (by rw [hc,h])⟩
   clear hsg hs hbl HALL
   generalize b k = x at *
   generalize i k = y at *
   generalize d k = v at *
   have hd0:∀ X:InW (RmS w G S I J wr.heap.size x y v),X.W.cell? ⟨wr.heap.size,0,none⟩ = some (.int .i64 x):=fun X => X.h.dd.cell (i:=0) rfl
   have hd1:∀ X:InW (RmS w G S I J wr.heap.size x y v),X.W.cell? ⟨wr.heap.size,1,none⟩ = some (.int .i64 y):=fun X => X.h.dd.cell (i:=1) rfl
   have hd2:∀ X:InW (RmS w G S I J wr.heap.size x y v),X.W.cell? ⟨wr.heap.size,2,none⟩ = some (.int .i64 v):=fun X => X.h.dd.cell (i:=2) rfl
   have hg2:∀ X:InW (RmS w G S I J wr.heap.size x y v),X.W.cell? ⟨w.heap.size,2,none⟩ = some (.int .i64 I):=fun X => X.h.s.cell (i:=2) rfl
   by_cases h1:0 ≤ x
   rotate_left
   ·have HF:Hid (allB (fun k => okD da I (b k) (i k) (d k)) n = false):=(HK.out false (okD_no fun h => h1 (h.1))).2 rfl
    have q1:decide (x < 0) = true:=by rw [decide_eq_true_eq];omega
    go_wp2_with fail
    refine wp_region_S (RmS w G S I J wr.heap.size x y v) (by kernel_rfl) (by kernel_rfl) ⟨ST.out.s,ST.out.dd,ST.out.bel.drew⟩ ?_
    intro hne
    repeat first | go_big_quiet_skip | (go_big_quiet_want;go_big_quiet_op;go_big_quiet_on)
    refine wpQuiet_nil ?_
    intro w6 h6
    have st6:=h6.out
    clear h6 hne hd0 hd1 hd2 hg2
    go_wp2_with fail
    go_ret
    exact ⟨by rw [HD.out,HF.out];rfl,st6.bel⟩
   have q1:decide (x < 0) = false:=by rw [decide_eq_false_iff_not];omega
   by_cases h2:x ≤ da
   rotate_left
   ·have HF:Hid (allB (fun k => okD da I (b k) (i k) (d k)) n = false):=(HK.out false (okD_no fun h => h2 (h.2.1))).2 rfl
    have q2:decide (da < x) = true:=by rw [decide_eq_true_eq];omega
    go_wp2_with fail
    refine wp_region_S (RmS w G S I J wr.heap.size x y v) (by kernel_rfl) (by kernel_rfl) ⟨ST.out.s,ST.out.dd,ST.out.bel.drew⟩ ?_
    intro hne
    first | go_big_quiet_skip | (go_big_quiet_want;go_big_quiet_op;go_big_quiet_on)
    first | go_big_quiet_skip | (go_big_quiet_want;go_big_quiet_op;go_big_quiet_on)
    first | go_big_quiet_skip | (go_big_quiet_want;go_big_quiet_op;go_big_quiet_on)
    first | go_big_quiet_skip | (go_big_quiet_want;go_big_quiet_op;go_big_quiet_on)
    first | go_big_quiet_skip | (go_big_quiet_want;go_big_quiet_op;go_big_quiet_on)
    first | go_big_quiet_skip | (go_big_quiet_want;go_big_quiet_op;go_big_quiet_on)
    refine q_load rfl 23 _ rfl _ _ rfl (gcells G S I J).toList _ (fun W h => h.s.range) Tryz.underlying23 rfl (by kernel_rfl) ?_
    refine wpQuiet_frame (by simp only [Act.put,List.setIfInBounds_toArray,List.set_cons_succ,List.set_cons_zero];exact rfl) ?_
    go_big_quiet_want
    go_big_quiet_op
    refine ⟨_,fun s => q_call s (fun W hW => (HDA.out W).mono fun e w' h => ⟨h.1,hW.below h.2⟩),?_⟩
    go_big_quiet_on
    repeat first | go_big_quiet_skip | (go_big_quiet_want;go_big_quiet_op;go_big_quiet_on)
    refine wpQuiet_nil ?_
    intro w6 h6
    have st6:=h6.out
    clear h6 hne hd0 hd1 hd2 hg2
    go_wp2_with fail
    go_ret
    exact ⟨by rw [HD.out,HF.out];rfl,st6.bel⟩
   have q2:decide (da < x) = false:=by rw [decide_eq_false_iff_not];omega
   by_cases h3:0 ≤ y
   rotate_left
   ·have HF:Hid (allB (fun k => okD da I (b k) (i k) (d k)) n = false):=(HK.out false (okD_no fun h => h3 (h.2.2.1))).2 rfl
    have q3:decide (y < 0) = true:=by rw [decide_eq_true_eq];omega
    go_wp2_with fail
    refine wp_region_S (RmS w G S I J wr.heap.size x y v) (by kernel_rfl) (by kernel_rfl) ⟨ST.out.s,ST.out.dd,ST.out.bel.drew⟩ ?_
    intro hne
    first | go_big_quiet_skip | (go_big_quiet_want;go_big_quiet_op;go_big_quiet_on)
    first | go_big_quiet_skip | (go_big_quiet_want;go_big_quiet_op;go_big_quiet_on)
    first | go_big_quiet_skip | (go_big_quiet_want;go_big_quiet_op;go_big_quiet_on)
    first | go_big_quiet_skip | (go_big_quiet_want;go_big_quiet_op;go_big_quiet_on)
    first | go_big_quiet_skip | (go_big_quiet_want;go_big_quiet_op;go_big_quiet_on)
    first | go_big_quiet_skip | (go_big_quiet_want;go_big_quiet_op;go_big_quiet_on)
    refine q_load rfl 23 _ rfl _ _ rfl (gcells G S I J).toList _ (fun W h => h.s.range) Tryz.underlying23 rfl (by kernel_rfl) ?_
    refine wpQuiet_frame (by simp only [Act.put,List.setIfInBounds_toArray,List.set_cons_succ,List.set_cons_zero];exact rfl) ?_
    go_big_quiet_want
    go_big_quiet_op
    refine ⟨_,fun s => q_call s (fun W hW => (HDA.out W).mono fun e w' h => ⟨h.1,hW.below h.2⟩),?_⟩
    go_big_quiet_on
    repeat first | go_big_quiet_skip | (go_big_quiet_want;go_big_quiet_op;go_big_quiet_on)
    refine wpQuiet_nil ?_
    intro w6 h6
    have st6:=h6.out
    clear h6 hne hd0 hd1 hd2 hg2
    go_wp2_with fail
    go_ret
    exact ⟨by rw [HD.out,HF.out];rfl,st6.bel⟩
   have q3:decide (y < 0) = false:=by rw [decide_eq_false_iff_not];omega
   by_cases h4:0 ≤ v
   rotate_left
   ·have HF:Hid (allB (fun k => okD da I (b k) (i k) (d k)) n = false):=(HK.out false (okD_no fun h => h4 (h.2.2.2.2.1))).2 rfl
    have q4:decide (v < 0) = true:=by rw [decide_eq_true_eq];omega
    go_wp2_with fail
    refine wp_region_S (RmS w G S I J wr.heap.size x y v) (by kernel_rfl) (by kernel_rfl) ⟨ST.out.s,ST.out.dd,ST.out.bel.drew⟩ ?_
    intro hne
    first | go_big_quiet_skip | (go_big_quiet_want;go_big_quiet_op;go_big_quiet_on)
    first | go_big_quiet_skip | (go_big_quiet_want;go_big_quiet_op;go_big_quiet_on)
    first | go_big_quiet_skip | (go_big_quiet_want;go_big_quiet_op;go_big_quiet_on)
    first | go_big_quiet_skip | (go_big_quiet_want;go_big_quiet_op;go_big_quiet_on)
    first | go_big_quiet_skip | (go_big_quiet_want;go_big_quiet_op;go_big_quiet_on)
    first | go_big_quiet_skip | (go_big_quiet_want;go_big_quiet_op;go_big_quiet_on)
    refine q_load rfl 23 _ rfl _ _ rfl (gcells G S I J).toList _ (fun W h => h.s.range) Tryz.underlying23 rfl (by kernel_rfl) ?_
    refine wpQuiet_frame (by simp only [Act.put,List.setIfInBounds_toArray,List.set_cons_succ,List.set_cons_zero];exact rfl) ?_
    go_big_quiet_want
    go_big_quiet_op
    refine ⟨_,fun s => q_call s (fun W hW => (HDA.out W).mono fun e w' h => ⟨h.1,hW.below h.2⟩),?_⟩
    go_big_quiet_on
    repeat first | go_big_quiet_skip | (go_big_quiet_want;go_big_quiet_op;go_big_quiet_on)
    refine wpQuiet_nil ?_
    intro w6 h6
    have st6:=h6.out
    clear h6 hne hd0 hd1 hd2 hg2
    go_wp2_with fail
    go_ret
    exact ⟨by rw [HD.out,HF.out];rfl,st6.bel⟩
   have q4:decide (v < 0) = false:=by rw [decide_eq_false_iff_not];omega
   by_cases h5:y ≤ I
   rotate_left
   ·have HF:Hid (allB (fun k => okD da I (b k) (i k) (d k)) n = false):=(HK.out false (okD_no fun h => h5 (h.2.2.2.1))).2 rfl
    have q5:decide (I < y) = true:=by rw [decide_eq_true_eq];omega
    go_wp2_with fail
    refine wp_region_S (RmS w G S I J wr.heap.size x y v) (by kernel_rfl) (by kernel_rfl) ⟨ST.out.s,ST.out.dd,ST.out.bel.drew⟩ ?_
    intro hne
    first | go_big_quiet_skip | (go_big_quiet_want;go_big_quiet_op;go_big_quiet_on)
    first | go_big_quiet_skip | (go_big_quiet_want;go_big_quiet_op;go_big_quiet_on)
    first | go_big_quiet_skip | (go_big_quiet_want;go_big_quiet_op;go_big_quiet_on)
    first | go_big_quiet_skip | (go_big_quiet_want;go_big_quiet_op;go_big_quiet_on)
    first | go_big_quiet_skip | (go_big_quiet_want;go_big_quiet_op;go_big_quiet_on)
    first | go_big_quiet_skip | (go_big_quiet_want;go_big_quiet_op;go_big_quiet_on)
    refine q_load rfl 23 _ rfl _ _ rfl (gcells G S I J).toList _ (fun W h => h.s.range) Tryz.underlying23 rfl (by kernel_rfl) ?_
    refine wpQuiet_frame (by simp only [Act.put,List.setIfInBounds_toArray,List.set_cons_succ,List.set_cons_zero];exact rfl) ?_
    go_big_quiet_want
    go_big_quiet_op
    refine ⟨_,fun s => q_call s (fun W hW => (HDA.out W).mono fun e w' h => ⟨h.1,hW.below h.2⟩),?_⟩
    go_big_quiet_on
    repeat first | go_big_quiet_skip | (go_big_quiet_want;go_big_quiet_op;go_big_quiet_on)
    refine wpQuiet_nil ?_
    intro w6 h6
    have st6:=h6.out
    clear h6 hne hd0 hd1 hd2 hg2
    go_wp2_with fail
    go_ret
    exact ⟨by rw [HD.out,HF.out];rfl,st6.bel⟩
   have q5:decide (I < y) = false:=by rw [decide_eq_false_iff_not];omega
   by_cases h6:v ≤ I
   rotate_left
   ·have HF:Hid (allB (fun k => okD da I (b k) (i k) (d k)) n = false):=(HK.out false (okD_no fun h => by omega)).2 rfl
    have q6:decide (I < v) = true:=by rw [decide_eq_true_eq];omega
    go_wp2_with fail
    refine wp_region_S (RmS w G S I J wr.heap.size x y v) (by kernel_rfl) (by kernel_rfl) ⟨ST.out.s,ST.out.dd,ST.out.bel.drew⟩ ?_
    intro hne
    first | go_big_quiet_skip | (go_big_quiet_want;go_big_quiet_op;go_big_quiet_on)
    first | go_big_quiet_skip | (go_big_quiet_want;go_big_quiet_op;go_big_quiet_on)
    first | go_big_quiet_skip | (go_big_quiet_want;go_big_quiet_op;go_big_quiet_on)
    first | go_big_quiet_skip | (go_big_quiet_want;go_big_quiet_op;go_big_quiet_on)
    first | go_big_quiet_skip | (go_big_quiet_want;go_big_quiet_op;go_big_quiet_on)
    first | go_big_quiet_skip | (go_big_quiet_want;go_big_quiet_op;go_big_quiet_on)
    refine q_load rfl 23 _ rfl _ _ rfl (gcells G S I J).toList _ (fun W h => h.s.range) Tryz.underlying23 rfl (by kernel_rfl) ?_
    refine wpQuiet_frame (by simp only [Act.put,List.setIfInBounds_toArray,List.set_cons_succ,List.set_cons_zero];exact rfl) ?_
    go_big_quiet_want
    go_big_quiet_op
    refine ⟨_,fun s => q_call s (fun W hW => (HDA.out W).mono fun e w' h => ⟨h.1,hW.below h.2⟩),?_⟩
    go_big_quiet_on
    repeat first | go_big_quiet_skip | (go_big_quiet_want;go_big_quiet_op;go_big_quiet_on)
    refine wpQuiet_nil ?_
    intro w6 h6
    have st6:=h6.out
    clear h6 hne hd0 hd1 hd2 hg2
    go_wp2_with fail
    go_ret
    exact ⟨by rw [HD.out,HF.out];rfl,st6.bel⟩
   have q6:decide (I < v) = false:=by rw [decide_eq_false_iff_not];omega
   by_cases h7:y + v ≤ I
   rotate_left
   ·have HF:Hid (allB (fun k => okD da I (b k) (i k) (d k)) n = false):=(HK.out false (okD_no fun h => by omega)).2 rfl
    have q7:decide (I < y + v) = true:=by rw [decide_eq_true_eq];omega
    go_wp2_with fail
    refine wp_region_S (RmS w G S I J wr.heap.size x y v) (by kernel_rfl) (by kernel_rfl) ⟨ST.out.s,ST.out.dd,ST.out.bel.drew⟩ ?_
    intro hne
    first | go_big_quiet_skip | (go_big_quiet_want;go_big_quiet_op;go_big_quiet_on)
    first | go_big_quiet_skip | (go_big_quiet_want;go_big_quiet_op;go_big_quiet_on)
    first | go_big_quiet_skip | (go_big_quiet_want;go_big_quiet_op;go_big_quiet_on)
    first | go_big_quiet_skip | (go_big_quiet_want;go_big_quiet_op;go_big_quiet_on)
    first | go_big_quiet_skip | (go_big_quiet_want;go_big_quiet_op;go_big_quiet_on)
    first | go_big_quiet_skip | (go_big_quiet_want;go_big_quiet_op;go_big_quiet_on)
    refine q_load rfl 23 _ rfl _ _ rfl (gcells G S I J).toList _ (fun W h => h.s.range) Tryz.underlying23 rfl (by kernel_rfl) ?_
    refine wpQuiet_frame (by simp only [Act.put,List.setIfInBounds_toArray,List.set_cons_succ,List.set_cons_zero];exact rfl) ?_
    go_big_quiet_want
    go_big_quiet_op
    refine ⟨_,fun s => q_call s (fun W hW => (HDA.out W).mono fun e w' h => ⟨h.1,hW.below h.2⟩),?_⟩
    go_big_quiet_on
    repeat first | go_big_quiet_skip | (go_big_quiet_want;go_big_quiet_op;go_big_quiet_on)
    refine wpQuiet_nil ?_
    intro w6 h6
    have st6:=h6.out
    clear h6 hne hd0 hd1 hd2 hg2
    go_wp2_with fail
    go_ret
    exact ⟨by rw [HD.out,HF.out];rfl,st6.bel⟩
   have q7:decide (I < y + v) = false:=by rw [decide_eq_false_iff_not];omega
   have HY:Hid (allB (fun k => okD da I (b k) (i k) (d k)) (k + 1) = true):=(HK.out true ((okD_iff _ _ _ _ _).2 ⟨h1,h2,h3,h5,h4,by omega⟩)).1 rfl
   go_wp2_with fail
   refine wp_region_S (RmS w G S I J wr.heap.size x y v) (by kernel_rfl) (by kernel_rfl) ⟨ST.out.s,ST.out.dd,ST.out.bel.drew⟩ ?_
   intro hne
   first | go_big_quiet_skip | (go_big_quiet_want;go_big_quiet_op;go_big_quiet_on)
   first | go_big_quiet_skip | (go_big_quiet_want;go_big_quiet_op;go_big_quiet_on)
   first | go_big_quiet_skip | (go_big_quiet_want;go_big_quiet_op;go_big_quiet_on)
   first | go_big_quiet_skip | (go_big_quiet_want;go_big_quiet_op;go_big_quiet_on)
   first | go_big_quiet_skip | (go_big_quiet_want;go_big_quiet_op;go_big_quiet_on)
   first | go_big_quiet_skip | (go_big_quiet_want;go_big_quiet_op;go_big_quiet_on)
   refine q_load rfl 23 _ rfl _ _ rfl (gcells G S I J).toList _ (fun W h => h.s.range) Tryz.underlying23 rfl (by kernel_rfl) ?_
   refine wpQuiet_frame (by simp only [Act.put,List.setIfInBounds_toArray,List.set_cons_succ,List.set_cons_zero];exact rfl) ?_
   go_big_quiet_want
   go_big_quiet_op
   refine ⟨_,fun s => q_call s (fun W hW => (HDA.out W).mono fun e w' h => ⟨h.1,hW.below h.2⟩),?_⟩
   go_big_quiet_on
   repeat first | go_big_quiet_skip | (go_big_quiet_want;go_big_quiet_op;go_big_quiet_on)
   refine wpQuiet_nil ?_
   intro w6 h6
   have st6:=h6.out
   clear h6 hne hd0 hd1 hd2 hg2
   go_wp2_with fail
   go_roundw
   case rel => first | exact ⟨k + 1,by omega,by go_num,HY,st6.s,st6.bel⟩ | exact ⟨k + 1,by omega,rfl,HY,st6.s,st6.bel⟩
   case measure => simp [intOf];omega
  ·obtain rfl:k = n:=by omega
   go_wp2_with fail
   go_ret
   exact ⟨by rw [HD.out,HALL.out];rfl,hbl⟩
structure WdC (w:World) (G S I J:Int) (g bb off n:Nat) (f:Nat → List Value) (l:Nat → Int) (k:Nat) (v:Int) (j:Nat) (W:World):Prop where
 s:At W w.heap.size 23 (gcells G S I J)
 r:Blk W (w.heap.size + 1) 32 256 (fun _ => 0)
 b:Blk W g 32 256 (hz (if j = 0 then l else upd l k v))
 q:RSeg W bb off 3 n f
 bel:Below w.heap.size w W
structure WdR (w:World) (G S I J:Int) (g:Nat) (l:Nat → Int) (W:World):Prop where
 s:At W w.heap.size 23 (gcells G S I J)
 r:Blk W (w.heap.size + 1) 32 256 (fun _ => 0)
 b:Blk W g 32 256 (hz l)
 bel:Below w.heap.size w W
set_option maxRecDepth 100000 in
set_option maxHeartbeats 8000000 in
theorem rsWriteDescs_any (G S I J:Int) (a:Option Addr) (n cap:Nat) (b i d:Nat → Int) (hn:(n:Int) ≤ 9223372036854775807) (w:World) (hr:RRow w a 3 n (df b i d)) :
  Calls Tryz.prog 61 #[gval G S I J,.slice a n cap] w fun e w' => e = .returned (.tuple #[bval (descZ G S I J n b i d),.int .i64 (descE G S I J n b i d)]) ∧ Below w.heap.size w w':=by
 have hal:=zero_block
 have HR:=Lib.hid hr
 obtain ⟨W,hW⟩:∃ W,W = (w.alloc (.cells (gcells G S I J) 23)).alloc (.cells (Ks .u8 256 (fun _ => 0)).toArray 32):=⟨_,rfl⟩
 have hS:At W w.heap.size 23 (gcells G S I J):=by rw [hW];exact (At.new w _ _).alloc _
 have hRb:Blk W (w.heap.size + 1) 32 256 (fun _ => 0):=by
  rw [hW]
  have:=Blk.new (w.alloc (.cells (gcells G S I J) 23)) 32 256 (fun _ => 0)
  simp only [World.size_alloc] at this
  exact this
 have hL:Below w.heap.size w W:=by rw [hW];exact ((Below.refl _ _).alloc (Nat.le_refl _) _).alloc (by simp) _
 have HW:=Lib.hid hW
 clear hW hr
 go_enter Tryz.func61,Tryz.ntmps61
 have hS0:At ((w.alloc (.cells (gcells G S I J) 23)).alloc (.cells (Ks .u8 256 (fun _ => 0)).toArray 32)) w.heap.size 23 (gcells G S I J):=(At.new w _ _).alloc _
 go_wp2_with (first | (refine wp_loadAtG rfl 23 (.tmp 2) rfl _ _ _ rfl hS0 Tryz.underlying23 rfl (by kernel_rfl) ?_))
 rw [← HW.out]
 clear HW hS0
 refine (rMay5_any G S I J W).mono ?_
 rintro e w1 ⟨rfl,hb1⟩
 have hS1:=hS.below hb1 hS.lt
 have hR1:=hRb.below hb1 hRb.lt
 have hL1:Below w.heap.size w w1:=hL.trans (hb1.mono hL.size)
 clear hS hRb hL hb1
 cases hm:mayG G S I J with
 | false =>
  have HO:Hid (descOk G S I J n b i d = false ∧ descE G S I J n b i d = 50):=by show _ ∧ _;unfold descOk descE;rw [hm];exact ⟨rfl,rfl⟩
  clear hm
  go_wp2_with (first | (refine wp_storeBlk rfl (.tmp 4) (.tmp 11) rfl (w.heap.size + 1) (fun _ => 0) _ rfl rfl hR1 ?_))
  intro w2 hR2 ho2
  go_wp2_with fail
  exact bodyPost_ret (results_blk2 rfl _ _ (w.heap.size + 1) _ rfl hR2) rfl ⟨by rw [descZ,HO.out.1,HO.out.2];rfl,hL1.trans (ho2.below (by omega))⟩
 | true =>
 have HM:=Lib.hid hm
 clear hm
 go_wp2_with (first | (refine wp_loadAtG rfl 23 (.tmp 2) rfl _ _ _ rfl hS1 Tryz.underlying23 rfl (by kernel_rfl) ?_))
 refine (rsMay_any G S I J HM.out a n cap b i d hn w1 (HR.out.below (df_ne _ _ _ _) hL1)).mono ?_
 rintro e w2 ⟨rfl,hb2⟩
 have hS2:=hS1.below hb2 hS1.lt
 have hR2:=hR1.below hb2 hR1.lt
 have hL2:Below w.heap.size w w2:=hL1.trans (hb2.mono hL1.size)
 have hsz:=hR2.lt
 clear hS1 hR1 hL1 hb2
 cases ho:mayD G S I J n b i d with
 | false =>
  have HO:Hid (descOk G S I J n b i d = false ∧ descE G S I J n b i d = 2):=by
   show _ ∧ _
   unfold descOk descE;rw [HM.out,ho];exact ⟨rfl,rfl⟩
  clear ho
  go_wp2_with (first | (refine wp_storeBlk rfl (.tmp 4) (.tmp 16) rfl (w.heap.size + 1) (fun _ => 0) _ rfl rfl hR2 ?_))
  intro w3 hR3 ho3
  go_wp2_with fail
  exact bodyPost_ret (results_blk2 rfl _ _ (w.heap.size + 1) _ rfl hR3) rfl ⟨by rw [descZ,HO.out.1,HO.out.2];rfl,hL2.trans (ho3.below (by omega))⟩
 | true =>
 have HO:Hid (descOk G S I J n b i d = true ∧ descE G S I J n b i d = 0):=by
  show _ ∧ _
  unfold descOk descE;rw [HM.out,ho];exact ⟨rfl,rfl⟩
 have HMD:=Lib.hid (mayD_iff HM.out ho).2.2
 have hn4:=(mayD_iff HM.out ho).2.1
 clear ho
 obtain ⟨g,hg⟩:∃ g,g = w2.heap.size:=⟨_,rfl⟩
 have hg2:w.heap.size + 2 ≤ g:=by omega
 have st0:Hid (WdR w G S I J g (dH b i d 0) (w2.alloc (.cells (Ks .u8 256 (fun _ => 0)).toArray 32))) :=
  ⟨hS2.alloc _,hR2.alloc _,by rw [hg];exact (Blk.new w2 _ _ _).congr fun i _ => (hz_zero i).symm,hL2.alloc hL2.size _⟩
 clear hS2 hR2 hL2 hsz
 go_wp2_with fail
 rw [← hg]
 clear hg
 have hsa:=fun W => run_sliceBlkAll g 0 W
 go_loopw [7] (fun u wr => ∃ k:Nat,k ≤ n ∧ u = .int .i64 (k:Int) ∧ WdR w G S I J g (dH b i d k) wr) (fun u _ => n - (intOf u).toNat)
 case atStart => exact ⟨0,by omega,rfl,st0.out⟩
 case round =>
  clear st0
  obtain ⟨k,hk,rfl,st⟩:=hrel
  by_cases hlt:k < n
  ·rcases HR.out with h0 | ⟨bb,off,rfl,hsg0⟩
   ·omega
   have hbb:bb < w.heap.size:=hsg0.lt (by omega) (df_ne _ _ _ _)
   have hsg:=hsg0.below st.bel hbb
   have HB:=Lib.hid (HMD.out k hlt)
   obtain ⟨x,hx⟩:∃ x,b k = x:=⟨_,rfl⟩
   obtain ⟨y,hy⟩:∃ y,i k = y:=⟨_,rfl⟩
   obtain ⟨v,hv⟩:∃ v,d k = v:=⟨_,rfl⟩
   have hx0:=Lib.hid hx
   have hx1:=Lib.hid hy
   have hx2:=Lib.hid hv
   rw [hx,hy,hv] at HB
   obtain ⟨⟨q1,q2⟩,⟨q3,q4⟩,⟨q5,q6⟩⟩:=HB.out
   clear hx hy hv hsg0 HB
   obtain ⟨l0,hl0⟩:∃ l,l = dH b i d k:=⟨_,rfl⟩
   rw [← hl0] at st
   have HL0:=Lib.hid hl0
   have st0:WdC w G S I J g bb off n (df b i d) l0 0 0 0 wr:=⟨st.s,st.r,st.b,hsg,st.bel⟩
   clear hl0 st hsg
   have e0:IntKind.i64.wrap (8 * (k:Int)) = 8 * (k:Int):=IntWalk.i64_in _ (by omega)
   have e1:IntKind.i64.wrap (8 * (k:Int) + 2) = 8 * (k:Int) + 2:=IntWalk.i64_in _ (by omega)
   have e2:IntKind.i64.wrap (8 * (k:Int) + 4) = 8 * (k:Int) + 4:=IntWalk.i64_in _ (by omega)
   have m1:x % 4294967296 = x:=by omega
   have m2:y % 4294967296 = y:=by omega
   have m3:v % 4294967296 = v:=by omega
   have l9:(0:Int) ≤ (k:Int):=by omega
   have l8:(k:Int) < (n:Int):=by omega
   have hf0:∀ X:InW (fun W => ∃ j,WdC w G S I J g bb off n (df b i d) l0 (4 * k + 0) x j W),X.W.cell? ⟨bb,off + k * 3,none⟩ = some (.int .i64 x):=fun X => by obtain ⟨j,h⟩:=X.h;have:=h.q k hlt 0 _ rfl;rw [hx0.out] at this;exact this
   go_wp2_with fail
   refine wp_region_lin (WdC w G S I J g bb off n (df b i d) l0 (4 * k + 0) x) (by kernel_rfl) (by kernel_rfl) (by kernel_rfl) ⟨st0.s,st0.r,st0.b,st0.q,st0.bel.drew⟩ ?_
   clear st0
   intro hne
   (refine lin_take 9 (by kernel_rfl) ?_;simp only [List.take_succ_cons,List.take_zero,List.drop_succ_cons,List.drop_zero])
   first | go_big_quiet_skip | (go_big_quiet_want;go_big_quiet_op;go_big_quiet_on)
   first | go_big_quiet_skip | (go_big_quiet_want;go_big_quiet_op;go_big_quiet_on)
   first | go_big_quiet_skip | (go_big_quiet_want;go_big_quiet_op;go_big_quiet_on)
   first | go_big_quiet_skip | (go_big_quiet_want;go_big_quiet_op;go_big_quiet_on)
   first | go_big_quiet_skip | (go_big_quiet_want;go_big_quiet_op;go_big_quiet_on)
   first | go_big_quiet_skip | (go_big_quiet_want;go_big_quiet_op;go_big_quiet_on)
   first | go_big_quiet_skip | (go_big_quiet_want;go_big_quiet_op;go_big_quiet_on)
   first | go_big_quiet_skip | (go_big_quiet_want;go_big_quiet_op;go_big_quiet_on)
   first | go_big_quiet_skip | (go_big_quiet_want;go_big_quiet_op;go_big_quiet_on)
   refine wpQuiet_nil ?_
   refine lin_call rfl rfl 97 #[.slice (some ⟨g,0,none⟩) 256 256,.int .i64 (8 * (k:Int)),.int .u32 x] (.bool true) (fun W => by kernel_rfl) (fun W h => ?c0) ?_
   case c0 =>
    refine (rputH g l0 (4 * k + 0) (8 * (k:Int)) x (by omega) (by omega) (by omega) (by omega) W h.b).mono ?_
    rintro e w6 ⟨rfl,hB6,ho6⟩
    exact ⟨rfl,h.s.only ho6 (by omega),h.r.only ho6 (by omega),hB6,fun i hi j u hu => (ho6.cell (p:=⟨bb,off + i * 3 + j,none⟩) (by show bb ≠ g;omega)).trans (h.q i hi j u hu),h.bel.trans (ho6.below (by omega))⟩
   refine wpLin_frame (by simp only [Act.put,List.setIfInBounds_toArray,List.set_cons_succ,List.set_cons_zero];exact rfl) ?_
   refine wpLin_nil ?_
   intro w20 st0'
   have st1:WdC w G S I J g bb off n (df b i d) (upd l0 (4 * k + 0) x) 0 0 0 w20:=⟨st0'.s,st0'.r,st0'.b,st0'.q,st0'.bel⟩
   clear hne hf0 st0'
   obtain ⟨l1,hl1⟩:∃ l,l = upd l0 (4 * k + 0) x:=⟨_,rfl⟩
   rw [← hl1] at st1
   have HL1:=Lib.hid hl1
   clear hl1
   have hf1:∀ X:InW (fun W => ∃ j,WdC w G S I J g bb off n (df b i d) l1 (4 * k + 1) y j W),X.W.cell? ⟨bb,off + k * 3 + 1,none⟩ = some (.int .i64 y):=fun X => by obtain ⟨j,h⟩:=X.h;have:=h.q k hlt 1 _ rfl;rw [hx1.out] at this;exact this
   go_wp2_with fail
   refine wp_region_lin (WdC w G S I J g bb off n (df b i d) l1 (4 * k + 1) y) (by kernel_rfl) (by kernel_rfl) (by kernel_rfl) ⟨st1.s,st1.r,st1.b,st1.q,st1.bel.drew⟩ ?_
   clear st1
   intro hne
   (refine lin_take 10 (by kernel_rfl) ?_;simp only [List.take_succ_cons,List.take_zero,List.drop_succ_cons,List.drop_zero])
   first | go_big_quiet_skip | (go_big_quiet_want;go_big_quiet_op;go_big_quiet_on)
   first | go_big_quiet_skip | (go_big_quiet_want;go_big_quiet_op;go_big_quiet_on)
   first | go_big_quiet_skip | (go_big_quiet_want;go_big_quiet_op;go_big_quiet_on)
   first | go_big_quiet_skip | (go_big_quiet_want;go_big_quiet_op;go_big_quiet_on)
   first | go_big_quiet_skip | (go_big_quiet_want;go_big_quiet_op;go_big_quiet_on)
   first | go_big_quiet_skip | (go_big_quiet_want;go_big_quiet_op;go_big_quiet_on)
   first | go_big_quiet_skip | (go_big_quiet_want;go_big_quiet_op;go_big_quiet_on)
   first | go_big_quiet_skip | (go_big_quiet_want;go_big_quiet_op;go_big_quiet_on)
   first | go_big_quiet_skip | (go_big_quiet_want;go_big_quiet_op;go_big_quiet_on)
   first | go_big_quiet_skip | (go_big_quiet_want;go_big_quiet_op;go_big_quiet_on)
   refine wpQuiet_nil ?_
   refine lin_call rfl rfl 97 #[.slice (some ⟨g,0,none⟩) 256 256,.int .i64 (8 * (k:Int) + 2),.int .u32 y] (.bool true) (fun W => by kernel_rfl) (fun W h => ?c1) ?_
   case c1 =>
    refine (rputH g l1 (4 * k + 1) (8 * (k:Int) + 2) y (by omega) (by omega) (by omega) (by omega) W h.b).mono ?_
    rintro e w6 ⟨rfl,hB6,ho6⟩
    exact ⟨rfl,h.s.only ho6 (by omega),h.r.only ho6 (by omega),hB6,fun i hi j u hu => (ho6.cell (p:=⟨bb,off + i * 3 + j,none⟩) (by show bb ≠ g;omega)).trans (h.q i hi j u hu),h.bel.trans (ho6.below (by omega))⟩
   refine wpLin_frame (by simp only [Act.put,List.setIfInBounds_toArray,List.set_cons_succ,List.set_cons_zero];exact rfl) ?_
   refine wpLin_nil ?_
   intro w21 st1'
   have st2:WdC w G S I J g bb off n (df b i d) (upd l1 (4 * k + 1) y) 0 0 0 w21:=⟨st1'.s,st1'.r,st1'.b,st1'.q,st1'.bel⟩
   clear hne hf1 st1'
   obtain ⟨l2,hl2⟩:∃ l,l = upd l1 (4 * k + 1) y:=⟨_,rfl⟩
   rw [← hl2] at st2
   have HL2:=Lib.hid hl2
   clear hl2
   have hf2:∀ X:InW (fun W => ∃ j,WdC w G S I J g bb off n (df b i d) l2 (4 * k + 2) v j W),X.W.cell? ⟨bb,off + k * 3 + 2,none⟩ = some (.int .i64 v):=fun X => by obtain ⟨j,h⟩:=X.h;have:=h.q k hlt 2 _ rfl;rw [hx2.out] at this;exact this
   go_wp2_with fail
   refine wp_region_lin (WdC w G S I J g bb off n (df b i d) l2 (4 * k + 2) v) (by kernel_rfl) (by kernel_rfl) (by kernel_rfl) ⟨st2.s,st2.r,st2.b,st2.q,st2.bel.drew⟩ ?_
   clear st2
   intro hne
   (refine lin_take 10 (by kernel_rfl) ?_;simp only [List.take_succ_cons,List.take_zero,List.drop_succ_cons,List.drop_zero])
   first | go_big_quiet_skip | (go_big_quiet_want;go_big_quiet_op;go_big_quiet_on)
   first | go_big_quiet_skip | (go_big_quiet_want;go_big_quiet_op;go_big_quiet_on)
   first | go_big_quiet_skip | (go_big_quiet_want;go_big_quiet_op;go_big_quiet_on)
   first | go_big_quiet_skip | (go_big_quiet_want;go_big_quiet_op;go_big_quiet_on)
   first | go_big_quiet_skip | (go_big_quiet_want;go_big_quiet_op;go_big_quiet_on)
   first | go_big_quiet_skip | (go_big_quiet_want;go_big_quiet_op;go_big_quiet_on)
   first | go_big_quiet_skip | (go_big_quiet_want;go_big_quiet_op;go_big_quiet_on)
   first | go_big_quiet_skip | (go_big_quiet_want;go_big_quiet_op;go_big_quiet_on)
   first | go_big_quiet_skip | (go_big_quiet_want;go_big_quiet_op;go_big_quiet_on)
   first | go_big_quiet_skip | (go_big_quiet_want;go_big_quiet_op;go_big_quiet_on)
   refine wpQuiet_nil ?_
   refine lin_call rfl rfl 97 #[.slice (some ⟨g,0,none⟩) 256 256,.int .i64 (8 * (k:Int) + 4),.int .u32 v] (.bool true) (fun W => by kernel_rfl) (fun W h => ?c2) ?_
   case c2 =>
    refine (rputH g l2 (4 * k + 2) (8 * (k:Int) + 4) v (by omega) (by omega) (by omega) (by omega) W h.b).mono ?_
    rintro e w6 ⟨rfl,hB6,ho6⟩
    exact ⟨rfl,h.s.only ho6 (by omega),h.r.only ho6 (by omega),hB6,fun i hi j u hu => (ho6.cell (p:=⟨bb,off + i * 3 + j,none⟩) (by show bb ≠ g;omega)).trans (h.q i hi j u hu),h.bel.trans (ho6.below (by omega))⟩
   refine wpLin_frame (by simp only [Act.put,List.setIfInBounds_toArray,List.set_cons_succ,List.set_cons_zero];exact rfl) ?_
   refine wpLin_nil ?_
   intro w22 st2'
   have st3:WdC w G S I J g bb off n (df b i d) (upd l2 (4 * k + 2) v) 0 0 0 w22:=⟨st2'.s,st2'.r,st2'.b,st2'.q,st2'.bel⟩
   clear hne hf2 st2'
   obtain ⟨l3,hl3⟩:∃ l,l = upd l2 (4 * k + 2) v:=⟨_,rfl⟩
   rw [← hl3] at st3
   have HL3:=Lib.hid hl3
   clear hl3
   have st':WdR w G S I J g (dH b i d (k + 1)) w22:=⟨st3.s,st3.r,by have:=st3.b;rw [if_pos rfl,HL3.out,HL2.out,HL1.out,HL0.out,← hx0.out,← hx1.out,← hx2.out] at this;exact this,st3.bel⟩
   clear st3 HL0 HL1 HL2 HL3
   go_wp2_with fail
   go_roundw
   case rel => first | exact ⟨k + 1,by omega,by go_num,st'⟩ | exact ⟨k + 1,by omega,rfl,st'⟩
   case measure => simp [intOf];omega
  ·obtain rfl:k = n:=by omega
   have hb:=st.b
   go_wp2_with (first | (refine wp_loadBlkG rfl (.tmp 6) rfl g _ rfl hb ?_))
   refine (rsealed_any _ (hz_byt _) _).mono ?_
   rintro e w8 ⟨rfl,hb8⟩
   have hR8:=st.r.below hb8 st.r.lt
   have hL8:Below w.heap.size w w8:=st.bel.trans (hb8.mono st.bel.size)
   clear st hb hb8
   go_wp2_with (first | (refine wp_storeBlk rfl (.tmp 4) (.tmp 56) rfl (w.heap.size + 1) (sealZ (hz (dH b i d k))) _ rfl rfl hR8 ?_))
   intro w9 hR9 ho9
   go_wp2_with fail
   exact bodyPost_ret (results_blk2 rfl _ _ (w.heap.size + 1) _ rfl hR9) rfl ⟨by rw [descZ,HO.out.1,HO.out.2];rfl,hL8.trans (ho9.below (by omega))⟩
end Go.Proofs.YtphamecphmbipaaGreatDoor
