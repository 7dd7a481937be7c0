/- Texts of this claim, merged. -/
import Derived.Test.YtphamecphmbipaaGreatDoorK11
set_option linter.unusedVariables false
set_option maxRecDepth 100000
set_option maxHeartbeats 16000000

namespace Go.Proofs.YtphamecphmbipaaGreatDoor
open Go.RowKit
open Lib (hid)
structure zp(w:World)(G S I J:Int)(p:Nat)(x y v:Int)(W:World):Prop where
 s:At W w.heap.size 23 (aa G S I J)
 dd:At W p 67 (gK x y v)
 bel:Below w.heap.size w W
theorem zp.below{w:World}{G S I J:Int}{p:Nat}{x y v:Int}{W W':World}(h:zp w G S I J p x y v W)(hb:Below W.heap.size W W'):zp w G S I J p x y v W':=⟨h.s.below hb h.s.lt,h.dd.below hb h.dd.lt,h.bel.trans (hb.mono h.bel.size)⟩
theorem tI(G S I J:Int)(hm:aM G S I J=true)(a:Option Addr)(n cap:Nat)(b i d:Nat->Int)(hn:(n:Int)<=9223372036854775807)(w:World)(hr:cY w a 3 n (df b i d)):
  Calls Tryz.prog 99 #[bN G S I J,.slice a n cap] w λe w'=>e= .returned (.bool (jR G S I J n b i d))/\Below w.heap.size w w':=by
 have hs0:=At.new w 23 (aa G S I J);have tZ:Below w.heap.size w (w.alloc (.cells (aa G S I J) 23)):=(Below.refl _ _).alloc (Nat.le_refl _) _;have HR:=hid hr;have hI:4<=I/\I<=64:=by
  obtain⟨h1,h2,h3,h4,h5,h6,h7,h8,h9,h10,h11⟩:=(aX G S I J).1 hm;exact⟨h5,h6⟩
 have c0:(w.alloc (.cells #[.int .i64 G,.int .i64 S,.int .i64 I,.int .i64 J] 23)).cell? ⟨w.heap.size,0,none⟩=some (.int .i64 G):=hs0.cell (i:=0) rfl;have Of:=hid hs0;have A6:=hid tZ;clear hr hm hs0 tZ;go_enter Tryz.func99,Tryz.ntmps99
 by_cases hg:(n:Int)=G
 rotate_left
 ·have hg':((n:Int) !=G)=true:=by simpa using hg
  have HN:Hid (jR G S I J n b i d=false):=by show _=_;unfold jR;simp[hg]
  clear hg;go_wp2_with fail;go_ret;exact⟨by rw[HN.out];rfl,A6.out⟩
 have hg':((n:Int) !=G)=false:=by simpa using hg
 have HD:Hid (jR G S I J n b i d=aD (λk=>okD (sX G S I J) I (b k) (i k) (d k)) n):=by show _=_;unfold jR;simp[hg]
 have D2:Hid (∀W,Calls Tryz.prog 58 #[bN G S I J] W λe w'=>e= .returned (.int .i64 (sX G S I J))/\Below W.heap.size W w'):=λW=>qV G S I J W
 have hda:=Ad G S I J;generalize sX G S I J=da at*;clear hg;go_wp2_with fail;clear hg' c0;go_loopw [5] (λu wr=>∃k:Nat,k<=n/\u= .int .i64 (k:Int)/\Hid (aD (λk=>okD da I (b k) (i k) (d k)) k=true)/\At wr w.heap.size 23 (aa G S I J)/\Below w.heap.size w wr) (λu _=>n-(intOf u).toNat)
 case atStart=>exact⟨0,by omega,rfl,rfl,Of.out,A6.out⟩
 case round=>
  clear Of A6;obtain⟨k,hk,rfl,eJ,hs,hbl⟩:=hrel
  by_cases hlt:k<n
  ·rcases HR.out.below (um _ _ _ _) hbl with h0|⟨bb,off,rfl,lF⟩
   ·omega
   have r0:wr.cell? ⟨bb,off+k*3,none⟩=some (.int .i64 (b k)):=lF k hlt 0 _ rfl;have r1:wr.cell? ⟨bb,off+k*3+1,none⟩=some (.int .i64 (i k)):=lF k hlt 1 _ rfl;have r2:wr.cell? ⟨bb,off+k*3+2,none⟩=some (.int .i64 (d k)):=lF k hlt 2 _ rfl;have ST:Hid (zp w G S I J wr.heap.size (b k) (i k) (d k) (wr.alloc (.cells (gK (b k) (i k) (d k)) 67))):=⟨hs.alloc _,At.new _ _ _,hbl.alloc hbl.size _⟩;have HK:Hid (∀c,okD da I (b k) (i k) (d k)=c->(c=true->aD (λk=>okD da I (b k) (i k) (d k)) (k+1)=true)/\(c=false->aD (λk=>okD da I (b k) (i k) (d k)) n=false)):=λc hc=>
    ⟨λh=>by show(aD _ k&&okD da I (b k) (i k) (d k))=true;rw[eJ.out,hc,h];rfl,λh=>bJ hlt (by rw[hc,h])⟩
   clear lF hs hbl eJ;generalize b k=x at*;generalize i k=y at*;generalize d k=v at*;have hd0:∀X:aT (zp w G S I J wr.heap.size x y v),X.W.cell? ⟨wr.heap.size,0,none⟩=some (.int .i64 x):=λX=>X.h.dd.cell (i:=0) rfl
   have hd1:∀X:aT (zp w G S I J wr.heap.size x y v),X.W.cell? ⟨wr.heap.size,1,none⟩=some (.int .i64 y):=λX=>X.h.dd.cell (i:=1) rfl
   have hd2:∀X:aT (zp w G S I J wr.heap.size x y v),X.W.cell? ⟨wr.heap.size,2,none⟩=some (.int .i64 v):=λX=>X.h.dd.cell (i:=2) rfl
   have hg2:∀X:aT (zp w G S I J wr.heap.size x y v),X.W.cell? ⟨w.heap.size,2,none⟩=some (.int .i64 I):=λX=>X.h.s.cell (i:=2) rfl
   by_cases h1:0<=x
   rotate_left
   ·have HF:Hid (aD (λk=>okD da I (b k) (i k) (d k)) n=false):=(HK.out false (fX λh=>h1 (h.1))).2 rfl
    have q1:decide (x<0)=true:=by rw[decide_eq_true_eq];omega
    go_wp2_with fail;refine ai (zp w G S I J wr.heap.size x y v) (by kernel_rfl) (by kernel_rfl) ⟨ST.out.s,ST.out.dd,ST.out.bel.drew⟩ ?_;intro hne
    repeat go_big_quiet_step (fail)
    refine wpQuiet_nil ?_;intro w6 h6;have eQ:=h6.out;clear h6 hne hd0 hd1 hd2 hg2;go_wp2_with fail;go_ret;exact⟨by rw[HD.out,HF.out];rfl,eQ.bel⟩
   have q1:decide (x<0)=false:=by rw[decide_eq_false_iff_not];omega
   by_cases h2:x<=da
   rotate_left
   ·have HF:Hid (aD (λk=>okD da I (b k) (i k) (d k)) n=false):=(HK.out false (fX λh=>h2 (h.2.1))).2 rfl
    have q2:decide (da<x)=true:=by rw[decide_eq_true_eq];omega
    go_wp2_with fail;refine ai (zp w G S I J wr.heap.size x y v) (by kernel_rfl) (by kernel_rfl) ⟨ST.out.s,ST.out.dd,ST.out.bel.drew⟩ ?_;intro hne;iterate 6 go_big_quiet_step (fail)
    refine aH rfl 23 _ rfl _ _ rfl (aa G S I J).toList _ (λW h=>h.s.range) Tryz.underlying23 rfl (by kernel_rfl) ?_;refine ae ?_
    go_big_quiet_want
    go_big_quiet_op
    refine⟨_,λs=>aG s (λW hW=>(D2.out W).mono λe w' h=>⟨h.1,hW.below h.2⟩),?_⟩
    go_big_quiet_on
    repeat go_big_quiet_step (fail)
    refine wpQuiet_nil ?_;intro w6 h6;have eQ:=h6.out;clear h6 hne hd0 hd1 hd2 hg2;go_wp2_with fail;go_ret;exact⟨by rw[HD.out,HF.out];rfl,eQ.bel⟩
   have q2:decide (da<x)=false:=by rw[decide_eq_false_iff_not];omega
   by_cases h3:0<=y
   rotate_left
   ·have HF:Hid (aD (λk=>okD da I (b k) (i k) (d k)) n=false):=(HK.out false (fX λh=>h3 (h.2.2.1))).2 rfl
    have q3:decide (y<0)=true:=by rw[decide_eq_true_eq];omega
    go_wp2_with fail;refine ai (zp w G S I J wr.heap.size x y v) (by kernel_rfl) (by kernel_rfl) ⟨ST.out.s,ST.out.dd,ST.out.bel.drew⟩ ?_;intro hne;iterate 6 go_big_quiet_step (fail)
    refine aH rfl 23 _ rfl _ _ rfl (aa G S I J).toList _ (λW h=>h.s.range) Tryz.underlying23 rfl (by kernel_rfl) ?_;refine ae ?_
    go_big_quiet_want
    go_big_quiet_op
    refine⟨_,λs=>aG s (λW hW=>(D2.out W).mono λe w' h=>⟨h.1,hW.below h.2⟩),?_⟩
    go_big_quiet_on
    repeat go_big_quiet_step (fail)
    refine wpQuiet_nil ?_;intro w6 h6;have eQ:=h6.out;clear h6 hne hd0 hd1 hd2 hg2;go_wp2_with fail;go_ret;exact⟨by rw[HD.out,HF.out];rfl,eQ.bel⟩
   have q3:decide (y<0)=false:=by rw[decide_eq_false_iff_not];omega
   by_cases h4:0<=v
   rotate_left
   ·have HF:Hid (aD (λk=>okD da I (b k) (i k) (d k)) n=false):=(HK.out false (fX λh=>h4 (h.2.2.2.2.1))).2 rfl
    have q4:decide (v<0)=true:=by rw[decide_eq_true_eq];omega
    go_wp2_with fail;refine ai (zp w G S I J wr.heap.size x y v) (by kernel_rfl) (by kernel_rfl) ⟨ST.out.s,ST.out.dd,ST.out.bel.drew⟩ ?_;intro hne;iterate 6 go_big_quiet_step (fail)
    refine aH rfl 23 _ rfl _ _ rfl (aa G S I J).toList _ (λW h=>h.s.range) Tryz.underlying23 rfl (by kernel_rfl) ?_;refine ae ?_
    go_big_quiet_want
    go_big_quiet_op
    refine⟨_,λs=>aG s (λW hW=>(D2.out W).mono λe w' h=>⟨h.1,hW.below h.2⟩),?_⟩
    go_big_quiet_on
    repeat go_big_quiet_step (fail)
    refine wpQuiet_nil ?_;intro w6 h6;have eQ:=h6.out;clear h6 hne hd0 hd1 hd2 hg2;go_wp2_with fail;go_ret;exact⟨by rw[HD.out,HF.out];rfl,eQ.bel⟩
   have q4:decide (v<0)=false:=by rw[decide_eq_false_iff_not];omega
   by_cases h5:y<=I
   rotate_left
   ·have HF:Hid (aD (λk=>okD da I (b k) (i k) (d k)) n=false):=(HK.out false (fX λh=>h5 (h.2.2.2.1))).2 rfl
    have q5:decide (I<y)=true:=by rw[decide_eq_true_eq];omega
    go_wp2_with fail;refine ai (zp w G S I J wr.heap.size x y v) (by kernel_rfl) (by kernel_rfl) ⟨ST.out.s,ST.out.dd,ST.out.bel.drew⟩ ?_;intro hne;iterate 6 go_big_quiet_step (fail)
    refine aH rfl 23 _ rfl _ _ rfl (aa G S I J).toList _ (λW h=>h.s.range) Tryz.underlying23 rfl (by kernel_rfl) ?_;refine ae ?_
    go_big_quiet_want
    go_big_quiet_op
    refine⟨_,λs=>aG s (λW hW=>(D2.out W).mono λe w' h=>⟨h.1,hW.below h.2⟩),?_⟩
    go_big_quiet_on
    repeat go_big_quiet_step (fail)
    refine wpQuiet_nil ?_;intro w6 h6;have eQ:=h6.out;clear h6 hne hd0 hd1 hd2 hg2;go_wp2_with fail;go_ret;exact⟨by rw[HD.out,HF.out];rfl,eQ.bel⟩
   have q5:decide (I<y)=false:=by rw[decide_eq_false_iff_not];omega
   by_cases h6:v<=I
   rotate_left
   ·have HF:Hid (aD (λk=>okD da I (b k) (i k) (d k)) n=false):=(HK.out false (fX λh=>by omega)).2 rfl
    have q6:decide (I<v)=true:=by rw[decide_eq_true_eq];omega
    go_wp2_with fail;refine ai (zp w G S I J wr.heap.size x y v) (by kernel_rfl) (by kernel_rfl) ⟨ST.out.s,ST.out.dd,ST.out.bel.drew⟩ ?_;intro hne;iterate 6 go_big_quiet_step (fail)
    refine aH rfl 23 _ rfl _ _ rfl (aa G S I J).toList _ (λW h=>h.s.range) Tryz.underlying23 rfl (by kernel_rfl) ?_;refine ae ?_
    go_big_quiet_want
    go_big_quiet_op
    refine⟨_,λs=>aG s (λW hW=>(D2.out W).mono λe w' h=>⟨h.1,hW.below h.2⟩),?_⟩
    go_big_quiet_on
    repeat go_big_quiet_step (fail)
    refine wpQuiet_nil ?_;intro w6 h6;have eQ:=h6.out;clear h6 hne hd0 hd1 hd2 hg2;go_wp2_with fail;go_ret;exact⟨by rw[HD.out,HF.out];rfl,eQ.bel⟩
   have q6:decide (I<v)=false:=by rw[decide_eq_false_iff_not];omega
   by_cases h7:y+v<=I
   rotate_left
   ·have HF:Hid (aD (λk=>okD da I (b k) (i k) (d k)) n=false):=(HK.out false (fX λh=>by omega)).2 rfl
    have q7:decide (I<y+v)=true:=by rw[decide_eq_true_eq];omega
    go_wp2_with fail;refine ai (zp w G S I J wr.heap.size x y v) (by kernel_rfl) (by kernel_rfl) ⟨ST.out.s,ST.out.dd,ST.out.bel.drew⟩ ?_;intro hne;iterate 6 go_big_quiet_step (fail)
    refine aH rfl 23 _ rfl _ _ rfl (aa G S I J).toList _ (λW h=>h.s.range) Tryz.underlying23 rfl (by kernel_rfl) ?_;refine ae ?_
    go_big_quiet_want
    go_big_quiet_op
    refine⟨_,λs=>aG s (λW hW=>(D2.out W).mono λe w' h=>⟨h.1,hW.below h.2⟩),?_⟩
    go_big_quiet_on
    repeat go_big_quiet_step (fail)
    refine wpQuiet_nil ?_;intro w6 h6;have eQ:=h6.out;clear h6 hne hd0 hd1 hd2 hg2;go_wp2_with fail;go_ret;exact⟨by rw[HD.out,HF.out];rfl,eQ.bel⟩
   have q7:decide (I<y+v)=false:=by rw[decide_eq_false_iff_not];omega
   have HY:Hid (aD (λk=>okD da I (b k) (i k) (d k)) (k+1)=true):=(HK.out true ((vB _ _ _ _ _).2 ⟨h1,h2,h3,h5,h4,by omega⟩)).1 rfl;go_wp2_with fail;refine ai (zp w G S I J wr.heap.size x y v) (by kernel_rfl) (by kernel_rfl) ⟨ST.out.s,ST.out.dd,ST.out.bel.drew⟩ ?_;intro hne;iterate 6 go_big_quiet_step (fail)
   refine aH rfl 23 _ rfl _ _ rfl (aa G S I J).toList _ (λW h=>h.s.range) Tryz.underlying23 rfl (by kernel_rfl) ?_;refine ae ?_
   go_big_quiet_want
   go_big_quiet_op
   refine⟨_,λs=>aG s (λW hW=>(D2.out W).mono λe w' h=>⟨h.1,hW.below h.2⟩),?_⟩
   go_big_quiet_on
   repeat go_big_quiet_step (fail)
   refine wpQuiet_nil ?_;intro w6 h6;have eQ:=h6.out;clear h6 hne hd0 hd1 hd2 hg2;go_wp2_with fail;go_roundw
   case rel=>first|exact⟨k+1,by omega,by go_num,HY,eQ.s,eQ.bel⟩|exact⟨k+1,by omega,rfl,HY,eQ.s,eQ.bel⟩
   case measure=>simp[intOf];omega
  ·obtain rfl:k=n:=by omega
   go_wp2_with fail;go_ret;exact⟨by rw[HD.out,eJ.out];rfl,hbl⟩
structure Hv(w:World)(G S I J:Int)(g bb off n:Nat)(f:Nat->List Value)(l:Nat->Int)(k:Nat)(v:Int)(j:Nat)(W:World):Prop where
 s:At W w.heap.size 23 (aa G S I J)
 r:aQ W (w.heap.size+1) 32 256 (λ_=>0)
 b:aQ W g 32 256 (hz (if j=0 then l else upd l k v))
 q:aF W bb off 3 n f
 bel:Below w.heap.size w W
structure WV(w:World)(G S I J:Int)(g:Nat)(l:Nat->Int)(W:World):Prop where
 s:At W w.heap.size 23 (aa G S I J)
 r:aQ W (w.heap.size+1) 32 256 (λ_=>0)
 b:aQ W g 32 256 (hz l)
 bel:Below w.heap.size w W
theorem jl(G S I J:Int)(a:Option Addr)(n cap:Nat)(b i d:Nat->Int)(hn:(n:Int)<=9223372036854775807)(w:World)(hr:cY w a 3 n (df b i d)):
  Calls Tryz.prog 61 #[bN G S I J,.slice a n cap] w λe w'=>e= .returned (.tuple #[aL (kh G S I J n b i d),.int .i64 (pc G S I J n b i d)])/\Below w.heap.size w w':=by
 have hal:=cJ;have HR:=hid hr;obtain⟨W,hW⟩:∃W,W=(w.alloc (.cells (aa G S I J) 23)).alloc (.cells (Ks .u8 256 (λ_=>0)).toArray 32):=⟨_,rfl⟩;have hS:At W w.heap.size 23 (aa G S I J):=by rw[hW];exact(At.new w _ _).alloc _
 have Wo:aQ W (w.heap.size+1) 32 256 (λ_=>0):=by
  rw[hW];have:=aQ.new (w.alloc (.cells (aa G S I J) 23)) 32 256 (λ_=>0);simp only[World.size_alloc] at this;exact this
 have hL:Below w.heap.size w W:=by rw[hW];exact((Below.refl _ _).alloc (Nat.le_refl _) _).alloc (by simp) _
 have HW:=hid hW;clear hW hr;go_enter Tryz.func61,Tryz.ntmps61;have yw:At ((w.alloc (.cells (aa G S I J) 23)).alloc (.cells (Ks .u8 256 (λ_=>0)).toArray 32)) w.heap.size 23 (aa G S I J):=(At.new w _ _).alloc _;go_wp2_with (first|(refine ar rfl 23 (.tmp 2) rfl _ _ _ rfl yw Tryz.underlying23 rfl (by kernel_rfl) ?_))
 rw[<-HW.out];clear HW yw;refine(dY G S I J W).mono ?_;rintro e w1 ⟨rfl,hb1⟩;have hS1:=hS.below hb1 hS.lt;have s6:=Wo.below hb1 Wo.lt;have fR:Below w.heap.size w w1:=hL.trans (hb1.mono hL.size);clear hS Wo hL hb1;cases hm:aM G S I J with
 |false=>
  have HO:Hid (mJ G S I J n b i d=false/\pc G S I J n b i d=50):=by show _/\_;unfold mJ pc;rw[hm];exact⟨rfl,rfl⟩
  clear hm;go_wp2_with (first|(refine a8 rfl (.tmp 4) (.tmp 11) rfl (w.heap.size+1) (λ_=>0) _ rfl rfl s6 ?_))
  intro w2 kV er;go_wp2_with fail;exact bodyPost_ret (bV rfl _ _ (w.heap.size+1) _ rfl kV) rfl ⟨by rw[kh,HO.out.1,HO.out.2];rfl,fR.trans (er.below (by omega))⟩
 |true=>
 have HM:=hid hm;clear hm;go_wp2_with (first|(refine ar rfl 23 (.tmp 2) rfl _ _ _ rfl hS1 Tryz.underlying23 rfl (by kernel_rfl) ?_))
 refine(tI G S I J HM.out a n cap b i d hn w1 (HR.out.below (um _ _ _ _) fR)).mono ?_;rintro e w2 ⟨rfl,hb2⟩;have Ho:=hS1.below hb2 hS1.lt;have kV:=s6.below hb2 s6.lt;have hL2:Below w.heap.size w w2:=fR.trans (hb2.mono fR.size);have hsz:=kV.lt;clear hS1 s6 fR hb2;cases ho:jR G S I J n b i d with
 |false=>
  have HO:Hid (mJ G S I J n b i d=false/\pc G S I J n b i d=2):=by
   show _/\_;unfold mJ pc;rw[HM.out,ho];exact⟨rfl,rfl⟩
  clear ho;go_wp2_with (first|(refine a8 rfl (.tmp 4) (.tmp 16) rfl (w.heap.size+1) (λ_=>0) _ rfl rfl kV ?_))
  intro w3 DG nU;go_wp2_with fail;exact bodyPost_ret (bV rfl _ _ (w.heap.size+1) _ rfl DG) rfl ⟨by rw[kh,HO.out.1,HO.out.2];rfl,hL2.trans (nU.below (by omega))⟩
 |true=>
 have HO:Hid (mJ G S I J n b i d=true/\pc G S I J n b i d=0):=by
  show _/\_;unfold mJ pc;rw[HM.out,ho];exact⟨rfl,rfl⟩
 have HMD:=hid (x4 HM.out ho).2.2;have YG:=(x4 HM.out ho).2.1;clear ho;obtain⟨g,hg⟩:∃g,g=w2.heap.size:=⟨_,rfl⟩;have hg2:w.heap.size+2<=g:=by omega
 have st0:Hid (WV w G S I J g (dH b i d 0) (w2.alloc (.cells (Ks .u8 256 (λ_=>0)).toArray 32))):=
  ⟨Ho.alloc _,kV.alloc _,by rw[hg];exact(aQ.new w2 _ _ _).congr λi _=>(BE i).symm,hL2.alloc hL2.size _⟩
 clear Ho kV hL2 hsz;go_wp2_with fail;rw[<-hg];clear hg;have hsa:=λW=>a7 g 0 W
 go_loopw [7] (λu wr=>∃k:Nat,k<=n/\u= .int .i64 (k:Int)/\WV w G S I J g (dH b i d k) wr) (λu _=>n-(intOf u).toNat)
 case atStart=>exact⟨0,by omega,rfl,st0.out⟩
 case round=>
  clear st0;obtain⟨k,hk,rfl,st⟩:=hrel
  by_cases hlt:k<n
  ·rcases HR.out with h0|⟨bb,off,rfl,M5⟩
   ·omega
   have hbb:bb<w.heap.size:=M5.lt (by omega) (um _ _ _ _);have lF:=M5.below st.bel hbb;have HB:=hid (HMD.out k hlt);obtain⟨x,hx⟩:∃x,b k=x:=⟨_,rfl⟩;obtain⟨y,hy⟩:∃y,i k=y:=⟨_,rfl⟩;obtain⟨v,hv⟩:∃v,d k=v:=⟨_,rfl⟩;have hx0:=hid hx;have hx1:=hid hy;have hx2:=hid hv;rw[hx,hy,hv] at HB;obtain⟨⟨q1,q2⟩,⟨q3,q4⟩,⟨q5,q6⟩⟩:=HB.out;clear hx hy hv M5 HB;obtain⟨l0,hl0⟩:∃l,l=dH b i d k:=⟨_,rfl⟩;rw[<-hl0] at st;have A6:=hid hl0;have st0:Hv w G S I J g bb off n (df b i d) l0 0 0 0 wr:=⟨st.s,st.r,st.b,lF,st.bel⟩;clear hl0 st lF;have e0:IntKind.i64.wrap (8*(k:Int))=8*(k:Int):=IntWalk.i64_in _ (by omega);have e1:IntKind.i64.wrap (8*(k:Int)+2)=8*(k:Int)+2:=IntWalk.i64_in _ (by omega);have e2:IntKind.i64.wrap (8*(k:Int)+4)=8*(k:Int)+4:=IntWalk.i64_in _ (by omega);have m1:x%4294967296=x:=by omega
   have m2:y%4294967296=y:=by omega
   have m3:v%4294967296=v:=by omega
   have l9:(0:Int)<=(k:Int):=by omega
   have l8:(k:Int)<(n:Int):=by omega
   have Te:∀X:aT (λW=>∃j,Hv w G S I J g bb off n (df b i d) l0 (4*k+0) x j W),X.W.cell? ⟨bb,off+k*3,none⟩=some (.int .i64 x):=λX=>by obtain⟨j,h⟩:=X.h;have:=h.q k hlt 0 _ rfl;rw[hx0.out] at this;exact this
   go_wp2_with fail;refine Mv.bs (Hv w G S I J g bb off n (df b i d) l0 (4*k+0) x) 0 (by kernel_rfl) (by kernel_rfl) (by kernel_rfl) ⟨st0.s,st0.r,st0.b,st0.q,st0.bel.drew⟩ ?_;clear st0;intro hne
   (refine Mv.aO 9 (by kernel_rfl) ?_;simp only[List.take,List.drop])
   iterate 9 go_big_quiet_step (fail)
   refine wpQuiet_nil ?_;refine Mv.bR rfl rfl 97 #[.slice (some ⟨g,0,none⟩) 256 256,.int .i64 (8*(k:Int)),.int .u32 x] (.bool true) 1 (λW=>by kernel_rfl) (λW h=> ?c0) ?_
   case c0=>
    refine(nh g l0 (4*k+0) (8*(k:Int)) x (by omega) (by omega) (by omega) (by omega) W h.b).mono ?_;rintro e w6 ⟨rfl,mb,jD⟩;exact⟨rfl,h.s.only jD (by omega),h.r.only jD (by omega),mb,λi hi j u hu=>(jD.cell (p:=⟨bb,off+i*3+j,none⟩) (by show bb≠g;omega)).trans (h.q i hi j u hu),h.bel.trans (jD.below (by omega))⟩
   refine Mv.frame ?_;refine Mv.bu ?_;intro X2 CB;have eR:Hv w G S I J g bb off n (df b i d) (upd l0 (4*k+0) x) 0 0 0 X2:=⟨CB.s,CB.r,CB.b,CB.q,CB.bel⟩;clear hne Te CB;obtain⟨l1,yo⟩:∃l,l=upd l0 (4*k+0) x:=⟨_,rfl⟩;rw[<-yo] at eR;have lq:=hid yo;clear yo;have hf1:∀X:aT (λW=>∃j,Hv w G S I J g bb off n (df b i d) l1 (4*k+1) y j W),X.W.cell? ⟨bb,off+k*3+1,none⟩=some (.int .i64 y):=λX=>by obtain⟨j,h⟩:=X.h;have:=h.q k hlt 1 _ rfl;rw[hx1.out] at this;exact this
   go_wp2_with fail;refine Mv.bs (Hv w G S I J g bb off n (df b i d) l1 (4*k+1) y) 0 (by kernel_rfl) (by kernel_rfl) (by kernel_rfl) ⟨eR.s,eR.r,eR.b,eR.q,eR.bel.drew⟩ ?_;clear eR;intro hne
   (refine Mv.aO 10 (by kernel_rfl) ?_;simp only[List.take,List.drop])
   iterate 10 go_big_quiet_step (fail)
   refine wpQuiet_nil ?_;refine Mv.bR rfl rfl 97 #[.slice (some ⟨g,0,none⟩) 256 256,.int .i64 (8*(k:Int)+2),.int .u32 y] (.bool true) 1 (λW=>by kernel_rfl) (λW h=> ?c1) ?_
   case c1=>
    refine(nh g l1 (4*k+1) (8*(k:Int)+2) y (by omega) (by omega) (by omega) (by omega) W h.b).mono ?_;rintro e w6 ⟨rfl,mb,jD⟩;exact⟨rfl,h.s.only jD (by omega),h.r.only jD (by omega),mb,λi hi j u hu=>(jD.cell (p:=⟨bb,off+i*3+j,none⟩) (by show bb≠g;omega)).trans (h.q i hi j u hu),h.bel.trans (jD.below (by omega))⟩
   refine Mv.frame ?_;refine Mv.bu ?_;intro w21 CA;have eC:Hv w G S I J g bb off n (df b i d) (upd l1 (4*k+1) y) 0 0 0 w21:=⟨CA.s,CA.r,CA.b,CA.q,CA.bel⟩;clear hne hf1 CA;obtain⟨l2,hl2⟩:∃l,l=upd l1 (4*k+1) y:=⟨_,rfl⟩;rw[<-hl2] at eC;have je:=hid hl2;clear hl2;have hf2:∀X:aT (λW=>∃j,Hv w G S I J g bb off n (df b i d) l2 (4*k+2) v j W),X.W.cell? ⟨bb,off+k*3+2,none⟩=some (.int .i64 v):=λX=>by obtain⟨j,h⟩:=X.h;have:=h.q k hlt 2 _ rfl;rw[hx2.out] at this;exact this
   go_wp2_with fail;refine Mv.bs (Hv w G S I J g bb off n (df b i d) l2 (4*k+2) v) 0 (by kernel_rfl) (by kernel_rfl) (by kernel_rfl) ⟨eC.s,eC.r,eC.b,eC.q,eC.bel.drew⟩ ?_;clear eC;intro hne
   (refine Mv.aO 10 (by kernel_rfl) ?_;simp only[List.take,List.drop])
   iterate 10 go_big_quiet_step (fail)
   refine wpQuiet_nil ?_;refine Mv.bR rfl rfl 97 #[.slice (some ⟨g,0,none⟩) 256 256,.int .i64 (8*(k:Int)+4),.int .u32 v] (.bool true) 1 (λW=>by kernel_rfl) (λW h=> ?c2) ?_
   case c2=>
    refine(nh g l2 (4*k+2) (8*(k:Int)+4) v (by omega) (by omega) (by omega) (by omega) W h.b).mono ?_;rintro e w6 ⟨rfl,mb,jD⟩;exact⟨rfl,h.s.only jD (by omega),h.r.only jD (by omega),mb,λi hi j u hu=>(jD.cell (p:=⟨bb,off+i*3+j,none⟩) (by show bb≠g;omega)).trans (h.q i hi j u hu),h.bel.trans (jD.below (by omega))⟩
   refine Mv.frame ?_;refine Mv.bu ?_;intro X1 Cz;have fg:Hv w G S I J g bb off n (df b i d) (upd l2 (4*k+2) v) 0 0 0 X1:=⟨Cz.s,Cz.r,Cz.b,Cz.q,Cz.bel⟩;clear hne hf2 Cz;obtain⟨l3,Ll⟩:∃l,l=upd l2 (4*k+2) v:=⟨_,rfl⟩;rw[<-Ll] at fg;have Ss:=hid Ll;clear Ll;have st':WV w G S I J g (dH b i d (k+1)) X1:=⟨fg.s,fg.r,by have:=fg.b;rw[if_pos rfl,Ss.out,je.out,lq.out,A6.out,<-hx0.out,<-hx1.out,<-hx2.out] at this;exact this,fg.bel⟩;clear fg A6 lq je Ss;go_wp2_with fail;go_roundw
   case rel=>first|exact⟨k+1,by omega,by go_num,st'⟩|exact⟨k+1,by omega,rfl,st'⟩
   case measure=>simp[intOf];omega
  ·obtain rfl:k=n:=by omega
   have hb:=st.b;go_wp2_with (first|(refine dD rfl (.tmp 6) rfl g _ rfl hb ?_))
   refine(oO _ (oB _) _).mono ?_;rintro e w8 ⟨rfl,nV⟩;have OY:=st.r.below nV st.r.lt;have hL8:Below w.heap.size w w8:=st.bel.trans (nV.mono st.bel.size);clear st hb nV;go_wp2_with (first|(refine a8 rfl (.tmp 4) (.tmp 56) rfl (w.heap.size+1) (lS (hz (dH b i d k))) _ rfl rfl OY ?_))
   intro w9 jf gD;go_wp2_with fail;exact bodyPost_ret (bV rfl _ _ (w.heap.size+1) _ rfl jf) rfl ⟨by rw[kh,HO.out.1,HO.out.2];rfl,hL8.trans (gD.below (by omega))⟩
end Go.Proofs.YtphamecphmbipaaGreatDoor
