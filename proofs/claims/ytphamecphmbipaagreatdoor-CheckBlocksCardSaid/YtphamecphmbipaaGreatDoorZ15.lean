/- Texts of this claim, merged. -/
import Derived.Test.YtphamecphmbipaaGreatDoorZ10
set_option linter.unusedVariables false
set_option maxRecDepth 100000
set_option maxHeartbeats 16000000

namespace Go.Proofs.YtphamecphmbipaaGreatDoor
open Go.RowKit
structure zK(w:World)(G S I J:Int)(p:Nat)(x y v:Int)(W:World):Prop where
 s:At W w.heap.size 23 (ai G S I J)
 dd:At W p 67 (gV x y v)
 bel:Below w.heap.size w W
theorem zK.below{w:World}{G S I J:Int}{p:Nat}{x y v:Int}{W W':World}(h:zK w G S I J p x y v W)(hb:Below W.heap.size W W'):zK w G S I J p x y v W':=⟨h.s.below hb h.s.lt,h.dd.below hb h.dd.lt,h.bel.trans (hb.mono h.bel.size)⟩
theorem tW(G S I J:Int)(hm:aT G S I J=true)(a:Option Addr)(n cap:Nat)(b i d:Nat->Int)(hn:(n:Int)<=9223372036854775807)(w:World)(hr:cU w a 3 n (df b i d)):
  Calls Tryz.prog 99 #[bV G S I J,.slice a n cap] w λe w'=>e= .returned (.bool (j5 G S I J n b i d))/\Below w.heap.size w w':=by
 have hs0:=At.new w 23 (ai G S I J);have uw:Below w.heap.size w (w.alloc (.cells (ai G S I J) 23)):=ag.alloc af _;have HR:=ah hr;have hI:4<=I/\I<=64:=by
  obtain⟨h1,h2,h3,h4,h5,h6,h7,h8,h9,h10,h11⟩:=(bq G S I J).1 hm;exact⟨h5,h6⟩
 have c0:(w.alloc (.cells #[.int .i64 G,.int .i64 S,.int .i64 I,.int .i64 J] 23)).cell? ⟨w.heap.size,0,none⟩=some (.int .i64 G):=hs0.cell (i:=0) rfl;have ON:=ah hs0;have Bl:=ah uw;clear hr hm hs0 uw;go_enter Tryz.func99,Tryz.ntmps99
 by_cases hg:(n:Int)=G
 rotate_left
 ·have hg':((n:Int) !=G)=true:=by simpa using hg
  have HN:Hd (j5 G S I J n b i d=false):=by show _=_;unfold j5;simp[hg]
  clear hg;go_wp2_with fail;go_ret;exact⟨by rw[HN.Z];rfl,Bl.Z⟩
 have hg':((n:Int) !=G)=false:=by simpa using hg
 have HD:Hd (j5 G S I J n b i d=aK (λk=>okD (ti G S I J) I (b k) (i k) (d k)) n):=by show _=_;unfold j5;simp[hg]
 have Ej:Hd (∀W,Calls Tryz.prog 58 #[bV G S I J] W λe w'=>e= .returned (.int .i64 (ti G S I J))/\Below W.heap.size W w'):=λW=>ry G S I J W
 have hda:=Au G S I J;generalize ti G S I J=da at*;clear hg;go_wp2_with fail;clear hg' c0;go_loopw [5] (λu wr=>∃k:Nat,k<=n/\u= .int .i64 (k:Int)/\Hd (aK (λk=>okD da I (b k) (i k) (d k)) k=true)/\At wr w.heap.size 23 (ai G S I J)/\Below w.heap.size w wr) (λu _=>n-(intOf u).toNat)
 case atStart=>exact⟨0,by omega,rfl,rfl,ON.Z,Bl.Z⟩
 clear ON Bl;obtain⟨k,hk,rfl,eW,hs,hbl⟩:=hrel
 by_cases hlt:k<n
 ·rcases HR.Z.below (uG _ _ _ _) hbl with h0|⟨bb,off,rfl,lQ⟩
  ·omega
  have r0:wr.cell? ⟨bb,off+k*3,none⟩=some (.int .i64 (b k)):=lQ k hlt 0 _ rfl;have r1:wr.cell? ⟨bb,off+k*3+1,none⟩=some (.int .i64 (i k)):=lQ k hlt 1 _ rfl;have r2:wr.cell? ⟨bb,off+k*3+2,none⟩=some (.int .i64 (d k)):=lQ k hlt 2 _ rfl;have ST:Hd (zK w G S I J wr.heap.size (b k) (i k) (d k) (wr.alloc (.cells (gV (b k) (i k) (d k)) 67))):=⟨hs.alloc _,At.new _ _ _,hbl.alloc hbl.size _⟩;have HK:Hd (∀c,okD da I (b k) (i k) (d k)=c->(c=true->aK (λk=>okD da I (b k) (i k) (d k)) (k+1)=true)/\(c=false->aK (λk=>okD da I (b k) (i k) (d k)) n=false)):=λc hc=>
   ⟨λh=>by show(aK _ k&&okD da I (b k) (i k) (d k))=true;rw[eW.Z,hc,h];rfl,λh=>bR hlt (by rw[hc,h])⟩
  clear lQ hs hbl eW;generalize b k=x at*;generalize i k=y at*;generalize d k=v at*;have hd0:∀X:a9 (zK w G S I J wr.heap.size x y v),X.W.cell? ⟨wr.heap.size,0,none⟩=some (.int .i64 x):=λX=>X.h.dd.cell (i:=0) rfl
  have hd1:∀X:a9 (zK w G S I J wr.heap.size x y v),X.W.cell? ⟨wr.heap.size,1,none⟩=some (.int .i64 y):=λX=>X.h.dd.cell (i:=1) rfl
  have hd2:∀X:a9 (zK w G S I J wr.heap.size x y v),X.W.cell? ⟨wr.heap.size,2,none⟩=some (.int .i64 v):=λX=>X.h.dd.cell (i:=2) rfl
  have hg2:∀X:a9 (zK w G S I J wr.heap.size x y v),X.W.cell? ⟨w.heap.size,2,none⟩=some (.int .i64 I):=λX=>X.h.s.cell (i:=2) rfl
  by_cases h1:0<=x
  rotate_left
  ·have HF:Hd (aK (λk=>okD da I (b k) (i k) (d k)) n=false):=(HK.Z false (gu λh=>h1 (h.1))).2 rfl
   have q1:decide (x<0)=true:=by rw[decide_eq_true_eq];omega
   go_wp2_with fail;refine ar (zK w G S I J wr.heap.size x y v) ⟨ST.Z.s,ST.Z.dd,ST.Z.bel.drew⟩ ?_;intro hne
   repeat go_big_quiet_step (fail)
   refine wpQuiet_nil ?_;intro w6 h6;have eQ:=h6.Z;clear h6 hne hd0 hd1 hd2 hg2;go_wp2_with fail;go_ret;exact⟨by rw[HD.Z,HF.Z];rfl,eQ.bel⟩
  have q1:decide (x<0)=false:=by rw[decide_eq_false_iff_not];omega
  by_cases h2:x<=da
  rotate_left
  ·have HF:Hd (aK (λk=>okD da I (b k) (i k) (d k)) n=false):=(HK.Z false (gu λh=>h2 (h.2.1))).2 rfl
   have q2:decide (da<x)=true:=by rw[decide_eq_true_eq];omega
   go_wp2_with fail;refine ar (zK w G S I J wr.heap.size x y v) ⟨ST.Z.s,ST.Z.dd,ST.Z.bel.drew⟩ ?_;intro hne;iterate 6 go_big_quiet_step (fail)
   refine aO rfl 23 _ rfl _ _ rfl (ai G S I J).toList _ (λW h=>h.s.range) Tryz.underlying23 rfl (by kernel_rfl) ?_;refine aj ?_
   go_big_quiet_want
   go_big_quiet_op
   refine⟨_,λs=>aN s (λW hW=>(Ej.Z W).mono λe w' h=>⟨h.1,hW.below h.2⟩),?_⟩
   go_big_quiet_on
   repeat go_big_quiet_step (fail)
   refine wpQuiet_nil ?_;intro w6 h6;have eQ:=h6.Z;clear h6 hne hd0 hd1 hd2 hg2;go_wp2_with fail;go_ret;exact⟨by rw[HD.Z,HF.Z];rfl,eQ.bel⟩
  have q2:decide (da<x)=false:=by rw[decide_eq_false_iff_not];omega
  by_cases h3:0<=y
  rotate_left
  ·have HF:Hd (aK (λk=>okD da I (b k) (i k) (d k)) n=false):=(HK.Z false (gu λh=>h3 (h.2.2.1))).2 rfl
   have q3:decide (y<0)=true:=by rw[decide_eq_true_eq];omega
   go_wp2_with fail;refine ar (zK w G S I J wr.heap.size x y v) ⟨ST.Z.s,ST.Z.dd,ST.Z.bel.drew⟩ ?_;intro hne;iterate 6 go_big_quiet_step (fail)
   refine aO rfl 23 _ rfl _ _ rfl (ai G S I J).toList _ (λW h=>h.s.range) Tryz.underlying23 rfl (by kernel_rfl) ?_;refine aj ?_
   go_big_quiet_want
   go_big_quiet_op
   refine⟨_,λs=>aN s (λW hW=>(Ej.Z W).mono λe w' h=>⟨h.1,hW.below h.2⟩),?_⟩
   go_big_quiet_on
   repeat go_big_quiet_step (fail)
   refine wpQuiet_nil ?_;intro w6 h6;have eQ:=h6.Z;clear h6 hne hd0 hd1 hd2 hg2;go_wp2_with fail;go_ret;exact⟨by rw[HD.Z,HF.Z];rfl,eQ.bel⟩
  have q3:decide (y<0)=false:=by rw[decide_eq_false_iff_not];omega
  by_cases h4:0<=v
  rotate_left
  ·have HF:Hd (aK (λk=>okD da I (b k) (i k) (d k)) n=false):=(HK.Z false (gu λh=>h4 (h.2.2.2.2.1))).2 rfl
   have q4:decide (v<0)=true:=by rw[decide_eq_true_eq];omega
   go_wp2_with fail;refine ar (zK w G S I J wr.heap.size x y v) ⟨ST.Z.s,ST.Z.dd,ST.Z.bel.drew⟩ ?_;intro hne;iterate 6 go_big_quiet_step (fail)
   refine aO rfl 23 _ rfl _ _ rfl (ai G S I J).toList _ (λW h=>h.s.range) Tryz.underlying23 rfl (by kernel_rfl) ?_;refine aj ?_
   go_big_quiet_want
   go_big_quiet_op
   refine⟨_,λs=>aN s (λW hW=>(Ej.Z W).mono λe w' h=>⟨h.1,hW.below h.2⟩),?_⟩
   go_big_quiet_on
   repeat go_big_quiet_step (fail)
   refine wpQuiet_nil ?_;intro w6 h6;have eQ:=h6.Z;clear h6 hne hd0 hd1 hd2 hg2;go_wp2_with fail;go_ret;exact⟨by rw[HD.Z,HF.Z];rfl,eQ.bel⟩
  have q4:decide (v<0)=false:=by rw[decide_eq_false_iff_not];omega
  by_cases h5:y<=I
  rotate_left
  ·have HF:Hd (aK (λk=>okD da I (b k) (i k) (d k)) n=false):=(HK.Z false (gu λh=>h5 (h.2.2.2.1))).2 rfl
   have q5:decide (I<y)=true:=by rw[decide_eq_true_eq];omega
   go_wp2_with fail;refine ar (zK w G S I J wr.heap.size x y v) ⟨ST.Z.s,ST.Z.dd,ST.Z.bel.drew⟩ ?_;intro hne;iterate 6 go_big_quiet_step (fail)
   refine aO rfl 23 _ rfl _ _ rfl (ai G S I J).toList _ (λW h=>h.s.range) Tryz.underlying23 rfl (by kernel_rfl) ?_;refine aj ?_
   go_big_quiet_want
   go_big_quiet_op
   refine⟨_,λs=>aN s (λW hW=>(Ej.Z W).mono λe w' h=>⟨h.1,hW.below h.2⟩),?_⟩
   go_big_quiet_on
   repeat go_big_quiet_step (fail)
   refine wpQuiet_nil ?_;intro w6 h6;have eQ:=h6.Z;clear h6 hne hd0 hd1 hd2 hg2;go_wp2_with fail;go_ret;exact⟨by rw[HD.Z,HF.Z];rfl,eQ.bel⟩
  have q5:decide (I<y)=false:=by rw[decide_eq_false_iff_not];omega
  by_cases h6:v<=I
  rotate_left
  ·have HF:Hd (aK (λk=>okD da I (b k) (i k) (d k)) n=false):=(HK.Z false (gu λh=>by omega)).2 rfl
   have q6:decide (I<v)=true:=by rw[decide_eq_true_eq];omega
   go_wp2_with fail;refine ar (zK w G S I J wr.heap.size x y v) ⟨ST.Z.s,ST.Z.dd,ST.Z.bel.drew⟩ ?_;intro hne;iterate 6 go_big_quiet_step (fail)
   refine aO rfl 23 _ rfl _ _ rfl (ai G S I J).toList _ (λW h=>h.s.range) Tryz.underlying23 rfl (by kernel_rfl) ?_;refine aj ?_
   go_big_quiet_want
   go_big_quiet_op
   refine⟨_,λs=>aN s (λW hW=>(Ej.Z W).mono λe w' h=>⟨h.1,hW.below h.2⟩),?_⟩
   go_big_quiet_on
   repeat go_big_quiet_step (fail)
   refine wpQuiet_nil ?_;intro w6 h6;have eQ:=h6.Z;clear h6 hne hd0 hd1 hd2 hg2;go_wp2_with fail;go_ret;exact⟨by rw[HD.Z,HF.Z];rfl,eQ.bel⟩
  have q6:decide (I<v)=false:=by rw[decide_eq_false_iff_not];omega
  by_cases h7:y+v<=I
  rotate_left
  ·have HF:Hd (aK (λk=>okD da I (b k) (i k) (d k)) n=false):=(HK.Z false (gu λh=>by omega)).2 rfl
   have q7:decide (I<y+v)=true:=by rw[decide_eq_true_eq];omega
   go_wp2_with fail;refine ar (zK w G S I J wr.heap.size x y v) ⟨ST.Z.s,ST.Z.dd,ST.Z.bel.drew⟩ ?_;intro hne;iterate 6 go_big_quiet_step (fail)
   refine aO rfl 23 _ rfl _ _ rfl (ai G S I J).toList _ (λW h=>h.s.range) Tryz.underlying23 rfl (by kernel_rfl) ?_;refine aj ?_
   go_big_quiet_want
   go_big_quiet_op
   refine⟨_,λs=>aN s (λW hW=>(Ej.Z W).mono λe w' h=>⟨h.1,hW.below h.2⟩),?_⟩
   go_big_quiet_on
   repeat go_big_quiet_step (fail)
   refine wpQuiet_nil ?_;intro w6 h6;have eQ:=h6.Z;clear h6 hne hd0 hd1 hd2 hg2;go_wp2_with fail;go_ret;exact⟨by rw[HD.Z,HF.Z];rfl,eQ.bel⟩
  have q7:decide (I<y+v)=false:=by rw[decide_eq_false_iff_not];omega
  have HY:Hd (aK (λk=>okD da I (b k) (i k) (d k)) (k+1)=true):=(HK.Z true ((vO _ _ _ _ _).2 ⟨h1,h2,h3,h5,h4,by omega⟩)).1 rfl;go_wp2_with fail;refine ar (zK w G S I J wr.heap.size x y v) ⟨ST.Z.s,ST.Z.dd,ST.Z.bel.drew⟩ ?_;intro hne;iterate 6 go_big_quiet_step (fail)
  refine aO rfl 23 _ rfl _ _ rfl (ai G S I J).toList _ (λW h=>h.s.range) Tryz.underlying23 rfl (by kernel_rfl) ?_;refine aj ?_
  go_big_quiet_want
  go_big_quiet_op
  refine⟨_,λs=>aN s (λW hW=>(Ej.Z W).mono λe w' h=>⟨h.1,hW.below h.2⟩),?_⟩
  go_big_quiet_on
  repeat go_big_quiet_step (fail)
  refine wpQuiet_nil ?_;intro w6 h6;have eQ:=h6.Z;clear h6 hne hd0 hd1 hd2 hg2;go_wp2_with fail;go_roundw
  case rel=>first|exact⟨k+1,by omega,by go_num,HY,eQ.s,eQ.bel⟩|exact⟨k+1,by omega,rfl,HY,eQ.s,eQ.bel⟩
  simp[intOf];omega
 obtain rfl:k=n:=by omega
 go_wp2_with fail;go_ret;exact⟨by rw[HD.Z,eW.Z];rfl,hbl⟩
structure Ix(w:World)(G S I J:Int)(g bb off n:Nat)(f:Nat->List Value)(l:Nat->Int)(k:Nat)(v:Int)(j:Nat)(W:World):Prop where
 s:At W w.heap.size 23 (ai G S I J)
 r:aU W (w.heap.size+1) 32 256 (λ_=>0)
 b:aU W g 32 256 (hz (if j=0 then l else upd l k v))
 q:aM W bb off 3 n f
 bel:Below w.heap.size w W
structure XB(w:World)(G S I J:Int)(g:Nat)(l:Nat->Int)(W:World):Prop where
 s:At W w.heap.size 23 (ai G S I J)
 r:aU W (w.heap.size+1) 32 256 (λ_=>0)
 b:aU W g 32 256 (hz l)
 bel:Below w.heap.size w W
theorem jC(G S I J:Int)(a:Option Addr)(n cap:Nat)(b i d:Nat->Int)(hn:(n:Int)<=9223372036854775807)(w:World)(hr:cU w a 3 n (df b i d)):
  Calls Tryz.prog 61 #[bV G S I J,.slice a n cap] w λe w'=>e= .returned (.tuple #[aR (ky G S I J n b i d),.int .i64 (pD G S I J n b i d)])/\Below w.heap.size w w':=by
 have hal:=cW;have HR:=ah hr;obtain⟨W,hW⟩:=aa ((w.alloc (.cells (ai G S I J) 23)).alloc (.cells (Ks .u8 256 (λ_=>0)).toArray 32));have hS:At W w.heap.size 23 (ai G S I J):=by rw[hW];exact(At.new w _ _).alloc _
 have WV:aU W (w.heap.size+1) 32 256 (λ_=>0):=by
  rw[hW];have:=aU.new (w.alloc (.cells (ai G S I J) 23)) 32 256 (λ_=>0);simp only[World.size_alloc] at this;exact this
 have hL:Below w.heap.size w W:=by rw[hW];exact(ag.alloc af _).alloc (by simp) _
 have HW:=ah hW;clear hW hr;go_enter Tryz.func61,Tryz.ntmps61;have yN:At ((w.alloc (.cells (ai G S I J) 23)).alloc (.cells (Ks .u8 256 (λ_=>0)).toArray 32)) w.heap.size 23 (ai G S I J):=(At.new w _ _).alloc _;go_wp2_with (first|(refine aB rfl 23 (.tmp 2) rfl _ _ _ rfl yN Tryz.underlying23 rfl (by kernel_rfl) ?_))
 rw[<-HW.Z];clear HW yN;refine(eu G S I J W).mono ?_;rintro e w1 ⟨rfl,hb1⟩;have hS1:=hS.below hb1 hS.lt;have tr:=WV.below hb1 WV.lt;have fW:Below w.heap.size w w1:=hL.trans (hb1.mono hL.size);clear hS WV hL hb1;cases hm:aT G S I J with
 |false=>
  have HO:Hd (mS G S I J n b i d=false/\pD G S I J n b i d=50):=by show _/\_;unfold mS pD;rw[hm];exact⟨rfl,rfl⟩
  clear hm;go_wp2_with (first|(refine bm rfl (.tmp 4) (.tmp 11) rfl (w.heap.size+1) (λ_=>0) _ rfl rfl tr ?_))
  intro w2 lq eI;go_wp2_with fail;exact bodyPost_ret (cw rfl _ _ (w.heap.size+1) _ rfl lq) rfl ⟨by rw[ky,HO.Z.1,HO.Z.2];rfl,fW.trans (eI.below (by omega))⟩
 |true=>
 have HM:=ah hm;clear hm;go_wp2_with (first|(refine aB rfl 23 (.tmp 2) rfl _ _ _ rfl hS1 Tryz.underlying23 rfl (by kernel_rfl) ?_))
 refine(tW G S I J HM.Z a n cap b i d hn w1 (HR.Z.below (uG _ _ _ _) fW)).mono ?_;rintro e w2 ⟨rfl,hb2⟩;have Iq:=hS1.below hb2 hS1.lt;have lq:=tr.below hb2 tr.lt;have hL2:Below w.heap.size w w2:=fW.trans (hb2.mono fW.size);have hsz:=lq.lt;clear hS1 tr fW hb2;cases ho:j5 G S I J n b i d with
 |false=>
  have HO:Hd (mS G S I J n b i d=false/\pD G S I J n b i d=2):=by
   show _/\_;unfold mS pD;rw[HM.Z,ho];exact⟨rfl,rfl⟩
  clear ho;go_wp2_with (first|(refine bm rfl (.tmp 4) (.tmp 16) rfl (w.heap.size+1) (λ_=>0) _ rfl rfl lq ?_))
  intro w3 yO lS;go_wp2_with fail;exact bodyPost_ret (cw rfl _ _ (w.heap.size+1) _ rfl yO) rfl ⟨by rw[ky,HO.Z.1,HO.Z.2];rfl,hL2.trans (lS.below (by omega))⟩
 |true=>
 have HO:Hd (mS G S I J n b i d=true/\pD G S I J n b i d=0):=by
  show _/\_;unfold mS pD;rw[HM.Z,ho];exact⟨rfl,rfl⟩
 have HMD:=ah (yp HM.Z ho).2.2;have Zd:=(yp HM.Z ho).2.1;clear ho;obtain⟨g,hg⟩:=aa w2.heap.size;have hg2:w.heap.size+2<=g:=by omega
 have st0:Hd (XB w G S I J g (dH b i d 0) (w2.alloc (.cells (Ks .u8 256 (λ_=>0)).toArray 32))):=
  ⟨Iq.alloc _,lq.alloc _,by rw[hg];exact(aU.new w2 _ _ _).congr λi _=>(BR i).symm,hL2.alloc hL2.size _⟩
 clear Iq lq hL2 hsz;go_wp2_with fail;rw[<-hg];clear hg;have hsa:=λW=>bw g 0 W
 go_loopw [7] (λu wr=>∃k:Nat,k<=n/\u= .int .i64 (k:Int)/\XB w G S I J g (dH b i d k) wr) (λu _=>n-(intOf u).toNat)
 case atStart=>exact⟨0,by omega,rfl,st0.Z⟩
 clear st0;obtain⟨k,hk,rfl,st⟩:=hrel
 by_cases hlt:k<n
 ·rcases HR.Z with h0|⟨bb,off,rfl,Nx⟩
  ·omega
  have hbb:bb<w.heap.size:=Nx.lt (by omega) (uG _ _ _ _);have lQ:=Nx.below st.bel hbb;have HB:=ah (HMD.Z k hlt);obtain⟨x,hx⟩:=ae (b k);obtain⟨y,hy⟩:=ae (i k);obtain⟨v,hv⟩:=ae (d k);have hx0:=ah hx;have hx1:=ah hy;have hx2:=ah hv;rw[hx,hy,hv] at HB;obtain⟨⟨q1,q2⟩,⟨q3,q4⟩,⟨q5,q6⟩⟩:=HB.Z;clear hx hy hv Nx HB;obtain⟨l0,hl0⟩:=aa (dH b i d k);rw[<-hl0] at st;have Bl:=ah hl0;have st0:Ix w G S I J g bb off n (df b i d) l0 0 0 0 wr:=⟨st.s,st.r,st.b,lQ,st.bel⟩;clear hl0 st lQ;have e0:IntKind.i64.wrap (8*(k:Int))=8*(k:Int):=IntWalk.i64_in _ (by omega);have e1:IntKind.i64.wrap (8*(k:Int)+2)=8*(k:Int)+2:=IntWalk.i64_in _ (by omega);have e2:IntKind.i64.wrap (8*(k:Int)+4)=8*(k:Int)+4:=IntWalk.i64_in _ (by omega);have m1:x%4294967296=x:=by omega
  have m2:y%4294967296=y:=by omega
  have m3:v%4294967296=v:=by omega
  have l9:(0:Int)<=(k:Int):=by omega
  have l8:(k:Int)<(n:Int):=by omega
  have TH:∀X:a9 (λW=>∃j,Ix w G S I J g bb off n (df b i d) l0 (4*k+0) x j W),X.W.cell? ⟨bb,off+k*3,none⟩=some (.int .i64 x):=λX=>by obtain⟨j,h⟩:=X.h;have:=h.q k hlt 0 _ rfl;rw[hx0.Z] at this;exact this
  go_wp2_with fail;refine Mv.bH (Ix w G S I J g bb off n (df b i d) l0 (4*k+0) x) 0 (by kernel_rfl) (by kernel_rfl) (by kernel_rfl) ⟨st0.s,st0.r,st0.b,st0.q,st0.bel.drew⟩ ?_;clear st0;intro hne
  (refine Mv.aX 9 (by kernel_rfl) ?_;simp only[List.take,List.drop])
  iterate 9 go_big_quiet_step (fail)
  refine wpQuiet_nil ?_;refine Mv.cf rfl rfl 97 #[.slice (some ⟨g,0,none⟩) 256 256,.int .i64 (8*(k:Int)),.int .u32 x] (.bool true) 1 (λW=>by kernel_rfl) (λW h=> ?c0) ?_
  case c0=>
   refine(nE g l0 (4*k+0) (8*(k:Int)) x (by omega) (by omega) (by omega) (by omega) W h.b).mono ?_;rintro e w6 ⟨rfl,lr,jo⟩;exact⟨rfl,h.s.only jo (by omega),h.r.only jo (by omega),lr,λi hi j u hu=>(jo.cell (p:=⟨bb,off+i*3+j,none⟩) (by show bb≠g;omega)).trans (h.q i hi j u hu),h.bel.trans (jo.below (by omega))⟩
  refine Mv.frame ?_;refine Mv.bI ?_;intro Yz CP;have fj:Ix w G S I J g bb off n (df b i d) (upd l0 (4*k+0) x) 0 0 0 Yz:=⟨CP.s,CP.r,CP.b,CP.q,CP.bel⟩;clear hne TH CP;obtain⟨l1,hl1⟩:=aa (upd l0 (4*k+0) x);rw[<-hl1] at fj;have kB:=ah hl1;clear hl1;have hf1:∀X:a9 (λW=>∃j,Ix w G S I J g bb off n (df b i d) l1 (4*k+1) y j W),X.W.cell? ⟨bb,off+k*3+1,none⟩=some (.int .i64 y):=λX=>by obtain⟨j,h⟩:=X.h;have:=h.q k hlt 1 _ rfl;rw[hx1.Z] at this;exact this
  go_wp2_with fail;refine Mv.bH (Ix w G S I J g bb off n (df b i d) l1 (4*k+1) y) 0 (by kernel_rfl) (by kernel_rfl) (by kernel_rfl) ⟨fj.s,fj.r,fj.b,fj.q,fj.bel.drew⟩ ?_;clear fj;intro hne
  (refine Mv.aX 10 (by kernel_rfl) ?_;simp only[List.take,List.drop])
  iterate 10 go_big_quiet_step (fail)
  refine wpQuiet_nil ?_;refine Mv.cf rfl rfl 97 #[.slice (some ⟨g,0,none⟩) 256 256,.int .i64 (8*(k:Int)+2),.int .u32 y] (.bool true) 1 (λW=>by kernel_rfl) (λW h=> ?c1) ?_
  case c1=>
   refine(nE g l1 (4*k+1) (8*(k:Int)+2) y (by omega) (by omega) (by omega) (by omega) W h.b).mono ?_;rintro e w6 ⟨rfl,lr,jo⟩;exact⟨rfl,h.s.only jo (by omega),h.r.only jo (by omega),lr,λi hi j u hu=>(jo.cell (p:=⟨bb,off+i*3+j,none⟩) (by show bb≠g;omega)).trans (h.q i hi j u hu),h.bel.trans (jo.below (by omega))⟩
  refine Mv.frame ?_;refine Mv.bI ?_;intro w21 CO;have ec:Ix w G S I J g bb off n (df b i d) (upd l1 (4*k+1) y) 0 0 0 w21:=⟨CO.s,CO.r,CO.b,CO.q,CO.bel⟩;clear hne hf1 CO;obtain⟨l2,hl2⟩:=aa (upd l1 (4*k+1) y);rw[<-hl2] at ec;have ju:=ah hl2;clear hl2;have hf2:∀X:a9 (λW=>∃j,Ix w G S I J g bb off n (df b i d) l2 (4*k+2) v j W),X.W.cell? ⟨bb,off+k*3+2,none⟩=some (.int .i64 v):=λX=>by obtain⟨j,h⟩:=X.h;have:=h.q k hlt 2 _ rfl;rw[hx2.Z] at this;exact this
  go_wp2_with fail;refine Mv.bH (Ix w G S I J g bb off n (df b i d) l2 (4*k+2) v) 0 (by kernel_rfl) (by kernel_rfl) (by kernel_rfl) ⟨ec.s,ec.r,ec.b,ec.q,ec.bel.drew⟩ ?_;clear ec;intro hne
  (refine Mv.aX 10 (by kernel_rfl) ?_;simp only[List.take,List.drop])
  iterate 10 go_big_quiet_step (fail)
  refine wpQuiet_nil ?_;refine Mv.cf rfl rfl 97 #[.slice (some ⟨g,0,none⟩) 256 256,.int .i64 (8*(k:Int)+4),.int .u32 v] (.bool true) 1 (λW=>by kernel_rfl) (λW h=> ?c2) ?_
  case c2=>
   refine(nE g l2 (4*k+2) (8*(k:Int)+4) v (by omega) (by omega) (by omega) (by omega) W h.b).mono ?_;rintro e w6 ⟨rfl,lr,jo⟩;exact⟨rfl,h.s.only jo (by omega),h.r.only jo (by omega),lr,λi hi j u hu=>(jo.cell (p:=⟨bb,off+i*3+j,none⟩) (by show bb≠g;omega)).trans (h.q i hi j u hu),h.bel.trans (jo.below (by omega))⟩
  refine Mv.frame ?_;refine Mv.bI ?_;intro Yy CN;have fw:Ix w G S I J g bb off n (df b i d) (upd l2 (4*k+2) v) 0 0 0 Yy:=⟨CN.s,CN.r,CN.b,CN.q,CN.bel⟩;clear hne hf2 CN;obtain⟨l3,hl3⟩:=aa (upd l2 (4*k+2) v);rw[<-hl3] at fw;have SV:=ah hl3;clear hl3;have st':XB w G S I J g (dH b i d (k+1)) Yy:=⟨fw.s,fw.r,by have:=fw.b;rw[if_pos rfl,SV.Z,ju.Z,kB.Z,Bl.Z,<-hx0.Z,<-hx1.Z,<-hx2.Z] at this;exact this,fw.bel⟩;clear fw Bl kB ju SV;go_wp2_with fail;go_roundw
  case rel=>first|exact⟨k+1,by omega,by go_num,st'⟩|exact⟨k+1,by omega,rfl,st'⟩
  simp[intOf];omega
 obtain rfl:k=n:=by omega
 have hb:=st.b;go_wp2_with (first|(refine de rfl (.tmp 6) rfl g _ rfl hb ?_))
 refine(pa _ (oQ _) _).mono ?_;rintro e w8 ⟨rfl,oh⟩;have Pu:=st.r.below oh st.r.lt;have hL8:Below w.heap.size w w8:=st.bel.trans (oh.mono st.bel.size);clear st hb oh;go_wp2_with (first|(refine bm rfl (.tmp 4) (.tmp 56) rfl (w.heap.size+1) (me (hz (dH b i d k))) _ rfl rfl Pu ?_))
 intro w9 jv gQ;go_wp2_with fail;exact bodyPost_ret (cw rfl _ _ (w.heap.size+1) _ rfl jv) rfl ⟨by rw[ky,HO.Z.1,HO.Z.2];rfl,hL8.trans (gQ.below (by omega))⟩
end Go.Proofs.YtphamecphmbipaaGreatDoor
