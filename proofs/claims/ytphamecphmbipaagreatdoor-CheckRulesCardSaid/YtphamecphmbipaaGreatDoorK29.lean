/- Texts of this claim, merged. -/
import Derived.Test.YtphamecphmbipaaGreatDoorK28
set_option linter.unusedVariables false
set_option maxRecDepth 100000
set_option maxHeartbeats 16000000

namespace Go.Proofs.YtphamecphmbipaaGreatDoor
open Go.RowKit
open Lib (hid)
variable {B m i N len cap:Nat} {W':World} {a:Option Addr} {f:Nat->List Value} {v:Value} {P:PlanD} {S:Nat->Prop} {p:List MemPlace}
structure dy where
 fa:Option Addr
 fc:Nat
 ca:Option Addr
 cc:Nat
 ba:Nat->Option Addr
 bc:Nat->Nat
 na:Nat->Option Addr
 nc:Nat->Nat
def JS(d:dy)(P:PlanD)(i:Nat):List Value:=[.int .u8 (P.f i).kind,.int .i64 (P.f i).size,.slice (d.ba i) (P.f i).nb (d.bc i),.slice (d.na i) (P.f i).nn (d.nc i),.bool (P.f i).ak,.int .i64 (P.f i).aJ]
def blR(f:PF)(k:Nat):List Value:=[.int .i64 (f.bl k)]
def Yg(f:PF)(k:Nat):List Value:=[.int .i64 (f.dir k),.string (f.nm k)]
def WR(P:PlanD)(k:Nat):List Value:=[.int .i64 (P.cb k),.int .i64 (P.ca k),.int .u8 (P.co k)]
abbrev dx(G S I J:Int)(d:dy)(P:PlanD):Array Value:=#[.int .i64 G,.int .i64 S,.int .i64 I,.int .i64 J,.slice d.fa P.nf d.fc,.slice d.ca P.nc d.cc,.bool P.sums]
abbrev tK(G S I J:Int)(d:dy)(P:PlanD):Value:=.agg (dx G S I J d P)
def ku(B:Nat)(W:World)(a:Option Addr)(m n:Nat)(f:Nat->List Value):Prop:=cY W a m n f/\∀b off,a=some ⟨b,off,none⟩->0<n->b<B
theorem ku.below{W:World}{n:Nat}(h:ku B W a m n f)(hb:Below B W W'):ku B W' a m n f:=by
 refine⟨?_,h.2⟩;rcases h.1 with h1|⟨b,off,e,hs⟩
 ·exact .inl h1
 ·by_cases hn:n=0
  ·exact .inl hn
  ·exact .inr ⟨b,off,e,aF.below hs hb (h.2 b off e (by omega))⟩
theorem ku.cell{W:World}{n:Nat}(h:ku B W a m n f){j:Nat}(hi:i<n)(hv:(f i)[j]? =some v):∃b off,a=some ⟨b,off,none⟩/\W.cell? ⟨b,off+i*m+j,none⟩=some v:=by
 rcases h.1 with h1|⟨b,off,e,hs⟩
 ·omega
 ·exact⟨b,off,e,hs i hi j v hv⟩
structure iJ(B:Nat)(d:dy)(P:PlanD)(W:World):Prop where
 f:ku B W d.fa 6 P.nf (JS d P)
 b:∀i,i<P.nf->ku B W (d.ba i) 1 (P.f i).nb (blR (P.f i))
 n:∀i,i<P.nf->ku B W (d.na i) 2 (P.f i).nn (Yg (P.f i))
 c:ku B W d.ca 3 P.nc (WR P)
theorem iJ.below{d:dy}{W:World}(h:iJ B d P W)(hb:Below B W W'):iJ B d P W':=
 ⟨h.f.below hb,λi hi=>(h.b i hi).below hb,λi hi=>(h.n i hi).below hb,h.c.below hb⟩
def PlanD.cn(P:PlanD):Nat->Nat
 |0=>0
 |k+1=>P.cn k+((P.f k).nb+(P.f k).nn)
structure PlanD.Small(P:PlanD):Prop where
 nf:P.nf<=300
 nc:P.nc<=100
 cn:P.cn P.nf<=1000
 nm:∀i,i<P.nf->∀k,k<(P.f i).nn->((P.f i).nm k).size<=1000
structure PlanD.Bd(P:PlanD):Prop where
 nf:(P.nf:Int)<=9223372036854775807
 nc:(P.nc:Int)<=9223372036854775807
 nb:∀i,((P.f i).nb:Int)<=9223372036854775807
 nn:∀i,((P.f i).nn:Int)<=9223372036854775807
 nm:∀i k,(((P.f i).nm k).size:Int)<=9223372036854775807
 kind:∀i,0<=(P.f i).kind/\(P.f i).kind<256
 size:∀i,-9223372036854775808<=(P.f i).size/\(P.f i).size<=9223372036854775807
 aJ:∀i,-9223372036854775808<=(P.f i).aJ/\(P.f i).aJ<=9223372036854775807
 bl:∀i k,-9223372036854775808<=(P.f i).bl k/\(P.f i).bl k<=9223372036854775807
 dir:∀i k,-9223372036854775808<=(P.f i).dir k/\(P.f i).dir k<=9223372036854775807
 cb:∀k,-9223372036854775808<=P.cb k/\P.cb k<=9223372036854775807
 ca:∀k,-9223372036854775808<=P.ca k/\P.ca k<=9223372036854775807
 co:∀k,0<=P.co k/\P.co k<256
def GtQ(P:PlanD)(e:Ending):Prop:=∃b,e= .returned (.bool b)/\(b=false->P.Small)
structure pI(w:World)(G S I J:Int)(d:dy)(P:PlanD)(W:World):Prop where
 p:At W w.heap.size 27 (dx G S I J d P)
 r:iJ w.heap.size d P W
 bel:Below w.heap.size w W
theorem pI.below{w:World}{G S I J:Int}{d:dy}{W:World}(h:pI w G S I J d P W)(hb:Below W.heap.size W W'):pI w G S I J d P W':=
 ⟨h.p.below hb h.p.lt,h.r.below (hb.mono h.bel.size),h.bel.trans (hb.mono h.bel.size)⟩
theorem yy(G S I J:Int)(d:dy)(P:PlanD)(hB:P.Bd)(w:World)(hP:iJ w.heap.size d P w):
  Calls Tryz.prog 8 #[tK G S I J d P] w λe w'=>GtQ P e/\Below w.heap.size w w':=by
 have hb0:Below w.heap.size w (w.alloc (.cells (dx G S I J d P) 27)):=(Below.refl _ _).alloc (Nat.le_refl _) _;have cX:Hid (pI w G S I J d P (w.alloc (.cells (dx G S I J d P) 27))):=⟨At.new _ _ _,hP.below hb0,hb0⟩;have wX:=hid hB;obtain⟨n1,tW⟩:∃n1,n1=P.nf:=⟨_,rfl⟩;have c4:(w.alloc (.cells (dx G S I J d P) 27)).cell? ⟨w.heap.size,4,none⟩=some (.slice d.fa P.nf d.fc):=cX.out.p.cell (i:=4) rfl;have c5:(w.alloc (.cells (dx G S I J d P) 27)).cell? ⟨w.heap.size,5,none⟩=some (.slice d.ca P.nc d.cc):=cX.out.p.cell (i:=5) rfl;have Jo:=hB.nf;have Vh:=hB.nc;clear hP hb0 hB tW;go_enter Tryz.func8,Tryz.ntmps8
 by_cases Rj:300<P.nf
 ·have q0:decide ((300:Int)<(P.nf:Int))=true:=decide_eq_true (by omega)
  have q0':decide (300<P.nf)=true:=decide_eq_true Rj;go_wp2_with fail;go_ret;exact⟨⟨true,rfl,λe=>by cases e⟩,cX.out.bel⟩
 have q0:decide ((300:Int)<(P.nf:Int))=false:=decide_eq_false (by omega);have q0':decide (300<P.nf)=false:=decide_eq_false Rj
 by_cases Rk:100<P.nc
 ·have q1:decide ((100:Int)<(P.nc:Int))=true:=decide_eq_true (by omega)
  have q1':decide (100<P.nc)=true:=decide_eq_true Rk;go_wp2_with fail;go_ret;exact⟨⟨true,rfl,λe=>by cases e⟩,cX.out.bel⟩
 have q1:decide ((100:Int)<(P.nc:Int))=false:=decide_eq_false (by omega);have q1':decide (100<P.nc)=false:=decide_eq_false Rk;go_wp2_with fail;clear c4 c5;go_loopw [3,4,5] (λl i _ wr=>∃k lv:Nat,k<=P.nf/\i= .int .i64 (k:Int)/\l= .int .i64 (lv:Int)/\lv+P.cn k=1000/\(∀t,t<k->∀s,s<(P.f t).nn->((P.f t).nm s).size<=1000)/\pI w G S I J d P wr) (λ_ i _ _=>P.nf-(intOf i).toNat)
 case atStart=>exact⟨0,1000,Nat.zero_le _,rfl,rfl,rfl,λt ht=>absurd ht (Nat.not_lt_zero _),cX.out⟩
 case round=>
  clear cX;obtain⟨k,lv,hk,rfl,rfl,hcn,wO,st⟩:=hrel;have ST:=hid st;have Cc:=hid hcn;have hlv:lv<=1000:=by omega
  have zd:=hid wO;have c4':wr.cell? ⟨w.heap.size,4,none⟩=some (.slice d.fa P.nf d.fc):=st.p.cell (i:=4) rfl;clear st hcn wO
  by_cases hlt:k<P.nf
  ·have hlt':(k:Int)<(P.nf:Int):=by omega
   clear c4';obtain⟨fb,fo,s5,-⟩:=ST.out.r.f.cell (j:=0) hlt rfl;have gM:Hid (∀W,pI w G S I J d P W->W.cell? ⟨fb,fo+k*6+2,none⟩=some (.slice (d.ba k) (P.f k).nb (d.bc k))):=λW h=>by
    obtain⟨b,o,e,hc⟩:=h.r.f.cell (j:=2) hlt rfl;rw[s5] at e;cases e;exact hc
   have uI:Hid (∀W,pI w G S I J d P W->W.cell? ⟨fb,fo+k*6+3,none⟩=some (.slice (d.na k) (P.f k).nn (d.nc k))):=λW h=>by
    obtain⟨b,o,e,hc⟩:=h.r.f.cell (j:=3) hlt rfl;rw[s5] at e;cases e;exact hc
   have zf:Hid (∀W,pI w G S I J d P W->W.cell? ⟨w.heap.size,4,none⟩=some (.slice (some ⟨fb,fo,none⟩) P.nf d.fc)):=λW h=>by rw[<-s5];exact h.p.cell (i:=4) rfl
   clear s5;have c4:=zf.out _ ST.out;have yt:=wX.out.nb k;have fY:=wX.out.nn k;have D3:Hid (P.cn (k+1)=P.cn k+((P.f k).nb+(P.f k).nn)):=rfl;obtain⟨nb,hnb⟩:∃nb,nb=(P.f k).nb:=⟨_,rfl⟩;obtain⟨nn,hnn⟩:∃nn,nn=(P.f k).nn:=⟨_,rfl⟩;have ky:=hid hnn;rw[<-hnb] at gM D3 yt;rw[<-hnn] at uI D3 fY;clear hnb hnn;go_wp2_with fail
   by_cases hbig:lv<nb
   ·have t1:decide ((lv:Int)<(nb:Int))=true:=decide_eq_true (by omega)
    have t1':decide (lv<nb)=true:=decide_eq_true hbig;have PJ:(lv:Int)<(nb:Int):=by omega
    refine ai (pI w G S I J d P) (by kernel_rfl) (by kernel_rfl) (ST.out.below (Below.refl _ _).drew) ?_;clear ST;intro hne;have tY:∀y:aT (pI w G S I J d P),y.W.cell? ⟨w.heap.size,4,none⟩=some (.slice (some ⟨fb,fo,none⟩) P.nf d.fc):=λy=>zf.out _ y.h
    have hc2:∀y:aT (pI w G S I J d P),y.W.cell? ⟨fb,fo+k*6+2,none⟩=some (.slice (d.ba k) nb (d.bc k)):=λy=>gM.out _ y.h
    have hc3:∀y:aT (pI w G S I J d P),y.W.cell? ⟨fb,fo+k*6+3,none⟩=some (.slice (d.na k) nn (d.nc k)):=λy=>uI.out _ y.h
    repeat go_big_quiet_step (fail)
    refine wpQuiet_nil ?_;intro w2 h2';have ST:=hid h2'.out;clear h2' hne tY hc2 hc3;go_wp2_with fail;go_ret;exact⟨⟨true,rfl,λe=>by cases e⟩,ST.out.bel⟩
   have t1:decide ((lv:Int)<(nb:Int))=false:=decide_eq_false (by omega);have t1':decide (lv<nb)=false:=decide_eq_false hbig;have PJ:¬(lv:Int)<(nb:Int):=by omega
   have w1:wrap64 ((lv:Int)-(nb:Int))=(lv:Int)-(nb:Int):=IntWalk.wrap64_in _ (by omega)
   by_cases Q3:lv<nb+nn
   ·have t2:decide ((lv:Int)-(nb:Int)<(nn:Int))=true:=decide_eq_true (by omega)
    have PI:(lv:Int)-(nb:Int)<(nn:Int):=by omega
    refine ai (pI w G S I J d P) (by kernel_rfl) (by kernel_rfl) (ST.out.below (Below.refl _ _).drew) ?_;clear ST;intro hne;have tY:∀y:aT (pI w G S I J d P),y.W.cell? ⟨w.heap.size,4,none⟩=some (.slice (some ⟨fb,fo,none⟩) P.nf d.fc):=λy=>zf.out _ y.h
    have hc2:∀y:aT (pI w G S I J d P),y.W.cell? ⟨fb,fo+k*6+2,none⟩=some (.slice (d.ba k) nb (d.bc k)):=λy=>gM.out _ y.h
    have hc3:∀y:aT (pI w G S I J d P),y.W.cell? ⟨fb,fo+k*6+3,none⟩=some (.slice (d.na k) nn (d.nc k)):=λy=>uI.out _ y.h
    repeat go_big_quiet_step (fail)
    refine wpQuiet_nil ?_;intro w2 h2';have ST:=hid h2'.out;clear h2' hne tY hc2 hc3;go_wp2_with fail;go_ret;exact⟨⟨true,rfl,λe=>by cases e⟩,ST.out.bel⟩
   have t2:decide ((lv:Int)-(nb:Int)<(nn:Int))=false:=decide_eq_false (by omega);have PI:¬(lv:Int)-(nb:Int)<(nn:Int):=by omega
   refine ai (pI w G S I J d P) (by kernel_rfl) (by kernel_rfl) (ST.out.below (Below.refl _ _).drew) ?_;clear ST;intro hne;have tY:∀y:aT (pI w G S I J d P),y.W.cell? ⟨w.heap.size,4,none⟩=some (.slice (some ⟨fb,fo,none⟩) P.nf d.fc):=λy=>zf.out _ y.h
   have hc2:∀y:aT (pI w G S I J d P),y.W.cell? ⟨fb,fo+k*6+2,none⟩=some (.slice (d.ba k) nb (d.bc k)):=λy=>gM.out _ y.h
   have hc3:∀y:aT (pI w G S I J d P),y.W.cell? ⟨fb,fo+k*6+3,none⟩=some (.slice (d.na k) nn (d.nc k)):=λy=>uI.out _ y.h
   repeat go_big_quiet_step (fail)
   refine wpQuiet_nil ?_;intro w2 h2';have ST:=hid h2'.out;clear h2' hne tY hc2 hc3;go_wp2_with fail;refine ai (pI w G S I J d P) (by kernel_rfl) (by kernel_rfl) (ST.out.below (Below.refl _ _).drew) ?_;clear ST;intro hne;have tY:∀y:aT (pI w G S I J d P),y.W.cell? ⟨w.heap.size,4,none⟩=some (.slice (some ⟨fb,fo,none⟩) P.nf d.fc):=λy=>zf.out _ y.h
   have hc2:∀y:aT (pI w G S I J d P),y.W.cell? ⟨fb,fo+k*6+2,none⟩=some (.slice (d.ba k) nb (d.bc k)):=λy=>gM.out _ y.h
   have hc3:∀y:aT (pI w G S I J d P),y.W.cell? ⟨fb,fo+k*6+3,none⟩=some (.slice (d.na k) nn (d.nc k)):=λy=>uI.out _ y.h
   repeat go_big_quiet_step (fail)
   refine wpQuiet_nil ?_;intro w3 h3';have ST:=hid h3'.out;clear h3' hne tY hc2 hc3;go_wp2_with fail;obtain⟨lw,YK⟩:∃lw:Nat,(lw:Int)=(lv:Int)-(nb:Int)-(nn:Int):=⟨lv-nb-nn,by omega⟩;rw[<-YK];have HLW:Hid (lw+P.cn (k+1)=1000):=by show _=_;have:=Cc.out;rw[D3.out];omega
   clear t1 t1' PJ t2 PI w1 hbig Q3 YK c4;go_loopw [5] (λi wr=>∃q:Nat,q<=nn/\i= .int .i64 (q:Int)/\(∀s,s<q->((P.f k).nm s).size<=1000)/\pI w G S I J d P wr) (λi _=>nn-(intOf i).toNat)
   case atStart=>exact⟨0,Nat.zero_le _,rfl,λt ht=>absurd ht (Nat.not_lt_zero _),ST.out⟩
   case round=>
    clear ST;obtain⟨q,hq,rfl,YD,st⟩:=hrel;have ST:=hid st;have HNQ:=hid YD;have c4:=zf.out _ st;have c3:=uI.out _ st;clear st YD
    by_cases Hh:q<nn
    ·have Na:(q:Int)<(nn:Int):=by omega
     have Qv:q<(P.f k).nn:=by rw[<-ky.out];exact Hh
     obtain⟨nb_,no,OO,cn1⟩:=(ST.out.r.n k hlt).cell (j:=1) Qv rfl;rw[OO] at c3;have Li:=wX.out.nm k q;obtain⟨sz,hsz⟩:∃sz,sz=(P.f k).nm q:=⟨_,rfl⟩;have LR:=hid hsz;rw[<-hsz] at cn1 Li;clear hsz Qv
     by_cases hbig:1000<sz.size
     ·have Gc:(1000:Int)<(sz.size:Int):=by omega
      have t1:decide ((1000:Int)<(sz.size:Int))=true:=decide_eq_true Gc;have t2:decide (1000<sz.size)=true:=decide_eq_true hbig;go_wp2_with fail;go_ret;exact⟨⟨true,rfl,λe=>by cases e⟩,ST.out.bel⟩
     ·have Gc:¬(1000:Int)<(sz.size:Int):=by omega
      have t1:decide ((1000:Int)<(sz.size:Int))=false:=decide_eq_false Gc;have t2:decide (1000<sz.size)=false:=decide_eq_false hbig;go_wp2_with fail;go_roundw
      case rel=>exact⟨q+1,by omega,by go_num,λs hs=>by
       rcases Nat.lt_succ_iff_lt_or_eq.mp hs with h|rfl
       ·exact HNQ.out s h
       ·rw[<-LR.out];omega,ST.out⟩
      case measure=>simp[intOf];omega
    ·obtain rfl:q=nn:=by omega
     have Sp:Hid (∀t,t<k+1->∀s,s<(P.f t).nn->((P.f t).nm s).size<=1000):=λt ht s hs=>by
      rcases Nat.lt_succ_iff_lt_or_eq.mp ht with h|rfl
      ·exact zd.out t h s hs
      ·exact HNQ.out s (by rw[ky.out];exact hs)
     go_wp2_with fail;go_roundw
     case rel=>first|exact⟨k+1,lw,by omega,by first|rfl|go_num,rfl,HLW.out,Sp.out,ST.out⟩|((repeat apply Exists.intro);refine⟨?_,rfl⟩;exact⟨k+1,lw,by omega,by first|rfl|go_num,rfl,HLW.out,Sp.out,ST.out⟩)
     case measure=>simp[intOf];omega
  ·obtain rfl:k=P.nf:=by omega
   go_wp2_with fail;go_ret;exact⟨⟨false,rfl,λ_=>⟨by omega,by omega,by have:=Cc.out;omega,zd.out⟩⟩,ST.out.bel⟩
theorem yv{x:Im}(hx:x.Ok){m:MS}{ys:Nat->aK}(h:iB x m ys N)(hi:i<N)(idx:Int):
  iB x (MS.fm x (ys i) idx m).2.2 (af ys i (MS.fm x (ys i) idx m).2.1) N/\(MS.fm x (ys i) idx m).1<=2048/\
  ((MS.fm x (ys i) idx m).1≠0->(MS.fm x (ys i) idx m).1<x.n/\∀z,bm z->iB x ((MS.fm x (ys i) idx m).2.2.put (MS.fm x (ys i) idx m).1 z) (af ys i (MS.fm x (ys i) idx m).2.1) N):=by
 obtain⟨bP,hW,hP⟩:=h;obtain⟨h1,h2,h3,h4,h5,h6,h7,h8,h9,h10,h11⟩:=dL hx.may;have fY:=hx.iu;obtain⟨eN,a1,a2,a3,a4⟩:=MS.JG (x:=x) (by omega) (by omega) hW (hP i hi) idx;have hall:∀k,k<N->MS.N9 x (MS.fm x (ys i) idx m).2.2 eN (af ys i (MS.fm x (ys i) idx m).2.1 k):=λk hk=>by
  unfold af
  by_cases e:k=i
  ·subst e;rw[if_pos rfl];exact a3
  ·rw[if_neg e];exact(hP k hk).ext a2
 refine⟨⟨eN,a1,hall⟩,?_,λh0=>⟨a4.lt h0,λz hz=>⟨eN,a1.Us a4 h0 hz,λk hk=>hall k hk⟩⟩⟩
 by_cases e:(MS.fm x (ys i) idx m).1=0
 ·omega
 ·have:=a4.lt e;omega
abbrev kj(l:List sn)(k:Nat):List Value:=[.int .u32 ((l.getD k default).1:Nat),.string (l.getD k default).2]
structure DU(M q Y N sb:Nat)(sa:Nat->Option Addr)(sc:Nat->Nat)(sl:Nat->List sn)(W:World):Prop where
 c:∀k,k<N->W.cell? ⟨sb,k,none⟩=some (.slice (sa k) (sl k).length (sc k))
 r:∀k,k<N->cY W (sa k) 2 (sl k).length (kj (sl k))
 lt:sb<W.heap.size/\¬MY M q Y sb
 la:∀k b off,k<N->sa k=some ⟨b,off,none⟩->b<W.heap.size/\¬MY M q Y b
theorem DU.o5{M q Y sb:Nat}{sa:Nat->Option Addr}{sc:Nat->Nat}{sl:Nat->List sn}{W:World}(h:DU M q Y N sb sa sc sl W)(k:dJ (MY M q Y) W W'):DU M q Y N sb sa sc sl W':=
 ⟨λi hi=>(World.cell?_of_block (w:=W) (a:=⟨sb,i,none⟩) (k.block sb h.lt.1 h.lt.2)).trans (h.c i hi),λi hi=>(h.r i hi).o5 k λb off e _=>h.la i b off hi e,
  ⟨Nat.lt_of_lt_of_le h.lt.1 k.size,h.lt.2⟩,λi b off hi e=>⟨Nat.lt_of_lt_of_le (h.la i b off hi e).1 k.size,(h.la i b off hi e).2⟩⟩
theorem ku.o5{W:World}{n:Nat}(h:ku B W a m n f)(k:dJ S W W')(hB:B<=W.heap.size)(hS:∀j,j<B->¬S j):ku B W' a m n f:=
 ⟨cY.o5 h.1 k λb off e hn=>⟨Nat.lt_of_lt_of_le (h.2 b off e hn) hB,hS _ (h.2 b off e hn)⟩,h.2⟩
theorem iJ.o5{d:dy}{W:World}(h:iJ B d P W)(k:dJ S W W')(hB:B<=W.heap.size)(hS:∀j,j<B->¬S j):iJ B d P W':=
 ⟨h.f.o5 k hB hS,λi hi=>(h.b i hi).o5 k hB hS,λi hi=>(h.n i hi).o5 k hB hS,h.c.o5 k hB hS⟩
structure mU(B M q Y N sb p:Nat)(x:Im)(m:MS)(ys:Nat->aK)(G S I J:Int)(d:dy)(P:PlanD)(sa:Nat->Option Addr)(sc:Nat->Nat)(sl:Nat->List sn)(w W:World):Prop where
 h:gP M q Y N x m ys w W
 bx:At W p 27 (dx G S I J d P)
 r:iJ B d P W
 s:DU M q Y N sb sa sc sl W
 np:¬MY M q Y p
 nb:∀j,j<B->¬MY M q Y j
 lb:B<=W.heap.size
section
variable {B M q Y N sb p:Nat} {x:Im} {m m':MS} {ys ys':Nat->aK} {G S I J:Int} {d:dy} {P:PlanD} {sa:Nat->Option Addr} {sc:Nat->Nat} {sl:Nat->List sn} {w W W':World}
theorem mU.to(h:mU B M q Y N sb p x m ys G S I J d P sa sc sl w W)(hs:gP M q Y N x m' ys' W W'):mU B M q Y N sb p x m' ys' G S I J d P sa sc sl w W':=
 ⟨⟨hs.p,hs.y,h.h.gr.trans hs.gr⟩,h.bx.o5 hs.gr h.np,h.r.o5 hs.gr h.lb h.nb,h.s.o5 hs.gr,h.np,h.nb,Nat.le_trans h.lb hs.gr.size⟩
theorem mU.self(h:mU B M q Y N sb p x m ys G S I J d P sa sc sl w W):gP M q Y N x m ys W W:=⟨h.h.p,h.h.y,.refl _ _⟩
theorem mU.below(h:mU B M q Y N sb p x m ys G S I J d P sa sc sl w W)(hb:Below W.heap.size W W'):mU B M q Y N sb p x m ys G S I J d P sa sc sl w W':=h.to (h.self.below hb)
theorem mU.kind(h:mU B M q Y N sb p x m ys G S I J d P sa sc sl w W)(hi:i<N):W.cell? ⟨Y,i*16,none⟩=some (.int .u8 (ys i).kind):=by
 have:=h.h.y.bI i hi 0 _ rfl;rwa[Nat.zero_add,Nat.add_zero] at this
theorem mU.size(h:mU B M q Y N sb p x m ys G S I J d P sa sc sl w W)(hi:i<N):W.cell? ⟨Y,i*16+3,none⟩=some (.int .i64 (ys i).size):=by
 have:=h.h.y.bI i hi 3 _ rfl;rwa[Nat.zero_add] at this
theorem gP.IK(h:gP M q Y N x m ys w W)(hi:i<N)(v:Int):gP M q Y N x m (af ys i {ys i with size:=v}) w (W.setCell ⟨Y,i*16+3,none⟩ (.int .i64 v)):=by
 have ho:=an.setCell W ⟨Y,i*16+3,none⟩ (.int .i64 v);obtain⟨f,hf⟩:=h.p.k;refine⟨⟨⟨f,hf.only ho h.SQ⟩,h.p.im.only ho h.neq⟩,?_,h.gr.trans (.bW ho (.inr (.inr rfl)))⟩;have:=h.y.dz (k:=i) (j:=3) hi (by omega) (λj=>nH ys j) (.int .i64 v);refine this.congr λj hj=> ?_
 unfold vM af
 by_cases e:j=i
 ·subst e;rw[if_pos rfl,if_pos rfl];rfl
 ·rw[if_neg e,if_neg e]
theorem mU.slot(h:mU B M q Y N sb p x m ys G S I J d P sa sc sl w W){k:Nat}(hi:i<N)(hk:k<(sl i).length):∃b off,sa i=some ⟨b,off,none⟩/\∀W',mU B M q Y N sb p x m ys G S I J d P sa sc sl w W'->(∀j v,(kj (sl i) k)[j]? =some v->W'.cell? ⟨b,off+k*2+j,none⟩=some v):=by
 rcases h.s.r i hi with h0|⟨b,off,e,-⟩
 ·omega
 ·refine⟨b,off,e,λW' h' j v hv=> ?_⟩
  rcases h'.s.r i hi with h0|⟨b',off',e',hs⟩
  ·omega
  ·rw[e] at e';cases e'
   exact hs k hk j v hv
end
theorem tx{α:Type}(f:Nat->α)(i:Nat):af f i (f i)=f:=by
 funext k;unfold af;split
 ·rename_i e;rw[e]
 ·rfl
theorem xi{α:Type}(f:Nat->α)(i:Nat)(u v:α):af (af f i u) i v=af f i v:=by
 funext k;unfold af;split<;>rfl
theorem Bf{α:Type}(f:Nat->α)(i:Nat)(u:α):af f i u i=u:=if_pos rfl
theorem Ae(B M q Y N sb:Nat)(x:Im)(hx:x.Ok)(m:MS)(ys:Nat->aK)(hI:iB x m ys N)(hN:N<=4096)(G S I J:Int)(d:dy)(P:PlanD)(hB:P.Bd)(hS:P.Small)(hNP:N<=P.nf+1)(sa:Nat->Option Addr)(sc:Nat->Nat)(sl:Nat->List sn)(hl:∀k,k<N->(sl k).length<=4000/\∀t,t<(sl k).length->((sl k).getD t default).1<4294967296)
  (w:World) (hs:gP M q Y N x m ys w w) (hP:iJ B d P w) (hBw:B<=w.heap.size) (OP:∀j,j<B->¬MY M q Y j) (Zb:DU M q Y N sb sa sc sl w) (Lt:∀j,MY M q Y j->j<w.heap.size):
  Calls Tryz.prog 29 #[.pointer (some ⟨M,0,none⟩),tK G S I J d P,.slice (some ⟨Y,0,none⟩) N N,.slice (some ⟨sb,0,none⟩) N N] w λe w'=>
   e= .returned (.tuple #[])/\gP M q Y N x (P.fill x ⟨ys,sl⟩ m N).m (P.fill x ⟨ys,sl⟩ m N).ino w w'/\iB x (P.fill x ⟨ys,sl⟩ m N).m (P.fill x ⟨ys,sl⟩ m N).ino N:=by
 have cX:Hid (mU B M q Y N sb w.heap.size x m ys G S I J d P sa sc sl w (w.alloc (.cells (dx G S I J d P) 27))):=by
  have hb:Below w.heap.size w (w.alloc (.cells (dx G S I J d P) 27)):=(Below.refl _ _).alloc (Nat.le_refl _) _;have hg:dJ (MY M q Y) w (w.alloc (.cells (dx G S I J d P) 27)):=.bQ hb;exact⟨hs.below hb,At.new _ _ _,hP.o5 hg hBw OP,Zb.o5 hg,λe=>Nat.lt_irrefl _ (Lt _ e),OP,Nat.le_trans hBw hb.size⟩
 have HX:=hid hx;have HI:=hid hI;have wX:=hid hB;have wW:=hid hS;have HL:=hid hl;clear hx hI hB hS hl hs hP Zb Lt OP;go_enter Tryz.func29,Tryz.ntmps29;go_wp2_with fail;go_loopw [8,9,10,11,12] (λi _ _ _ _ wr=>∃k:Nat,k<=N/\i= .int .i64 (k:Int)/\iB x (P.fill x ⟨ys,sl⟩ m k).m (P.fill x ⟨ys,sl⟩ m k).ino N/\mU B M q Y N sb w.heap.size x (P.fill x ⟨ys,sl⟩ m k).m (P.fill x ⟨ys,sl⟩ m k).ino G S I J d P sa sc sl w wr) (λi _ _ _ _ _=>N-(intOf i).toNat)
 case atStart=>exact⟨0,Nat.zero_le _,rfl,HI.out,cX.out⟩
 case round=>
  clear cX HI;obtain⟨k,hk,rfl,hi,st⟩:=hrel
  by_cases hlt:k<N
  ·have hlt':(k:Int)<(N:Int):=by omega
   obtain⟨F,hF⟩:∃F,F=P.fill x ⟨ys,sl⟩ m k:=⟨_,rfl⟩;have TY:Hid (P.fill x ⟨ys,sl⟩ m (k+1)=P.uf x sl k F):=by rw[hF];rfl
   rw[<-hF] at hi st;have HI:=hid hi;have ST:=hid st;have Hi:=(HL.out k hlt).1;obtain⟨ln,Jt⟩:∃ln,ln=(sl k).length:=⟨_,rfl⟩;have Ic:=hid Jt;have ck:=st.kind hlt;have cs:=st.s.c k hlt;have c3:=st.size hlt;have fs:=st.h.y.soft (k*16+3);rw[<-Jt] at Hi cs;clear hi st hF Jt
   by_cases fE:(F.ino k).kind=2
   ·have q1:((F.ino k).kind==2)=true:=by simp[fE]
    obtain⟨y0,hy0⟩:∃y0:aK,y0={F.ino k with size:=256*((((sl k).length+7)/8:Nat):Int)}:=⟨_,rfl⟩;obtain⟨Ht,JL⟩:∃Ht:Nat->PlanD.HS,Ht=λt=>PlanD.oW (PlanD.Bh x (sl k)) t ⟨y0,F.m⟩:=⟨_,rfl⟩
    have Sb:Hid (Ht 0=⟨y0,F.m⟩):=by show _=_;rw[JL];rfl
    have Xy:Hid (∀t,Ht (t+1)=PlanD.Bh x (sl k) t (Ht t)):=λt=>by rw[JL];rfl
    have jB:Hid (P.fill x ⟨ys,sl⟩ m (k+1)=⟨af F.ino k (Ht ln).y,(Ht ln).m⟩):=by
     show _=_;rw[TY.out,PlanD.uf,PlanD.FK];dsimp only;rw[if_pos fE,JL,hy0,Ic.out]
    have HI1:Hid (iB x F.m (af F.ino k y0) N):=by
     obtain⟨bP,h1,h2⟩:=HI.out;refine⟨bP,h1,λj hj=> ?_⟩;unfold af
     by_cases e:j=k
     ·subst e;rw[if_pos rfl,hy0];exact h2 j hj
     ·rw[if_neg e];exact h2 j hj
    have aV:Hid (mU B M q Y N sb w.heap.size x F.m (af F.ino k y0) G S I J d P sa sc sl w (wr.setCell ⟨Y,k*16+3,none⟩ (.int .i64 (256*(((ln:Int)+7)/8))))):=by
     have:=ST.out.to (ST.out.self.IK hlt (256*(((ln:Int)+7)/8)));have e:y0={F.ino k with size:=256*(((ln:Int)+7)/8)}:=by rw[hy0,<-Ic.out];push_cast;rfl
     rw[e];exact this
    clear ST HI TY JL hy0;go_wp2_with fail;clear ck cs c3 fs q1 fE;go_loopw [9,10] (λu _ wr=>∃t:Nat,t<=ln/\u= .int .i64 (t:Int)/\iB x (Ht t).m (af F.ino k (Ht t).y) N/\mU B M q Y N sb w.heap.size x (Ht t).m (af F.ino k (Ht t).y) G S I J d P sa sc sl w wr) (λu _ _=>ln-(intOf u).toNat)
    case atStart=>exact⟨0,Nat.zero_le _,rfl,by rw[Sb.out];exact HI1.out,by rw[Sb.out];exact aV.out⟩
    case round=>
     clear aV HI1;obtain⟨t,ht,rfl,hi,st⟩:=hrel;have HI:=hid hi;have ST:=hid st;have cs:=st.s.c k hlt;rw[<-Ic.out] at cs;clear hi st
     by_cases Hh:t<ln
     ·have Na:(t:Int)<(ln:Int):=by omega
      have htl:t<(sl k).length:=by rw[<-Ic.out];exact Hh
      obtain⟨R,hR⟩:∃R,R=MS.fm x (Ht t).y ((t:Int)/8) (Ht t).m:=⟨_,rfl⟩;have wI:Hid (Ht (t+1)=⟨R.2.1,if 0<R.1/\((sl k).getD t default).2.size<=27 then R.2.2.put R.1 (z8 (R.2.2.L R.1) (t%8) (bS (((sl k).getD t default).1:Nat) ((sl k).getD t default).2)) else R.2.2⟩):=by
       show _=_;rw[Xy.out t,PlanD.Bh,show((t/8:Nat):Int)=(t:Int)/8 from rfl,hR]
      have HV:=hid (yv HX.out HI.out hlt ((t:Int)/8));have hcall:=λ(W:World) (hW:gP M q Y N x (Ht t).m (af F.ino k (Ht t).y) W W)=>rj M q Y N x HX.out (Ht t).m (af F.ino k (Ht t).y) HI.out k hlt hN ((t:Int)/8) W hW
      rw[Bf,<-hR,xi] at HV hcall;have HC:=hid hcall;obtain⟨r1,r2,r3⟩:=R;dsimp only at HV HC wI;clear hcall hR HI;go_wp2_with fail;refine(HC.out _ ST.out.self).mono ?_;rintro e w1 ⟨rfl,hs1⟩;have aV:=hid (ST.out.to hs1);clear ST hs1 HC cs;obtain⟨nm,wO⟩:∃nm,nm=((sl k).getD t default).2:=⟨_,rfl⟩;obtain⟨ino,yp⟩:∃ino,ino=((sl k).getD t default).1:=⟨_,rfl⟩;have ac5:ino<4294967296:=by rw[yp];exact(HL.out k hlt).2 t htl
      rw[<-wO,<-yp] at wI;obtain⟨sb1,SM,hsa,hsc⟩:=aV.out.slot hlt htl;have HSC:=hid hsc;have cs:w1.cell? ⟨sb,k,none⟩=some (.slice (some ⟨sb1,SM,none⟩) ln (sc k)):=by
       have:=aV.out.s.c k hlt;rwa[<-Ic.out,hsa] at this
      have cn:w1.cell? ⟨sb1,SM+t*2+1,none⟩=some (.string nm):=by rw[wO];exact hsc _ aV.out 1 _ rfl
      have zd:=hid (And.intro wO yp);have Sf:=hid hsa;clear hsa hsc wO yp htl;have Jn:=HV.out.2.1
      by_cases BF:r1=0
      ·subst BF
       have jA:Hid (Ht (t+1)=⟨r2,r3⟩):=by show _=_;rw[wI.out,if_neg (by omega)]
       have zw:=hid HV.out.1;go_wp2_with fail;go_roundw
       case rel=>exact⟨t+1,by omega,by go_num,by rw[jA.out];exact zw.out,by rw[jA.out];exact aV.out⟩
       case measure=>simp[intOf];omega
      have Dr:0<r1:=by omega
      have UX:(0:Int)<(r1:Int):=by omega
      by_cases F1:nm.size<=27
      ·have FZ:(nm.size:Int)<=27:=by omega
       have t1:decide ((nm.size:Int)<=27)=true:=decide_eq_true FZ;have t2:decide (nm.size<=27)=true:=decide_eq_true F1;obtain⟨OK,hput⟩:=HV.out.2.2 (by omega);have UY:(r1:Int)<(x.n:Int):=by omega
       obtain⟨Z,hZ⟩:∃Z,Z=z8 (r3.L r1) (t%8) (bS (ino:Int) nm):=⟨_,rfl⟩;have jA:Hid (Ht (t+1)=⟨r2,r3.put r1 Z⟩):=by show _=_;rw[wI.out,if_pos ⟨Dr,F1⟩,hZ]
       have zw:Hid (iB x (r3.put r1 Z) (af F.ino k r2) N):=hput Z (by
        rw[hZ];refine eY (HV.out.1.jg.1 r1) ?_ _ _;unfold bS;split
        ·exactλ_=>⟨Int.le_refl _,by show(0:Int)<256;decide⟩
        ·exact J7 _ F1)
       have zb:Hid (∀W,Calls Tryz.prog 65 #[aL (r3.L r1),.int .i64 ((t:Int)%8),sv (ino:Int) nm] W λe w'=>e= .returned (aL Z)/\Below W.heap.size W w'):=λW=>by
        rw[hZ];exact Fb (r3.L r1) (t%8) (by omega) (ino:Int) nm ⟨by omega,by omega⟩ (.inr F1) W
       clear hput hZ HV;go_wp2_with fail;refine aA (mU B M q Y N sb w.heap.size x r3 (af F.ino k r2) G S I J d P sa sc sl w) 23 (by kernel_rfl) (by kernel_rfl) (by kernel_rfl) (by kernel_rfl) (by kernel_rfl) (by decide) (aV.out.below (Below.refl _ _).drew) ?_;clear aV;simp only[List.take,List.drop];intro hne;have hc0:∀y:aT (mU B M q Y N sb w.heap.size x r3 (af F.ino k r2) G S I J d P sa sc sl w),y.W.cell? ⟨M,0,none⟩=some (.slice (some ⟨q,0,none⟩) x.n x.n):=λy=>y.h.h.p.c0
       have hcs:∀y:aT (mU B M q Y N sb w.heap.size x r3 (af F.ino k r2) G S I J d P sa sc sl w),y.W.cell? ⟨sb,k,none⟩=some (.slice (some ⟨sb1,SM,none⟩) ln (sc k)):=λy=>by
        have:=y.h.s.c k hlt;rwa[<-Ic.out,Sf.out] at this
       repeat go_big_quiet_step (fail)
       refine aH rfl 32 (.tmp 77) rfl q (r1*256) rfl (dW r3.L r1) _ (λW h=>by have:=aF.range h.h.p.im.bI r1 OK;rwa[Nat.zero_add] at this) Tryz.underlying32 rfl (by rw[aZ];exact au) ?_;refine ae ?_
       repeat go_big_quiet_step (fail)
       refine aH rfl 90 (.tmp 86) rfl sb1 (SM+t*2) rfl [.int .u32 (ino:Int),.string nm] _ (λW h=>by
        have:=HSC.out W h;rw[zd.out.1,zd.out.2]
        exactλj v hv=>this j v hv) Tryz.underlying90 rfl (by kernel_rfl) ?_
       refine ae ?_
       go_big_quiet_want
       go_big_quiet_op
       refine⟨_,λs=>aG s (λW hW=>(zb.out W).mono λe w' h=>⟨h.1,hW.below h.2⟩),?_⟩
       go_big_quiet_on
       repeat go_big_quiet_step (fail)
       refine wpQuiet_nil ?_;intro w2 h2';have cf:=hid h2'.out;clear h2' hne hc0 hcs;have gn:w2.there q (r1*256) (Ks .u8 256 Z).length:=by rw[bD];exact cf.out.h.p.im.there OK
       have Ds:=cf.out.h.p.put OK Z;have eP:=hid (cf.out.to (cf.out.self.n6 Ds.1 (.bW Ds.2 (.inr rfl))));clear cf Ds;go_wp2_with (first|(refine iK rfl 32 (.tmp 89) (.tmp 88) rfl q (r1*256) (Ks .u8 256 Z) rfl rfl gn (by rw[bD];exact au) (B6 _ _ _) ?_))
       intro w9 Hf;rw[<-Hf.out] at eP;clear Hf gn;go_wp2_with fail;go_roundw
       case rel=>exact⟨t+1,by omega,by go_num,by rw[jA.out];exact zw.out,by rw[jA.out];exact eP.out⟩
       case measure=>simp[intOf];omega
      ·have FZ:¬(nm.size:Int)<=27:=by omega
       have t1:decide ((nm.size:Int)<=27)=false:=decide_eq_false FZ;have t2:decide (nm.size<=27)=false:=decide_eq_false F1;have jA:Hid (Ht (t+1)=⟨r2,r3⟩):=by show _=_;rw[wI.out,if_neg (by omega)]
       have zw:=hid HV.out.1;go_wp2_with fail;go_roundw
       case rel=>exact⟨t+1,by omega,by go_num,by rw[jA.out];exact zw.out,by rw[jA.out];exact aV.out⟩
       case measure=>simp[intOf];omega
     ·obtain rfl:t=ln:=by omega
      go_wp2_with fail;go_roundw
      case rel=>first|exact⟨k+1,by omega,by first|rfl|go_num,by rw[jB.out];exact HI.out,by rw[jB.out];exact ST.out⟩|((repeat apply Exists.intro);refine⟨?_,rfl⟩;exact⟨k+1,by omega,by first|rfl|go_num,by rw[jB.out];exact HI.out,by rw[jB.out];exact ST.out⟩)
      case measure=>simp[intOf];omega
   ·have q1:((F.ino k).kind==2)=false:=by simp[fE]
    obtain⟨C6,Jp⟩:∃C6,C6=if k=0 then 0 else(P.f (k-1)).nb:=⟨_,rfl⟩
    obtain⟨Ht,JL⟩:∃Ht:Nat->PlanD.HS,Ht=λt=>PlanD.oW (PlanD.wB x (P.f (k-1)).bl) t ⟨F.ino k,F.m⟩:=⟨_,rfl⟩
    have Sb:Hid (Ht 0=⟨F.ino k,F.m⟩):=by show _=_;rw[JL];rfl
    have Xy:Hid (∀t,Ht (t+1)=PlanD.wB x (P.f (k-1)).bl t (Ht t)):=λt=>by rw[JL];rfl
    have jB:Hid (P.fill x ⟨ys,sl⟩ m (k+1)=⟨af F.ino k (Ht C6).y,(Ht C6).m⟩):=by
     show _=_;rw[TY.out,PlanD.uf,PlanD.FK];dsimp only;rw[if_neg fE,JL,Jp]
     by_cases e:k=0
     ·rw[if_pos e,if_pos e];rfl
     ·rw[if_neg e,if_neg e]
    have acQ:C6<=1000:=by
     rw[Jp];split
     ·omega
     ·have h1:=wW.out.cn
      have:∀n,n<=P.nf->k-1<n->(P.f (k-1)).nb<=P.cn n:=λn=>by
       induction n with
       |zero=>intro _ h;omega
       |succ n ih=>
        intro hn h;rw[PlanD.cn]
        by_cases e:k-1=n
        ·rw[e];omega
        ·have:=ih (by omega) (by omega);omega
      have:=this P.nf (Nat.le_refl _) (by omega);omega
    have XH:=hid Jp;clear TY JL Jp;go_wp2_with fail;clear ck cs c3 fs q1 fE;go_loopw [11,12] (λu _ wr=>∃t:Nat,t<=C6/\u= .int .i64 (t:Int)/\iB x (Ht t).m (af F.ino k (Ht t).y) N/\mU B M q Y N sb w.heap.size x (Ht t).m (af F.ino k (Ht t).y) G S I J d P sa sc sl w wr) (λu _ _=>C6-(intOf u).toNat)
    case atStart=>exact⟨0,Nat.zero_le _,rfl,by rw[Sb.out,tx];exact HI.out,by rw[Sb.out,tx];exact ST.out⟩
    case round=>
     clear ST HI;obtain⟨t,ht,rfl,hi,st⟩:=hrel;have HI:=hid hi;have ST:=hid st;clear hi st
     by_cases Hh:t<C6
     ·have Na:(t:Int)<(C6:Int):=by omega
      obtain⟨k',rfl⟩:∃k',k=k'+1:=⟨k-1,by have:=XH.out;split at this<;>omega⟩;have hk':k'<P.nf:=by omega
      have zu:Hid (C6=(P.f k').nb):=by show _=_;rw[XH.out,if_neg (by omega),Nat.add_sub_cancel]
      have c4:wr.cell? ⟨w.heap.size,4,none⟩=some (.slice d.fa P.nf d.fc):=ST.out.bx.cell (i:=4) rfl;obtain⟨fb,fo,s5,WQ⟩:=ST.out.r.f.cell (j:=2) hk' rfl;obtain⟨bb,bo,Q4,-⟩:=(ST.out.r.b k' hk').cell (j:=0) (show t<(P.f k').nb by rw[<-zu.out];exact Hh) rfl;have gM:Hid (∀W,mU B M q Y N sb w.heap.size x (Ht t).m (af F.ino (k'+1) (Ht t).y) G S I J d P sa sc sl w W->W.cell? ⟨fb,fo+k'*6+2,none⟩=some (.slice (some ⟨bb,bo,none⟩) C6 (d.bc k'))):=λW h=>by
       obtain⟨b,o,e,hc⟩:=h.r.f.cell (j:=2) hk' rfl;rw[s5] at e;cases e;rw[Q4,<-zu.out] at hc;exact hc
      have zf:Hid (∀W,mU B M q Y N sb w.heap.size x (Ht t).m (af F.ino (k'+1) (Ht t).y) G S I J d P sa sc sl w W->W.cell? ⟨w.heap.size,4,none⟩=some (.slice (some ⟨fb,fo,none⟩) P.nf d.fc)):=λW h=>by rw[<-s5];exact h.bx.cell (i:=4) rfl
      obtain⟨bl,hbl⟩:∃bl,bl=(P.f k').bl t:=⟨_,rfl⟩;have SG:Hid (∀W,mU B M q Y N sb w.heap.size x (Ht t).m (af F.ino (k'+1) (Ht t).y) G S I J d P sa sc sl w W->W.cell? ⟨bb,bo+t,none⟩=some (.int .i64 bl)):=λW h=>by
       obtain⟨b,o,e,hc⟩:=(h.r.b k' hk').cell (j:=0) (show t<(P.f k').nb by rw[<-zu.out];exact Hh) rfl;rw[Q4] at e;cases e;rwa[Nat.mul_one,Nat.add_zero,<-hbl] at hc
      clear WQ c4 s5 Q4;have c4:=zf.out _ ST.out;have c2:=gM.out _ ST.out;have Vz:(k':Int)<(P.nf:Int):=by omega
      have Jo:=wW.out.nf;obtain⟨R,hR⟩:∃R,R=MS.fm x (Ht t).y bl (Ht t).m:=⟨_,rfl⟩;have wI:Hid (Ht (t+1)=⟨R.2.1,if 0<R.1 then R.2.2.put R.1 (over (R.2.2.L R.1) 0 1 (λ_=>((t+1:Nat):Int)%256)) else R.2.2⟩):=by
       show _=_;rw[Xy.out t,PlanD.wB,Nat.add_sub_cancel,<-hbl,hR]
      have HV:=hid (yv HX.out HI.out hlt bl);have hcall:=λ(W:World) (hW:gP M q Y N x (Ht t).m (af F.ino (k'+1) (Ht t).y) W W)=>rj M q Y N x HX.out (Ht t).m (af F.ino (k'+1) (Ht t).y) HI.out (k'+1) hlt hN bl W hW
      rw[Bf,<-hR,xi] at HV hcall;have HC:=hid hcall;obtain⟨r1,r2,r3⟩:=R;dsimp only at HV HC wI;clear hcall hR HI hbl;go_wp2_with fail;refine aA (mU B M q Y N sb w.heap.size x (Ht t).m (af F.ino (k'+1) (Ht t).y) G S I J d P sa sc sl w) 14 (by kernel_rfl) (by kernel_rfl) (by kernel_rfl) (by kernel_rfl) (by kernel_rfl) (by decide) (ST.out.below (Below.refl _ _).drew) ?_;clear ST c4 c2;simp only[List.take,List.drop];intro hne;have tY:∀y:aT (mU B M q Y N sb w.heap.size x (Ht t).m (af F.ino (k'+1) (Ht t).y) G S I J d P sa sc sl w),y.W.cell? ⟨w.heap.size,4,none⟩=some (.slice (some ⟨fb,fo,none⟩) P.nf d.fc):=λy=>zf.out _ y.h
      have hc2:∀y:aT (mU B M q Y N sb w.heap.size x (Ht t).m (af F.ino (k'+1) (Ht t).y) G S I J d P sa sc sl w),y.W.cell? ⟨fb,fo+k'*6+2,none⟩=some (.slice (some ⟨bb,bo,none⟩) C6 (d.bc k')):=λy=>gM.out _ y.h
      have hcb:∀y:aT (mU B M q Y N sb w.heap.size x (Ht t).m (af F.ino (k'+1) (Ht t).y) G S I J d P sa sc sl w),y.W.cell? ⟨bb,bo+t,none⟩=some (.int .i64 bl):=λy=>SG.out _ y.h
      repeat go_big_quiet_step (fail)
      refine wpQuiet_nil ?_;intro w1 h1';have aV:=hid h1'.out;clear h1' hne tY hc2 hcb;go_wp2_with fail;refine(HC.out _ aV.out.self).mono ?_;rintro e w2 ⟨rfl,hs2⟩;have cf:=hid (aV.out.to hs2);clear aV hs2 HC;have Jn:=HV.out.2.1
      by_cases BF:r1=0
      ·subst BF
       have jA:Hid (Ht (t+1)=⟨r2,r3⟩):=by show _=_;rw[wI.out,if_neg (by omega)]
       have zw:=hid HV.out.1;go_wp2_with fail;go_roundw
       case rel=>first|exact⟨t+1,by omega,by go_num,by rw[jA.out];exact zw.out,by rw[jA.out];exact cf.out⟩|((repeat apply Exists.intro);refine⟨?_,rfl⟩;exact⟨t+1,by omega,by go_num,by rw[jA.out];exact zw.out,by rw[jA.out];exact cf.out⟩)
       case measure=>simp[intOf];omega
      have Dr:0<r1:=by omega
      have UX:(0:Int)<(r1:Int):=by omega
      obtain⟨OK,hput⟩:=HV.out.2.2 (by omega);have UY:(r1:Int)<(x.n:Int):=by omega
      obtain⟨Z,hZ⟩:∃Z,Z=over (r3.L r1) 0 1 (λ_=>((t+1:Nat):Int)%256):=⟨_,rfl⟩;have jA:Hid (Ht (t+1)=⟨r2,r3.put r1 Z⟩):=by show _=_;rw[wI.out,if_pos Dr,hZ]
      have zw:Hid (iB x (r3.put r1 Z) (af F.ino (k'+1) r2) N):=hput Z (by
       rw[hZ];exact eY (HV.out.1.jg.1 r1) (λ_=>⟨by omega,by omega⟩) _ _)
      have HZ:=hid hZ;clear hput hZ HV;have c0:=cf.out.h.p.c0;have fz:=cf.out.h.p.im.soft (r1*256);have cz:w2.cell? ⟨q,r1*256,none⟩=some (.int .u8 (r3.L r1 0)):=by
       have:=cf.out.h.p.bI OK 0 (by decide);rwa[Nat.add_zero] at this
      have hpt:fN q (r1*256+0) 1 (λ_=>((t+1:Nat):Int)%256) w2 (w2.setCell ⟨q,r1*256,none⟩ (.int .u8 (((t:Int)+1)%256))):=
       (fN.nil q (r1*256+0) (λ_=>((t+1:Nat):Int)%256) w2).snoc (u:=.int .u8 (r3.L r1 0)) cz rfl
      have eP:=hid (cf.out.to (cf.out.self.n6 (cf.out.h.p.kn OK (by omega) hpt) (.bW hpt.only (.inr rfl))));rw[<-HZ.out] at eP;clear cf hpt HZ;go_wp2_with fail;go_roundw
      case rel=>first|exact⟨t+1,by omega,by go_num,by rw[jA.out];exact zw.out,by rw[jA.out];exact eP.out⟩|((repeat apply Exists.intro);refine⟨?_,rfl⟩;exact⟨t+1,by omega,by go_num,by rw[jA.out];exact zw.out,by rw[jA.out];exact eP.out⟩)
      case measure=>simp[intOf];omega
     ·obtain rfl:t=C6:=by omega
      by_cases ke:k=0
      ·subst ke
       go_wp2_with fail;go_roundw
       case rel=>first|exact⟨1,by omega,by first|rfl|go_num,by rw[jB.out];exact HI.out,by rw[jB.out];exact ST.out⟩|((repeat apply Exists.intro);refine⟨?_,rfl⟩;exact⟨1,by omega,by first|rfl|go_num,by rw[jB.out];exact HI.out,by rw[jB.out];exact ST.out⟩)
       case measure=>simp[intOf];omega
      obtain⟨k',rfl⟩:∃k',k=k'+1:=⟨k-1,by omega⟩;have hk':k'<P.nf:=by omega
      have e1:t=(P.f k').nb:=by rw[XH.out,if_neg (by omega),Nat.add_sub_cancel]
      have c4:wr.cell? ⟨w.heap.size,4,none⟩=some (.slice d.fa P.nf d.fc):=ST.out.bx.cell (i:=4) rfl;obtain⟨fb,fo,s5,WQ⟩:=ST.out.r.f.cell (j:=2) hk' rfl;rw[s5] at c4;rw[<-e1] at WQ;have Vz:(k':Int)<(P.nf:Int):=by omega
      have Jo:=wW.out.nf;clear s5 e1;go_wp2_with fail;go_roundw
      case rel=>first|exact⟨k'+1+1,by omega,by first|rfl|go_num,by rw[jB.out];exact HI.out,by rw[jB.out];exact ST.out⟩|((repeat apply Exists.intro);refine⟨?_,rfl⟩;exact⟨k'+1+1,by omega,by first|rfl|go_num,by rw[jB.out];exact HI.out,by rw[jB.out];exact ST.out⟩)
      case measure=>simp[intOf];omega
  ·obtain rfl:k=N:=by omega
   have ST:=hid st;have HI:=hid hi;clear st hi;go_wp2_with fail;refine bodyPost_end (results_none rfl _ _ _) rfl ⟨rfl,ST.out.h,HI.out⟩
section
open Go.ChangeShapes Go.WideShapes Go.ChangeAt Go.Deep
theorem IF{W:World}{n:Nat}(h:cY W a m n f)(hf:∀i,(f i)[0]?≠none):∀b off,a=some ⟨b,off,none⟩->0<n->b<W.heap.size:=by
 intro b off e hn;rcases h with h|⟨b',off',e',hs⟩
 ·omega
 ·rw[e] at e';injection e' with e';injection e' with e1 e2;subst e1 e2
  cases hv:(f 0)[0]? with
  |none=>exact absurd hv (hf 0)
  |some v=>exact World.block_lt_of_cell? W _ (hs 0 hn 0 v hv)
theorem pT{W:World}{n:Nat}(h:cY W a m n f)(hf:∀i,(f i)[0]?≠none):ku W.heap.size W a m n f:=⟨h,IF h hf⟩
theorem Fw{H:Type}{enc:TypeId×Value->H}{W:World}{d:DataW H}(h:DataW.Trod enc Tryz.prog W 0 (λ_=>true) true 76 (.slice a len cap) d p):
  ∃(xb:Nat->Int) (xs:Nat->ByteArray),cY W a 2 len (λi=>[.int .i64 (xb i),.string (xs i)])/\(∀i,-9223372036854775808<=xb i/\xb i<=9223372036854775807)/\(∀i,(xs i).size<=9223372036854775807)/\(len:Int)<=9223372036854775807:=by
 obtain⟨fuel,hf⟩:=h;rcases open_slice Tryz.underlying76 hf with⟨hcs,_⟩|⟨x,l,c,m,nn,DD,Pl,hcs,_,hl,hm,hmm,_,hall⟩
 ·simp[Value.cells] at hcs
  obtain⟨rfl,rfl,rfl⟩:=hcs;exact⟨λ_=>0,λ_=>ByteArray.empty,.inl rfl,λ_=>⟨(by decide:(-9223372036854775808:Int)<=0),(by decide:(0:Int)<=9223372036854775807)⟩,λ_=>(by decide:ByteArray.empty.size<=9223372036854775807),by omega⟩
 ·simp[Value.cells] at hcs
  obtain⟨rfl,rfl,rfl⟩:=hcs;have hmax:maxLen=9223372036854775807:=rfl;have hlm:len<=m:=by rw[hmm];split<;>omega
  have hce:Tryz.prog.cellsOf 80=2:=by kernel_rfl
  rw[hce] at hall;have key:∀i,i<len->∃(b:Int) (s:ByteArray),W.cell? (x.add (i*2))=some (.int .i64 b)/\W.cell? (x.add (i*2+1))=some (.string s)/\(-9223372036854775808<=b/\b<=9223372036854775807)/\s.size<=9223372036854775807:=by
   intro i hi;obtain⟨cs',h1,h2⟩:=hall i (by omega);obtain⟨_,hlen,hcell⟩:=World.cells?_some h1;obtain⟨xs,k,_,_,_,hxl,hfl⟩:=DataW.trod_struct Tryz.underlying80 h2
   match xs,hxl,cs',hlen with
   |[y0,y1],_,[v0,v1],_=>
    have g0:=hfl 0 _ rfl;have g1:=hfl 1 _ rfl;have AE:Tryz.prog.cellsOf 3=1:=by kernel_rfl
    have hcs:Tryz.prog.cellsOf 9=1:=by kernel_rfl
    simp[AE,hcs] at g0 g1;obtain⟨b,e0,_,wb⟩:=DataW.trod_int Tryz.underlying3 g0;obtain⟨s,e1,_,ws⟩:=DataW.trod_string Tryz.underlying9 g1;simp at e0 e1;have bb:=bounds_i64 wb;have c0:=hcell 0 (by omega);have c1:=hcell 1 (by omega);rw[add_add] at c0 c1;exact⟨b,s,by simpa[e0] using c0,by simpa[e1] using c1,bb,ws⟩
  refine⟨λi=>if hi:i<len then(key i hi).choose else 0,λi=>if hi:i<len then(key i hi).choose_spec.choose else ByteArray.empty,?_,?_,?_,by omega⟩
  ·by_cases h0:len=0
   ·exact .inl h0
   ·obtain⟨b,off,spot⟩:=x
    have hc:=(key 0 (by omega)).choose_spec.choose_spec.1;have hspot:spot=none:=by simpa[Addr.add] using World.cell?_spot hc
    subst hspot;refine .inr ⟨b,off,rfl,λi hi j v hv=> ?_⟩;have hk:=(key i hi).choose_spec.choose_spec;have hj:j<2:=(List.getElem?_eq_some_iff.1 hv).1;simp only[hi,dif_pos] at hv;rw[Nat.add_assoc,<-bh];obtain rfl|rfl:j=0\/j=1:=by omega
    ·rw[<-hv];exact hk.1
    ·rw[<-hv];exact hk.2.1
  ·intro i
   by_cases hi:i<len
   ·simp only[hi,dif_pos];exact(key i hi).choose_spec.choose_spec.2.2.1
   ·simp only[hi,dif_neg,not_false_eq_true];decide
  ·intro i
   by_cases hi:i<len
   ·simp only[hi,dif_pos];exact(key i hi).choose_spec.choose_spec.2.2.2
   ·simp only[hi,dif_neg,not_false_eq_true];decide
structure FD where
 f:PF
 ba:Option Addr
 bc:Nat
 na:Option Addr
 nc:Nat
def FD.no:FD:=⟨⟨0,0,0,λ_=>0,0,λ_=>0,λ_=>ByteArray.empty,false,0⟩,none,0,none,0⟩
def FD.c(x:FD):List Value:=[.int .u8 x.f.kind,.int .i64 x.f.size,.slice x.ba x.f.nb x.bc,.slice x.na x.f.nn x.nc,.bool x.f.ak,.int .i64 x.f.aJ]
structure FD.In(x:FD)(W:World):Prop where
 b:ku W.heap.size W x.ba 1 x.f.nb (blR x.f)
 n:ku W.heap.size W x.na 2 x.f.nn (Yg x.f)
 nb:(x.f.nb:Int)<=9223372036854775807
 nn:(x.f.nn:Int)<=9223372036854775807
 nm:∀k,((x.f.nm k).size:Int)<=9223372036854775807
 kind:0<=x.f.kind/\x.f.kind<256
 size:-9223372036854775808<=x.f.size/\x.f.size<=9223372036854775807
 aJ:-9223372036854775808<=x.f.aJ/\x.f.aJ<=9223372036854775807
 bl:∀k,-9223372036854775808<=x.f.bl k/\x.f.bl k<=9223372036854775807
 dir:∀k,-9223372036854775808<=x.f.dir k/\x.f.dir k<=9223372036854775807
theorem FD.K3(W:World):FD.no.In W:=
 ⟨⟨.inl rfl,λ_ _ e=>by cases e⟩,⟨.inl rfl,λ_ _ e=>by cases e⟩,by decide,by decide,λ_=>(by decide:((ByteArray.empty.size:Nat):Int)<=9223372036854775807),by decide,by decide,by decide,λ_=>(by decide:(-9223372036854775808:Int)<=0/\(0:Int)<=9223372036854775807),λ_=>(by decide:(-9223372036854775808:Int)<=0/\(0:Int)<=9223372036854775807)⟩
theorem Gq{H:Type}{enc:TypeId×Value->H}{W:World}{d:DataW H}(h:DataW.Trod enc Tryz.prog W 0 (λ_=>true) true 24 (.slice a len cap) d p):
  ∃D:Nat->FD,cY W a 6 len (λi=>(D i).c)/\(∀i,(D i).In W)/\(len:Int)<=9223372036854775807:=by
 obtain⟨fuel,hf⟩:=h;rcases open_slice Tryz.underlying24 hf with⟨hcs,_⟩|⟨x,l,c,m,nn,DD,Pl,hcs,_,hl,hm,hmm,_,hall⟩
 ·simp[Value.cells] at hcs
  obtain⟨rfl,rfl,rfl⟩:=hcs;exact⟨λ_=>FD.no,.inl rfl,λi=>FD.K3 W,by omega⟩
 ·simp[Value.cells] at hcs
  obtain⟨rfl,rfl,rfl⟩:=hcs;have hmax:maxLen=9223372036854775807:=rfl;have hlm:len<=m:=by rw[hmm];split<;>omega
  have hce:Tryz.prog.cellsOf 78=6:=by kernel_rfl
  rw[hce] at hall;have key:∀i,i<len->∃d:FD,(∀j v,d.c[j]? =some v->W.cell? (x.add (i*6+j))=some v)/\d.In W:=by
   intro i hi;obtain⟨cs',h1,h2⟩:=hall i (by omega);obtain⟨_,hlen,hcell⟩:=World.cells?_some h1;obtain⟨xs,k,_,_,_,hxl,hfl⟩:=DataW.trod_struct Tryz.underlying78 h2
   match xs,hxl,cs',hlen with
   |[y0,y1,y2,y3,y4,y5],_,[v0,v1,v2,v3,v4,v5],_=>
    have g0:=hfl 0 _ rfl;have g1:=hfl 1 _ rfl;have g2:=hfl 2 _ rfl;have g3:=hfl 3 _ rfl;have g4:=hfl 4 _ rfl;have g5:=hfl 5 _ rfl;have VW:Tryz.prog.cellsOf 5=1:=by kernel_rfl
    have AE:Tryz.prog.cellsOf 3=1:=by kernel_rfl
    have hcv:Tryz.prog.cellsOf 37=1:=by kernel_rfl
    have hcn:Tryz.prog.cellsOf 76=1:=by kernel_rfl
    have hcb:Tryz.prog.cellsOf 4=1:=by kernel_rfl
    simp[VW,AE,hcv,hcn,hcb] at g0 g1 g2 g3 g4 g5;obtain⟨kd,e0,_,w0⟩:=DataW.trod_int Tryz.underlying5 g0;obtain⟨sz,e1,_,w1⟩:=DataW.trod_int Tryz.underlying3 g1;obtain⟨lk,e5,_,w5⟩:=DataW.trod_int Tryz.underlying3 g5;obtain⟨ob,e4,_⟩:=DataW.trod_bool Tryz.underlying4 g4;simp at e0 e1 e4 e5;obtain⟨ba,bn,bc,rfl⟩:∃ba bn bc,v2= .slice ba bn bc:=by
     rcases open_slice Tryz.underlying37 g2 with⟨e,_⟩|⟨x,l,c,m,nn,DD,Pl,e,_⟩
     ·simp at e;exact⟨_,_,_,e⟩
     ·simp at e;exact⟨_,_,_,e⟩
    obtain⟨na,Yf,nc,rfl⟩:∃ba bn bc,v3= .slice ba bn bc:=by
     rcases open_slice Tryz.underlying76 g3 with⟨e,_⟩|⟨x,l,c,m,nn,DD,Pl,e,_⟩
     ·simp at e;exact⟨_,_,_,e⟩
     ·simp at e;exact⟨_,_,_,e⟩
    obtain⟨bl,hbl,hwb,hlb,_⟩:=Je (a:=ba) (len:=bn) (cap:=bc) ⟨k,g2⟩;obtain⟨dr,nm,wO,hwd,hws,Jt⟩:=Fw (a:=na) (len:=Yf) (cap:=nc) ⟨k,g3⟩;have b0:=bounds_u8 w0;have b1:=bounds_i64 w1;have b5:=bounds_i64 w5;have c0:=hcell 0 (by omega);have c1:=hcell 1 (by omega);have c2:=hcell 2 (by omega);have c3:=hcell 3 (by omega);have c4:=hcell 4 (by omega);have c5:=hcell 5 (by omega);rw[add_add] at c0 c1 c2 c3 c4 c5;refine⟨⟨⟨kd,sz,bn,bl,Yf,dr,nm,ob,lk⟩,ba,bc,na,nc⟩,λj v hv=> ?_,pT hbl (λ_ e=>by cases e),pT wO (λ_ e=>by cases e),hlb,Jt,λq=>by have:=hws q;dsimp only;omega,⟨by dsimp only;omega,by dsimp only;omega⟩,b1,b5,hwb,hwd⟩;have hj:j<6:=(List.getElem?_eq_some_iff.1 hv).1;unfold FD.c at hv;obtain rfl|rfl|rfl|rfl|rfl|rfl:j=0\/j=1\/j=2\/j=3\/j=4\/j=5:=by omega
    ·rw[<-hv];simpa[e0] using c0
    ·rw[<-hv];simpa[e1] using c1
    ·rw[<-hv];simpa using c2
    ·rw[<-hv];simpa using c3
    ·rw[<-hv];simpa[e4] using c4
    ·rw[<-hv];simpa[e5] using c5
  refine⟨λi=>if hi:i<len then(key i hi).choose else FD.no,?_,λi=> ?_,by omega⟩
  ·by_cases h0:len=0
   ·exact .inl h0
   ·obtain⟨b,off,spot⟩:=x
    have hc:=(key 0 (by omega)).choose_spec.1 0 _ rfl;have hspot:spot=none:=by simpa[Addr.add] using World.cell?_spot hc
    subst hspot;refine .inr ⟨b,off,rfl,λi hi j v hv=> ?_⟩;have hk:=(key i hi).choose_spec.1 j v;simp only[hi,dif_pos] at hv;rw[Nat.add_assoc,<-bh];exact hk hv
  ·by_cases hi:i<len
   ·simp only[hi,dif_pos];exact(key i hi).choose_spec.2
   ·simp only[hi,dif_neg,not_false_eq_true];exact FD.K3 W
theorem plan_in{H:Type}{enc:TypeId×Value->H}{W:World}{d:DataW H}(h:DataW.Trod enc Tryz.prog W 0 (λ_=>true) true 27 v d p):
  ∃(G S I J:Int) (e:dy) (P:PlanD),v=tK G S I J e P/\P.Bd/\iJ W.heap.size e P W/\(∀x∈[G,S,I,J],-9223372036854775808<=x/\x<=9223372036854775807):=by
 obtain⟨fuel,hf⟩:=h;obtain⟨xs,k,_,_,hlen,hxl,hfl⟩:=DataW.trod_struct Tryz.underlying27 hf;have hce:Tryz.prog.cellsOf 27=7:=by kernel_rfl
 rw[hce] at hlen;obtain⟨c,hc,hcs⟩:∃c:Array Value,v= .agg c/\c.size=7:=by
  cases v<;>first|exact⟨_,rfl,by simpa[Value.cells] using hlen⟩|(exfalso;simp[Value.cells] at hlen)
 subst hc;obtain⟨l⟩:=c
 match l,hcs with
 |[v0,v1,v2,v3,v4,v5,v6],_=>
  match xs,hxl with
  |[y0,y1,y2,y3],_=>
   have g0:=hfl 0 _ rfl;have g1:=hfl 1 _ rfl;have g2:=hfl 2 _ rfl;have g3:=hfl 3 _ rfl;have Nt:Tryz.prog.cellsOf 23=4:=by kernel_rfl
   have hcf:Tryz.prog.cellsOf 24=1:=by kernel_rfl
   have hcc:Tryz.prog.cellsOf 25=1:=by kernel_rfl
   have hcb:Tryz.prog.cellsOf 4=1:=by kernel_rfl
   have AE:Tryz.prog.cellsOf 3=1:=by kernel_rfl
   simp[Value.cells,Nt,hcf,hcc,hcb] at g0 g1 g2 g3;obtain⟨xs0,k0,_,_,_,UL,JA⟩:=DataW.trod_struct Tryz.underlying23 g0
   match xs0,UL with
   |[z0,z1,z2,z3],_=>
    have f0:=JA 0 _ rfl;have f1:=JA 1 _ rfl;have f2:=JA 2 _ rfl;have f3:=JA 3 _ rfl;simp[AE] at f0 f1 f2 f3;obtain⟨G,e0,_,b0⟩:=DataW.trod_int Tryz.underlying3 f0;obtain⟨S,e1,_,b1⟩:=DataW.trod_int Tryz.underlying3 f1;obtain⟨I,e2,_,b2⟩:=DataW.trod_int Tryz.underlying3 f2;obtain⟨J,e3,_,b3⟩:=DataW.trod_int Tryz.underlying3 f3;obtain⟨sm,e6,_⟩:=DataW.trod_bool Tryz.underlying4 g3;simp at e0 e1 e2 e3 e6;subst e0 e1 e2 e3 e6;have b0:=bounds_i64 b0;have b1:=bounds_i64 b1;have b2:=bounds_i64 b2;have b3:=bounds_i64 b3;obtain⟨fa,fn,fc,rfl⟩:∃ta tn tc,v4= .slice ta tn tc:=by
     rcases open_slice Tryz.underlying24 g1 with⟨e,_⟩|⟨x,l,c,m,nn,DD,Pl,e,_⟩<;>(simp at e;exact⟨_,_,_,e⟩)
    obtain⟨ca,cn,cc,rfl⟩:∃ta tn tc,v5= .slice ta tn tc:=by
     rcases open_slice Tryz.underlying25 g2 with⟨e,_⟩|⟨x,l,c,m,nn,DD,Pl,e,_⟩<;>(simp at e;exact⟨_,_,_,e⟩)
    obtain⟨D,hD,Hp,hDl⟩:=Gq (a:=fa) (len:=fn) (cap:=fc) ⟨k,g1⟩;obtain⟨xb,xt,xo,hC,hb,ht,ho,hCl,_⟩:=NT (a:=ca) (len:=cn) (cap:=cc) ⟨k,g2⟩;refine⟨G,S,I,J,⟨fa,fc,ca,cc,λi=>(D i).ba,λi=>(D i).bc,λi=>(D i).na,λi=>(D i).nc⟩,⟨fn,λi=>(D i).f,cn,xb,xt,xo,sm⟩,rfl,
     ⟨hDl,hCl,λi=>(Hp i).nb,λi=>(Hp i).nn,λi=>(Hp i).nm,λi=>(Hp i).kind,λi=>(Hp i).size,λi=>(Hp i).aJ,λi=>(Hp i).bl,λi=>(Hp i).dir,hb,ht,ho⟩,
     ⟨pT hD (λ_ e=>by cases e),λi _=>(Hp i).b,λi _=>(Hp i).n,pT hC (λ_ e=>by cases e)⟩,?_⟩
    intro x hx;simp only[List.mem_cons,List.not_mem_nil,or_false] at hx;rcases hx with rfl|rfl|rfl|rfl<;>assumption
end
end Go.Proofs.YtphamecphmbipaaGreatDoor
