/- Texts of this claim, merged. -/
import Derived.Test.YtphamecphmbipaaGreatDoorZ24
set_option linter.unusedVariables false
set_option maxRecDepth 100000
set_option maxHeartbeats 16000000

namespace Go.Proofs.YtphamecphmbipaaGreatDoor
open Go.RowKit
variable {B m i k N:Nat} {W':World} {a:Option Addr} {f:Nat->List Value} {P:PlanD} {S:Nat->Prop}
structure dL where
 fa:Option Addr
 fc:Nat
 ca:Option Addr
 cc:Nat
 ba:Nat->Option Addr
 bc:Nat->Nat
 na:Nat->Option Addr
 nc:Nat->Nat
def Ki(d:dL)(P:PlanD)(i:Nat):List Value:=[.int .u8 (P.f i).kind,.int .i64 (P.f i).size,.slice (d.ba i) (P.f i).nb (d.bc i),.slice (d.na i) (P.f i).nn (d.nc i),.bool (P.f i).ay,.int .i64 (P.f i).aQ]
def blR(f:PF)(k:Nat):List Value:=[.int .i64 (f.bl k)]
def YM(f:PF)(k:Nat):List Value:=[.int .i64 (f.dir k),.string (f.nm k)]
def Xx(P:PlanD)(k:Nat):List Value:=[.int .i64 (P.cb k),.int .i64 (P.ca k),.int .u8 (P.co k)]
abbrev dK(G S I J:Int)(d:dL)(P:PlanD):Array Value:=#[.int .i64 G,.int .i64 S,.int .i64 I,.int .i64 J,.slice d.fa P.nf d.fc,.slice d.ca P.nc d.cc,.bool P.sums]
abbrev tZ(G S I J:Int)(d:dL)(P:PlanD):Value:=.agg (dK G S I J d P)
def fN(B:Nat)(W:World)(a:Option Addr)(m n:Nat)(f:Nat->List Value):Prop:=cU W a m n f/\∀b off,a=some ⟨b,off,none⟩->0<n->b<B
theorem fN.below{W:World}{n:Nat}(h:fN B W a m n f)(hb:Below B W W'):fN B W' a m n f:=by
 refine⟨?_,h.2⟩;rcases h.1 with h1|⟨b,off,e,hs⟩
 ·exact .inl h1
 by_cases hn:n=0
 ·exact .inl hn
 exact .inr ⟨b,off,e,aM.below hs hb (h.2 b off e (by omega))⟩
theorem fN.cell{W:World}{n:Nat}(h:fN B W a m n f){j:Nat}(hi:i<n){v:Value}(hv:(f i)[j]? =some v):∃b off,a=some ⟨b,off,none⟩/\W.cell? ⟨b,off+i*m+j,none⟩=some v:=by
 rcases h.1 with h1|⟨b,off,e,hs⟩
 ·omega
 exact⟨b,off,e,hs i hi j v hv⟩
structure iX(B:Nat)(d:dL)(P:PlanD)(W:World):Prop where
 f:fN B W d.fa 6 P.nf (Ki d P)
 b:∀i,i<P.nf->fN B W (d.ba i) 1 (P.f i).nb (blR (P.f i))
 n:∀i,i<P.nf->fN B W (d.na i) 2 (P.f i).nn (YM (P.f i))
 c:fN B W d.ca 3 P.nc (Xx P)
theorem iX.below{d:dL}{W:World}(h:iX B d P W)(hb:Below B W W'):iX B d P W':=
 ⟨h.f.below hb,λi hi=>(h.b i hi).below hb,λi hi=>(h.n i hi).below hb,h.c.below hb⟩
def PlanD.cn(P:PlanD):Nat->Nat
 |0=>0
 |k+1=>P.cn k+((P.f k).nb+(P.f k).nn)
structure PlanD.Small(P:PlanD):Prop where
 nf:P.nf<=300
 nc:P.nc<=100
 cn:P.cn P.nf<=1000
 nm:∀i,i<P.nf->∀k,k<(P.f i).nn->((P.f i).nm k).size<=1000
structure PlanD.Bd(P:PlanD):Prop where
 nf:(P.nf:Int)<=9223372036854775807
 nc:(P.nc:Int)<=9223372036854775807
 nb:∀i,((P.f i).nb:Int)<=9223372036854775807
 nn:∀i,((P.f i).nn:Int)<=9223372036854775807
 nm:∀i k,(((P.f i).nm k).size:Int)<=9223372036854775807
 kind:∀i,0<=(P.f i).kind/\(P.f i).kind<256
 size:∀i,-9223372036854775808<=(P.f i).size/\(P.f i).size<=9223372036854775807
 aQ:∀i,-9223372036854775808<=(P.f i).aQ/\(P.f i).aQ<=9223372036854775807
 bl:∀i k,-9223372036854775808<=(P.f i).bl k/\(P.f i).bl k<=9223372036854775807
 dir:∀i k,-9223372036854775808<=(P.f i).dir k/\(P.f i).dir k<=9223372036854775807
 cb:∀k,-9223372036854775808<=P.cb k/\P.cb k<=9223372036854775807
 ca:∀k,-9223372036854775808<=P.ca k/\P.ca k<=9223372036854775807
 co:∀k,0<=P.co k/\P.co k<256
def GtQ(P:PlanD)(e:Ending):Prop:=∃b,e= .returned (.bool b)/\(b=false->P.Small)
structure pY(w:World)(G S I J:Int)(d:dL)(P:PlanD)(W:World):Prop where
 p:At W w.heap.size 27 (dK G S I J d P)
 r:iX w.heap.size d P W
 bel:Below w.heap.size w W
theorem pY.below{w:World}{G S I J:Int}{d:dL}{W:World}(h:pY w G S I J d P W)(hb:Below W.heap.size W W'):pY w G S I J d P W':=
 ⟨h.p.below hb h.p.lt,h.r.below (hb.mono h.bel.size),h.bel.trans (hb.mono h.bel.size)⟩
theorem yQ(G S I J:Int)(d:dL)(P:PlanD)(hB:P.Bd)(w:World)(hP:iX w.heap.size d P w):
  Calls Tryz.prog 8 #[tZ G S I J d P] w λe w'=>GtQ P e/\Below w.heap.size w w':=by
 have hb0:Below w.heap.size w (w.alloc (.cells (dK G S I J d P) 27)):=ag.alloc af _;have dt:Hd (pY w G S I J d P (w.alloc (.cells (dK G S I J d P) 27))):=⟨At.new _ _ _,hP.below hb0,hb0⟩;have xu:=ah hB;obtain⟨n1,uq⟩:=aa P.nf;have c4:(w.alloc (.cells (dK G S I J d P) 27)).cell? ⟨w.heap.size,4,none⟩=some (.slice d.fa P.nf d.fc):=dt.Z.p.cell (i:=4) rfl;have c5:(w.alloc (.cells (dK G S I J d P) 27)).cell? ⟨w.heap.size,5,none⟩=some (.slice d.ca P.nc d.cc):=dt.Z.p.cell (i:=5) rfl;have JQ:=hB.nf;have VW:=hB.nc;clear hP hb0 hB uq;go_enter Tryz.func8,Tryz.ntmps8
 by_cases RO:300<P.nf
 ·have q0:decide ((300:Int)<(P.nf:Int))=true:=decide_eq_true (by omega)
  have q0':decide (300<P.nf)=true:=decide_eq_true RO;go_wp2_with fail;go_ret;exact⟨⟨true,rfl,λe=>by cases e⟩,dt.Z.bel⟩
 have q0:decide ((300:Int)<(P.nf:Int))=false:=decide_eq_false (by omega);have q0':decide (300<P.nf)=false:=decide_eq_false RO
 by_cases RP:100<P.nc
 ·have q1:decide ((100:Int)<(P.nc:Int))=true:=decide_eq_true (by omega)
  have q1':decide (100<P.nc)=true:=decide_eq_true RP;go_wp2_with fail;go_ret;exact⟨⟨true,rfl,λe=>by cases e⟩,dt.Z.bel⟩
 have q1:decide ((100:Int)<(P.nc:Int))=false:=decide_eq_false (by omega);have q1':decide (100<P.nc)=false:=decide_eq_false RP;go_wp2_with fail;clear c4 c5;go_loopw [3,4,5] (λl i _ wr=>∃k lv:Nat,k<=P.nf/\i= .int .i64 (k:Int)/\l= .int .i64 (lv:Int)/\lv+P.cn k=1000/\(∀t,t<k->∀s,s<(P.f t).nn->((P.f t).nm s).size<=1000)/\pY w G S I J d P wr) (λ_ i _ _=>P.nf-(intOf i).toNat)
 case atStart=>exact⟨0,1000,Nat.zero_le _,rfl,rfl,rfl,λt ht=>absurd ht (Nat.not_lt_zero _),dt.Z⟩
 clear dt;obtain⟨k,lv,hk,rfl,rfl,hcn,xj,st⟩:=hrel;have ST:=ah st;have zP:=ah hcn;have hlv:lv<=1000:=by omega
 have zw:=ah xj;have c4':wr.cell? ⟨w.heap.size,4,none⟩=some (.slice d.fa P.nf d.fc):=st.p.cell (i:=4) rfl;clear st hcn xj
 by_cases hlt:k<P.nf
 ·have hlt':(k:Int)<(P.nf:Int):=by omega
  clear c4';obtain⟨fb,fo,tq,-⟩:=ST.Z.r.f.cell (j:=0) hlt rfl;have gY:Hd (∀W,pY w G S I J d P W->W.cell? ⟨fb,fo+k*6+2,none⟩=some (.slice (d.ba k) (P.f k).nb (d.bc k))):=λW h=>by
   obtain⟨b,o,e,hc⟩:=h.r.f.cell (j:=2) hlt rfl;rw[tq] at e;cases e;exact hc
  have uV:Hd (∀W,pY w G S I J d P W->W.cell? ⟨fb,fo+k*6+3,none⟩=some (.slice (d.na k) (P.f k).nn (d.nc k))):=λW h=>by
   obtain⟨b,o,e,hc⟩:=h.r.f.cell (j:=3) hlt rfl;rw[tq] at e;cases e;exact hc
  have zA:Hd (∀W,pY w G S I J d P W->W.cell? ⟨w.heap.size,4,none⟩=some (.slice (some ⟨fb,fo,none⟩) P.nf d.fc)):=λW h=>by rw[<-tq];exact h.p.cell (i:=4) rfl
  clear tq;have c4:=zA.Z _ ST.Z;have yK:=xu.Z.nb k;have gi:=xu.Z.nn k;have Ek:Hd (P.cn (k+1)=P.cn k+((P.f k).nb+(P.f k).nn)):=rfl;obtain⟨nb,hnb⟩:=aa ((P.f k).nb);obtain⟨nn,hnn⟩:=aa ((P.f k).nn);have kJ:=ah hnn;rw[<-hnb] at gY Ek yK;rw[<-hnn] at uV Ek gi;clear hnb hnn;go_wp2_with fail
  by_cases hbig:lv<nb
  ·have t1:decide ((lv:Int)<(nb:Int))=true:=decide_eq_true (by omega)
   have t1':decide (lv<nb)=true:=decide_eq_true hbig;have Qc:(lv:Int)<(nb:Int):=by omega
   refine ar (pY w G S I J d P) (ST.Z.below ag.drew) ?_;clear ST;intro hne;have uv:∀y:a9 (pY w G S I J d P),y.W.cell? ⟨w.heap.size,4,none⟩=some (.slice (some ⟨fb,fo,none⟩) P.nf d.fc):=λy=>zA.Z _ y.h
   have hc2:∀y:a9 (pY w G S I J d P),y.W.cell? ⟨fb,fo+k*6+2,none⟩=some (.slice (d.ba k) nb (d.bc k)):=λy=>gY.Z _ y.h
   have hc3:∀y:a9 (pY w G S I J d P),y.W.cell? ⟨fb,fo+k*6+3,none⟩=some (.slice (d.na k) nn (d.nc k)):=λy=>uV.Z _ y.h
   repeat go_big_quiet_step (fail)
   refine wpQuiet_nil ?_;intro w2 h2';have ST:=ah h2'.Z;clear h2' hne uv hc2 hc3;go_wp2_with fail;go_ret;exact⟨⟨true,rfl,λe=>by cases e⟩,ST.Z.bel⟩
  have t1:decide ((lv:Int)<(nb:Int))=false:=decide_eq_false (by omega);have t1':decide (lv<nb)=false:=decide_eq_false hbig;have Qc:¬(lv:Int)<(nb:Int):=by omega
  have w1:wrap64 ((lv:Int)-(nb:Int))=(lv:Int)-(nb:Int):=IntWalk.wrap64_in _ (by omega)
  by_cases Rx:lv<nb+nn
  ·have t2:decide ((lv:Int)-(nb:Int)<(nn:Int))=true:=decide_eq_true (by omega)
   have Qb:(lv:Int)-(nb:Int)<(nn:Int):=by omega
   refine ar (pY w G S I J d P) (ST.Z.below ag.drew) ?_;clear ST;intro hne;have uv:∀y:a9 (pY w G S I J d P),y.W.cell? ⟨w.heap.size,4,none⟩=some (.slice (some ⟨fb,fo,none⟩) P.nf d.fc):=λy=>zA.Z _ y.h
   have hc2:∀y:a9 (pY w G S I J d P),y.W.cell? ⟨fb,fo+k*6+2,none⟩=some (.slice (d.ba k) nb (d.bc k)):=λy=>gY.Z _ y.h
   have hc3:∀y:a9 (pY w G S I J d P),y.W.cell? ⟨fb,fo+k*6+3,none⟩=some (.slice (d.na k) nn (d.nc k)):=λy=>uV.Z _ y.h
   repeat go_big_quiet_step (fail)
   refine wpQuiet_nil ?_;intro w2 h2';have ST:=ah h2'.Z;clear h2' hne uv hc2 hc3;go_wp2_with fail;go_ret;exact⟨⟨true,rfl,λe=>by cases e⟩,ST.Z.bel⟩
  have t2:decide ((lv:Int)-(nb:Int)<(nn:Int))=false:=decide_eq_false (by omega);have Qb:¬(lv:Int)-(nb:Int)<(nn:Int):=by omega
  refine ar (pY w G S I J d P) (ST.Z.below ag.drew) ?_;clear ST;intro hne;have uv:∀y:a9 (pY w G S I J d P),y.W.cell? ⟨w.heap.size,4,none⟩=some (.slice (some ⟨fb,fo,none⟩) P.nf d.fc):=λy=>zA.Z _ y.h
  have hc2:∀y:a9 (pY w G S I J d P),y.W.cell? ⟨fb,fo+k*6+2,none⟩=some (.slice (d.ba k) nb (d.bc k)):=λy=>gY.Z _ y.h
  have hc3:∀y:a9 (pY w G S I J d P),y.W.cell? ⟨fb,fo+k*6+3,none⟩=some (.slice (d.na k) nn (d.nc k)):=λy=>uV.Z _ y.h
  repeat go_big_quiet_step (fail)
  refine wpQuiet_nil ?_;intro w2 h2';have ST:=ah h2'.Z;clear h2' hne uv hc2 hc3;go_wp2_with fail;refine ar (pY w G S I J d P) (ST.Z.below ag.drew) ?_;clear ST;intro hne;have uv:∀y:a9 (pY w G S I J d P),y.W.cell? ⟨w.heap.size,4,none⟩=some (.slice (some ⟨fb,fo,none⟩) P.nf d.fc):=λy=>zA.Z _ y.h
  have hc2:∀y:a9 (pY w G S I J d P),y.W.cell? ⟨fb,fo+k*6+2,none⟩=some (.slice (d.ba k) nb (d.bc k)):=λy=>gY.Z _ y.h
  have hc3:∀y:a9 (pY w G S I J d P),y.W.cell? ⟨fb,fo+k*6+3,none⟩=some (.slice (d.na k) nn (d.nc k)):=λy=>uV.Z _ y.h
  repeat go_big_quiet_step (fail)
  refine wpQuiet_nil ?_;intro w3 h3';have ST:=ah h3'.Z;clear h3' hne uv hc2 hc3;go_wp2_with fail;obtain⟨lw,Zh⟩:∃lw:Nat,(lw:Int)=(lv:Int)-(nb:Int)-(nn:Int):=⟨lv-nb-nn,by omega⟩;rw[<-Zh];have HLW:Hd (lw+P.cn (k+1)=1000):=by show _=_;have:=zP.Z;rw[Ek.Z];omega
  clear t1 t1' Qc t2 Qb w1 hbig Rx Zh c4;go_loopw [5] (λi wr=>∃q:Nat,q<=nn/\i= .int .i64 (q:Int)/\(∀s,s<q->((P.f k).nm s).size<=1000)/\pY w G S I J d P wr) (λi _=>nn-(intOf i).toNat)
  case atStart=>exact⟨0,Nat.zero_le _,rfl,λt ht=>absurd ht (Nat.not_lt_zero _),ST.Z⟩
  clear ST;obtain⟨q,hq,rfl,Za,st⟩:=hrel;have ST:=ah st;have HNQ:=ah Za;have c4:=zA.Z _ st;have c3:=uV.Z _ st;clear st Za
  by_cases Ih:q<nn
  ·have ND:(q:Int)<(nn:Int):=by omega
   have QX:q<(P.f k).nn:=by rw[<-kJ.Z];exact Ih
   obtain⟨nb_,no,Pj,cn1⟩:=(ST.Z.r.n k hlt).cell (j:=1) QX rfl;rw[Pj] at c3;have LL:=xu.Z.nm k q;obtain⟨sz,hsz⟩:=aa ((P.f k).nm q);have Ml:=ah hsz;rw[<-hsz] at cn1 LL;clear hsz QX
   by_cases hbig:1000<sz.size
   ·have Gz:(1000:Int)<(sz.size:Int):=by omega
    have t1:decide ((1000:Int)<(sz.size:Int))=true:=decide_eq_true Gz;have t2:decide (1000<sz.size)=true:=decide_eq_true hbig;go_wp2_with fail;go_ret;exact⟨⟨true,rfl,λe=>by cases e⟩,ST.Z.bel⟩
   have Gz:¬(1000:Int)<(sz.size:Int):=by omega
   have t1:decide ((1000:Int)<(sz.size:Int))=false:=decide_eq_false Gz;have t2:decide (1000<sz.size)=false:=decide_eq_false hbig;go_wp2_with fail;go_roundw
   case rel=>exact⟨q+1,by omega,by go_num,λs hs=>by
    rcases Nat.lt_succ_iff_lt_or_eq.mp hs with h|rfl
    ·exact HNQ.Z s h
    rw[<-Ml.Z];omega,ST.Z⟩
   simp[intOf];omega
  obtain rfl:q=nn:=by omega
  have SS:Hd (∀t,t<k+1->∀s,s<(P.f t).nn->((P.f t).nm s).size<=1000):=λt ht s hs=>by
   rcases Nat.lt_succ_iff_lt_or_eq.mp ht with h|rfl
   ·exact zw.Z t h s hs
   exact HNQ.Z s (by rw[kJ.Z];exact hs)
  go_wp2_with fail;go_roundw
  case rel=>first|exact⟨k+1,lw,by omega,by first|rfl|go_num,rfl,HLW.Z,SS.Z,ST.Z⟩|((repeat apply Exists.intro);refine⟨?_,rfl⟩;exact⟨k+1,lw,by omega,by first|rfl|go_num,rfl,HLW.Z,SS.Z,ST.Z⟩)
  simp[intOf];omega
 obtain rfl:k=P.nf:=by omega
 go_wp2_with fail;go_ret;exact⟨⟨false,rfl,λ_=>⟨by omega,by omega,by have:=zP.Z;omega,zw.Z⟩⟩,ST.Z.bel⟩
def kOv(g lc n b off cc cn k kb:Nat)(z:Nat->Int):Nat->Option Value
 |0=>some (.slice (some ⟨g,0,none⟩) n lc)
 |1=>some (.slice (some ⟨b,off,none⟩) cn cc)
 |2=>some (.int .i64 (k:Int))
 |3=>some (.pointer (some ⟨b,off+k*257,none⟩))
 |4=>some (.pointer (some ⟨b,off+k*257,none⟩))
 |5=>some (.int .i64 (kb:Int))
 |6=>some (.slice (some ⟨b,off,none⟩) cn cc)
 |7=>some (.int .i64 (k:Int))
 |8=>some (.pointer (some ⟨b,off+k*257,none⟩))
 |9=>some (.pointer (some ⟨b,off+k*257+1,none⟩))
 |10=>some (aR z)
 |11=>some (.pointer (some ⟨g,0+kb*256,none⟩))
 |_=>none
theorem Ag(W:World):(Instr.buildSlice 29 0 #[]).run Tryz.prog W= .ok (.slice (some ⟨W.heap.size,0,none⟩) 0 0) (W.alloc (.cells #[] 32)):=by kernel_rfl
theorem On{W:World}{b off n:Nat}{cb:Nat->Int}{cd:Nat->Nat->Int}(h:fN B W (some ⟨b,off,none⟩) 257 n (L7 cb cd))(hk:k<n):W.cell? ⟨b,off+k*257,none⟩=some (.int .i64 (cb k))/\W.rangeAt b (off+k*257+1) (Ks .u8 256 (cd k)):=by
 rcases h.1 with h0|⟨b',off',e,hs⟩
 ·omega
 injection e with e;injection e with e1 e2;subst e1 e2
 refine⟨hs k hk 0 _ rfl,λj v hv=> ?_⟩;have:=hs k hk (j+1) v (by unfold L7;rw[List.getElem?_cons_succ];exact hv);rwa[show off+k*257+(j+1)=off+k*257+1+j by omega] at this
theorem oM{W:World}{n:Nat}(h:fN B W a m n f)(hn:0<n):∃b off,a=some ⟨b,off,none⟩:=by
 rcases h.1 with h0|⟨b,off,e,_⟩
 ·omega
 exact⟨b,off,e⟩
theorem FH(a:Option Addr)(n cap:Nat)(L:Nat->Nat->Int)(hL:∀i,bu (L i))(gi:n<=4294967296)(ha:a=none->n=0/\cap=0)(ca:Option Addr)(cn cc:Nat)(cb:Nat->Int)(cd:Nat->Nat->Int)(hcn:cn<=4294967296)(hcb:∀i,-9223372036854775808<=cb i/\cb i<=9223372036854775807)(nV:∀i,bu (cd i))(w:World)
  (hv:cU w a 256 n (dR L)) (hc:fN w.heap.size w ca 257 cn (L7 cb cd)):
  Calls Tryz.prog 11 #[.slice a n cap,.slice ca cn cc] w λe w'=>∃la lc,e= .returned (.slice la n lc)/\kA w la n lc w':=by
 have Ev:Below w.heap.size w (w.alloc (.cells #[] 32)):=ag.alloc af _;have hrow:=hv.alloc (.cells #[] 32);have hown:(w.alloc (.cells #[] 32)).ownsRow w.heap.size 32 256 (.slice (some ⟨w.heap.size,0,none⟩) 0 0) 0 []:=
  ⟨by simp,.inr ⟨w.heap.size,0,#[],rfl,Nat.le_refl _,heap_alloc_new w _,Nat.le_refl _,Nat.zero_le _,rfl,by simp⟩⟩
 have hnews:∀ad,a=some ad->∀(j:Nat) (u:Value),(Cs (dR L) n)[j]? =some u->(w.alloc (.cells #[] 32)).cell? (ad.add j)=some u:=λad had=>by
  subst had;exact rh (m:=256) (by omega) (aZ _) hrow
 have hlen:(Cs (dR L) n).length=n*256:=di (aZ _) _;have hone:∀u∈Cs (dR L) n,u.oneCell'=true:=Hw (Cg _) _;obtain⟨i0,hi0,hz⟩:=Option.map_eq_some_iff.1 um;simp only[Prod.mk.injEq] at hz;obtain⟨hz0,hz1,hz2⟩:=hz;have hbs:=Ag;have HL:=ah hL;have kJ:=ah gi;have II:=ah Ev;have HC:Hd (∀W,Below w.heap.size w W->fN w.heap.size W ca 257 cn (L7 cb cd)):=λW h=>hc.below h
 have zP:=ah hcn;have IH:=ah hcb;have P3:=ah nV;clear hv hL hrow Ev hc hcn hcb nV;go_enter Tryz.func11,Tryz.ntmps11;go_wp2_with (first|(refine o9 rfl (.tmp 7) (.tmp 8) 29 rfl w.heap.size 32 i0 (aR λ_=>0) 256 256 Tryz.underlying29 hi0 hz0 hz1 hz2 (by simp[Value.cells,Ks]) (by decide) w.heap.size rfl hown a n cap (Cs (dR L) n) rfl ha hlen hnews hone (by unfold maxLen;omega) (by omega) (by simp) ?_))
 intro v' w5 wh xl;have NK:au w5 w.heap.size 32 256 v' n (dR L):=wh;obtain⟨la,lc,rfl⟩:=NK.form;have om:Below w.heap.size w w5:=II.Z.grown xl II.Z.size (λq e=>by injection e with e;omega);have ed:Hd (kA w la n lc w5):=kA.of NK HL.Z om;clear wh xl NK om hown hnews hlen hone hbs II HL;go_wp2_with fail;go_loopw [6] (λi wr=>∃k:Nat,i= .int .i64 (k:Int)/\k<=cn/\kA w la n lc wr) (λi _=>cn-(intOf i).toNat)
 case atStart=>exact⟨0,rfl,Nat.zero_le _,ed.Z⟩
 clear ed;obtain⟨k,rfl,hk,st⟩:=hrel;have Ru:=zP.Z
 by_cases hlt:k<cn
 ·have hlt':(k:Int)<(cn:Int):=by omega
  have k0:(0:Int)<=(k:Int):=by omega
  obtain⟨b,off,rfl⟩:=oM (HC.Z _ st.bel) (by omega);have hcb:=IH.Z k;obtain⟨X,hX⟩:=aa (cb k);have qA:Hd (∀W,kA w la n lc W->W.cell? ⟨b,off+k*257,none⟩=some (.int .i64 X)/\W.rangeAt b (off+k*257+1) (Ks .u8 256 (cd k))):=λW h=>by rw[hX];exact On (HC.Z _ h.bel) hlt
  rw[<-hX] at hcb;have hat:=(qA.Z _ st).1;have ST:=ah st;have Eg:=ah hlt;clear st hX
  by_cases c0:X<0
  ·go_wp2_with fail
   go_roundw
   case rel=>(try((repeat apply Exists.intro);refine⟨?_,rfl⟩));exact⟨k+1,by first|rfl|go_num,by omega,ST.Z⟩
   simp[intOf];omega
  by_cases c1:(n:Int)<=X
  ·have c2:(0:Int)<=X:=by omega
   go_wp2_with fail;go_roundw
   case rel=>(try((repeat apply Exists.intro);refine⟨?_,rfl⟩));exact⟨k+1,by first|rfl|go_num,by omega,ST.Z⟩
   simp[intOf];omega
  obtain⟨kb,rfl⟩:∃kb:Nat,X=(kb:Int):=⟨X.toNat,by omega⟩;have hkb:kb<n:=by omega
  have hkb':(kb:Int)<(n:Int):=by omega
  have YR:(0:Int)<=(kb:Int):=by omega
  obtain⟨g,BV,hgl⟩:=ST.Z.vk (by omega);subst BV;have SW:=ah hkb;clear c0 c1 hcb;go_wp2_with fail;apply Vl.cZ (λi v W=>Iy (kOv g lc n b off cc cn k kb (cd k)) (λ_=>false) i v) (λ_ W=>kA w (some ⟨g,0,none⟩) n lc W)
  case hm=>kernel_rfl
  case hd=>kernel_rfl
  case hS=>exactλl l' W he h=>h
  case h0=>exact ST.Z.drew
  case hB=>kernel_rfl
  case hst=>
   intro hB;refine⟨?_,?_,?_,?_,?_,?_,?_,?_,?_,?_,?_,?_,?_,trivial⟩
   ·exactλl a1 W hl hu h=>Vl.aJ h hB rfl rfl rfl hl _ (Vl.br (.tmp 5) rfl (h.old 5 (by kernel_rfl))) (.c rfl rfl) (λs=>s)
   ·exactλl a1 W hl hu h=>Vl.aJ h hB rfl rfl rfl hl _ (Vl.br (.tmp 1) rfl (h.old 1 (by kernel_rfl))) (.c rfl rfl) (λs=>s)
   ·exactλl a1 W hl hu h=>Vl.aJ h hB rfl rfl rfl hl _ (Vl.br (.tmp 6) rfl (h.old 6 (by kernel_rfl))) (.c rfl rfl) (λs=>s)
   ·exactλl a1 W hl hu h=>Vl.aJ h hB rfl rfl rfl hl _ (Vl.gK 35 97 (.tmp 33) (.tmp 34) rfl Tryz.underlying35 257 (by kernel_rfl) b off cn cc k ((h.vals 1 33 (aq hu 1) rfl).k _ rfl) ((h.vals 2 34 (aq hu 2) rfl).k _ rfl) Eg.Z) (.c rfl rfl) (λs=>s)
   ·exactλl a1 W hl hu h=>Vl.aJ h hB rfl rfl rfl hl _ (Vl.gB 97 (.tmp 35) 0 rfl ((h.vals 3 35 (aq hu 3) rfl).k _ rfl) (by kernel_rfl)) (.c rfl rfl) (λs=>s)
   ·exactλl a1 W hl hu h=>Vl.aJ h hB rfl rfl rfl hl _ (Vl.tY 3 (.tmp 36) rfl b (off+k*257) ((h.vals 4 36 (aq hu 4) rfl).k _ rfl) (qA.Z _ h.st).1 (by kernel_rfl)) (.c rfl rfl) (λs=>s)
   ·exactλl a1 W hl hu h=>Vl.aJ h hB rfl rfl rfl hl _ (Vl.br (.tmp 1) rfl (h.old 1 (by kernel_rfl))) (.c rfl rfl) (λs=>s)
   ·exactλl a1 W hl hu h=>Vl.aJ h hB rfl rfl rfl hl _ (Vl.br (.tmp 6) rfl (h.old 6 (by kernel_rfl))) (.c rfl rfl) (λs=>s)
   ·exactλl a1 W hl hu h=>Vl.aJ h hB rfl rfl rfl hl _ (Vl.gK 35 97 (.tmp 38) (.tmp 39) rfl Tryz.underlying35 257 (by kernel_rfl) b off cn cc k ((h.vals 6 38 (aq hu 6) rfl).k _ rfl) ((h.vals 7 39 (aq hu 7) rfl).k _ rfl) Eg.Z) (.c rfl rfl) (λs=>s)
   ·exactλl a1 W hl hu h=>Vl.aJ h hB rfl rfl rfl hl _ (Vl.gB 97 (.tmp 40) 1 rfl ((h.vals 8 40 (aq hu 8) rfl).k _ rfl) (by kernel_rfl)) (.c rfl rfl) (λs=>s)
   ·exactλl a1 W hl hu h=>Vl.aJ h hB rfl rfl rfl hl _ (Vl.jc 32 (.tmp 41) rfl b (off+k*257+1) (Ks .u8 256 (cd k)) _ ((h.vals 9 41 (aq hu 9) rfl).k _ rfl) (qA.Z _ h.st).2 Tryz.underlying32 rfl (by rw[bD];exact aA)) (.c rfl rfl) (λs=>s)
   ·exactλl a1 W hl hu h=>Vl.aJ h hB rfl rfl rfl hl _ (Vl.gK 29 32 (.tmp 32) (.tmp 37) rfl Tryz.underlying29 256 (by kernel_rfl) g 0 n lc kb ((h.vals 0 32 (aq hu 0) rfl).k _ rfl) ((h.vals 5 37 (aq hu 5) rfl).k _ rfl) SW.Z) (.c rfl rfl) (λs=>s)
   intro l a1 W hl hu h;refine Vl.step h hB rfl rfl rfl hl (Vl.ef 32 (.tmp 43) (.tmp 42) rfl g (0+kb*256) (Ks .u8 256 (cd k)).toArray ((h.vals 11 43 (aq hu 11) rfl).k _ rfl) ((h.vals 10 42 (aq hu 10) rfl).k _ rfl) (by rw[bE];exact h.st.there SW.Z) (aW _) (fF _ _ _) ?_);exact⟨_,rfl,λ_ _ _ h=>h,.n rfl rfl,h.st.put _ (P3.Z k)⟩
  intro a' w2 h;obtain⟨v,-,hall⟩:=wW h [32,33,34,35,36,37,38,39,40,41,42,43] (by kernel_rfl);have bW:=ah h.st;simp only[List.foldl_cons,List.foldl_nil,Act.put,List.setIfInBounds_toArray,List.set_cons_succ,List.set_cons_zero] at hall;subst hall;clear h ST hat;go_wp2_with fail;go_roundw
  case rel=>(try((repeat apply Exists.intro);refine⟨?_,rfl⟩));exact⟨k+1,by first|rfl|go_num,by omega,bW.Z⟩
  simp[intOf];omega
 obtain rfl:k=cn:=by omega
 have ST:=ah st;clear st;go_wp2_with fail;go_ret;exact⟨la,lc,rfl,ST.Z⟩
theorem yM{x:Im}(hx:x.Ok){m:MS}{ys:Nat->aS}(h:iQ x m ys N)(hi:i<N)(idx:Int):
  iQ x (MS.fB x (ys i) idx m).2.2 (ak ys i (MS.fB x (ys i) idx m).2.1) N/\(MS.fB x (ys i) idx m).1<=2048/\
  ((MS.fB x (ys i) idx m).1≠0->(MS.fB x (ys i) idx m).1<x.n/\∀z,bu z->iQ x ((MS.fB x (ys i) idx m).2.2.put (MS.fB x (ys i) idx m).1 z) (ak ys i (MS.fB x (ys i) idx m).2.1) N):=by
 obtain⟨bY,hW,hP⟩:=h;obtain⟨h1,h2,h3,h4,h5,h6,h7,h8,h9,h10,h11⟩:=dX hx.may;have gi:=hx.iK;obtain⟨fe,a1,a2,a3,a4⟩:=MS.J7 (x:=x) (by omega) (by omega) hW (hP i hi) idx;have hall:∀k,k<N->MS.OH x (MS.fB x (ys i) idx m).2.2 fe (ak ys i (MS.fB x (ys i) idx m).2.1 k):=λk hk=>by
  unfold ak
  by_cases e:k=i
  ·subst e;rw[if_pos rfl];exact a3
  rw[if_neg e];exact(hP k hk).ext a2
 refine⟨⟨fe,a1,hall⟩,?_,λh0=>⟨a4.lt h0,λz hz=>⟨fe,a1.UT a4 h0 hz,λk hk=>hall k hk⟩⟩⟩
 by_cases e:(MS.fB x (ys i) idx m).1=0
 ·omega
 have:=a4.lt e;omega
abbrev kC(l:List sI)(k:Nat):List Value:=[.int .u32 ((l.getD k default).1:Nat),.string (l.getD k default).2]
structure Eb(M q Y N sb:Nat)(sa:Nat->Option Addr)(sc:Nat->Nat)(sl:Nat->List sI)(W:World):Prop where
 c:∀k,k<N->W.cell? ⟨sb,k,none⟩=some (.slice (sa k) (sl k).length (sc k))
 r:∀k,k<N->cU W (sa k) 2 (sl k).length (kC (sl k))
 lt:sb<W.heap.size/\¬MY M q Y sb
 la:∀k b off,k<N->sa k=some ⟨b,off,none⟩->b<W.heap.size/\¬MY M q Y b
theorem Eb.pw{M q Y sb:Nat}{sa:Nat->Option Addr}{sc:Nat->Nat}{sl:Nat->List sI}{W:World}(h:Eb M q Y N sb sa sc sl W)(k:dV (MY M q Y) W W'):Eb M q Y N sb sa sc sl W':=
 ⟨λi hi=>(World.cell?_of_block (w:=W) (a:=⟨sb,i,none⟩) (k.block sb h.lt.1 h.lt.2)).trans (h.c i hi),λi hi=>(h.r i hi).pw k λb off e _=>h.la i b off hi e,
  ⟨Nat.lt_of_lt_of_le h.lt.1 k.size,h.lt.2⟩,λi b off hi e=>⟨Nat.lt_of_lt_of_le (h.la i b off hi e).1 k.size,(h.la i b off hi e).2⟩⟩
theorem fN.pw{W:World}{n:Nat}(h:fN B W a m n f)(k:dV S W W')(hB:B<=W.heap.size)(hS:∀j,j<B->¬S j):fN B W' a m n f:=
 ⟨cU.pw h.1 k λb off e hn=>⟨Nat.lt_of_lt_of_le (h.2 b off e hn) hB,hS _ (h.2 b off e hn)⟩,h.2⟩
theorem iX.pw{d:dL}{W:World}(h:iX B d P W)(k:dV S W W')(hB:B<=W.heap.size)(hS:∀j,j<B->¬S j):iX B d P W':=
 ⟨h.f.pw k hB hS,λi hi=>(h.b i hi).pw k hB hS,λi hi=>(h.n i hi).pw k hB hS,h.c.pw k hB hS⟩
structure m9(B M q Y N sb p:Nat)(x:Im)(m:MS)(ys:Nat->aS)(G S I J:Int)(d:dL)(P:PlanD)(sa:Nat->Option Addr)(sc:Nat->Nat)(sl:Nat->List sI)(w W:World):Prop where
 h:g9 M q Y N x m ys w W
 bx:At W p 27 (dK G S I J d P)
 r:iX B d P W
 s:Eb M q Y N sb sa sc sl W
 np:¬MY M q Y p
 nb:∀j,j<B->¬MY M q Y j
 lb:B<=W.heap.size
section
variable {B M q Y N sb p:Nat} {x:Im} {m m':MS} {ys ys':Nat->aS} {G S I J:Int} {d:dL} {P:PlanD} {sa:Nat->Option Addr} {sc:Nat->Nat} {sl:Nat->List sI} {w W W':World}
theorem m9.to(h:m9 B M q Y N sb p x m ys G S I J d P sa sc sl w W)(hs:g9 M q Y N x m' ys' W W'):m9 B M q Y N sb p x m' ys' G S I J d P sa sc sl w W':=
 ⟨⟨hs.p,hs.y,h.h.gr.trans hs.gr⟩,h.bx.pw hs.gr h.np,h.r.pw hs.gr h.lb h.nb,h.s.pw hs.gr,h.np,h.nb,Nat.le_trans h.lb hs.gr.size⟩
theorem m9.self(h:m9 B M q Y N sb p x m ys G S I J d P sa sc sl w W):g9 M q Y N x m ys W W:=⟨h.h.p,h.h.y,.refl _ _⟩
theorem m9.below(h:m9 B M q Y N sb p x m ys G S I J d P sa sc sl w W)(hb:Below W.heap.size W W'):m9 B M q Y N sb p x m ys G S I J d P sa sc sl w W':=h.to (h.self.below hb)
theorem m9.kind(h:m9 B M q Y N sb p x m ys G S I J d P sa sc sl w W)(hi:i<N):W.cell? ⟨Y,i*16,none⟩=some (.int .u8 (ys i).kind):=by
 have:=h.h.y.bQ i hi 0 _ rfl;rwa[Nat.zero_add,Nat.add_zero] at this
theorem m9.size(h:m9 B M q Y N sb p x m ys G S I J d P sa sc sl w W)(hi:i<N):W.cell? ⟨Y,i*16+3,none⟩=some (.int .i64 (ys i).size):=by
 have:=h.h.y.bQ i hi 3 _ rfl;rwa[Nat.zero_add] at this
theorem g9.Jg(h:g9 M q Y N x m ys w W)(hi:i<N)(v:Int):g9 M q Y N x m (ak ys i {ys i with size:=v}) w (W.setCell ⟨Y,i*16+3,none⟩ (.int .i64 v)):=by
 have ho:=az.setCell W ⟨Y,i*16+3,none⟩ (.int .i64 v);obtain⟨f,hf⟩:=h.p.k;refine⟨⟨⟨f,hf.only ho h.Tu⟩,h.p.im.only ho h.neq⟩,?_,h.gr.trans (.cE ho (.inr (.inr rfl)))⟩;have:=h.y.dO (k:=i) (j:=3) hi (by omega) (λj=>nT ys j) (.int .i64 v);refine this.congr λj hj=> ?_
 unfold vZ ak
 by_cases e:j=i
 ·subst e;rw[if_pos rfl,if_pos rfl];rfl
 rw[if_neg e,if_neg e]
theorem m9.slot(h:m9 B M q Y N sb p x m ys G S I J d P sa sc sl w W)(hi:i<N)(hk:k<(sl i).length):∃b off,sa i=some ⟨b,off,none⟩/\∀W',m9 B M q Y N sb p x m ys G S I J d P sa sc sl w W'->(∀j v,(kC (sl i) k)[j]? =some v->W'.cell? ⟨b,off+k*2+j,none⟩=some v):=by
 rcases h.s.r i hi with h0|⟨b,off,e,-⟩
 ·omega
 refine⟨b,off,e,λW' h' j v hv=> ?_⟩;rcases h'.s.r i hi with h0|⟨b',off',e',hs⟩
 ·omega
 rw[e] at e';cases e';exact hs k hk j v hv
end
theorem tO{α:Type}(f:Nat->α)(i:Nat):ak f i (f i)=f:=by
 funext k;unfold ak;split
 ·rename_i e;rw[e]
 rfl
theorem xC{α:Type}(f:Nat->α)(i:Nat)(u v:α):ak (ak f i u) i v=ak f i v:=by
 funext k;unfold ak;split<;>rfl
theorem Bt{α:Type}(f:Nat->α)(i:Nat)(u:α):ak f i u i=u:=if_pos rfl
theorem Av(B M q Y N sb:Nat)(x:Im)(hx:x.Ok)(m:MS)(ys:Nat->aS)(hI:iQ x m ys N)(hN:N<=4096)(G S I J:Int)(d:dL)(P:PlanD)(hB:P.Bd)(hS:P.Small)(hNP:N<=P.nf+1)(sa:Nat->Option Addr)(sc:Nat->Nat)(sl:Nat->List sI)(hl:∀k,k<N->(sl k).length<=4000/\∀t,t<(sl k).length->((sl k).getD t default).1<4294967296)
  (w:World) (hs:g9 M q Y N x m ys w w) (hP:iX B d P w) (hBw:B<=w.heap.size) (Pk:∀j,j<B->¬MY M q Y j) (ZH:Eb M q Y N sb sa sc sl w) (LV:∀j,MY M q Y j->j<w.heap.size):
  Calls Tryz.prog 29 #[.pointer (some ⟨M,0,none⟩),tZ G S I J d P,.slice (some ⟨Y,0,none⟩) N N,.slice (some ⟨sb,0,none⟩) N N] w λe w'=>
   e= .returned (.tuple #[])/\g9 M q Y N x (P.fill x ⟨ys,sl⟩ m N).m (P.fill x ⟨ys,sl⟩ m N).ino w w'/\iQ x (P.fill x ⟨ys,sl⟩ m N).m (P.fill x ⟨ys,sl⟩ m N).ino N:=by
 have dt:Hd (m9 B M q Y N sb w.heap.size x m ys G S I J d P sa sc sl w (w.alloc (.cells (dK G S I J d P) 27))):=by
  have hb:Below w.heap.size w (w.alloc (.cells (dK G S I J d P) 27)):=ag.alloc af _;have hg:dV (MY M q Y) w (w.alloc (.cells (dK G S I J d P) 27)):=.b9 hb;exact⟨hs.below hb,At.new _ _ _,hP.pw hg hBw Pk,ZH.pw hg,λe=>Nat.lt_irrefl _ (LV _ e),Pk,Nat.le_trans hBw hb.size⟩
 have HX:=ah hx;have HI:=ah hI;have xu:=ah hB;have xr:=ah hS;have HL:=ah hl;clear hx hI hB hS hl hs hP ZH LV Pk;go_enter Tryz.func29,Tryz.ntmps29;go_wp2_with fail;go_loopw [8,9,10,11,12] (λi _ _ _ _ wr=>∃k:Nat,k<=N/\i= .int .i64 (k:Int)/\iQ x (P.fill x ⟨ys,sl⟩ m k).m (P.fill x ⟨ys,sl⟩ m k).ino N/\m9 B M q Y N sb w.heap.size x (P.fill x ⟨ys,sl⟩ m k).m (P.fill x ⟨ys,sl⟩ m k).ino G S I J d P sa sc sl w wr) (λi _ _ _ _ _=>N-(intOf i).toNat)
 case atStart=>exact⟨0,Nat.zero_le _,rfl,HI.Z,dt.Z⟩
 clear dt HI;obtain⟨k,hk,rfl,hi,st⟩:=hrel
 by_cases hlt:k<N
 ·have hlt':(k:Int)<(N:Int):=by omega
  obtain⟨F,hF⟩:=aa (P.fill x ⟨ys,sl⟩ m k);have Uq:Hd (P.fill x ⟨ys,sl⟩ m (k+1)=P.uA x sl k F):=by rw[hF];rfl
  rw[<-hF] at hi st;have HI:=ah hi;have ST:=ah st;have Ii:=(HL.Z k hlt).1;obtain⟨ln,JV⟩:=aa ((sl k).length);have IF:=ah JV;have ck:=st.kind hlt;have cs:=st.s.c k hlt;have c3:=st.size hlt;have fs:=st.h.y.soft (k*16+3);rw[<-JV] at Ii cs;clear hi st hF JV
  by_cases fV:(F.ino k).kind=2
  ·have q1:((F.ino k).kind==2)=true:=by simp[fV]
   obtain⟨y0,hy0⟩:=aa ({F.ino k with size:=256*((((sl k).length+7)/8:Nat):Int)}:aS);obtain⟨Ht,Kc⟩:∃Ht:Nat->PlanD.HS,Ht=λt=>PlanD.pk (PlanD.Bv x (sl k)) t ⟨y0,F.m⟩:=⟨_,rfl⟩
   have SE:Hd (Ht 0=⟨y0,F.m⟩):=by show _=_;rw[Kc];rfl
   have X6:Hd (∀t,Ht (t+1)=PlanD.Bv x (sl k) t (Ht t)):=λt=>by rw[Kc];rfl
   have jP:Hd (P.fill x ⟨ys,sl⟩ m (k+1)=⟨ak F.ino k (Ht ln).y,(Ht ln).m⟩):=by
    show _=_;rw[Uq.Z,PlanD.uA,PlanD.F6];dsimp only;rw[if_pos fV,Kc,hy0,IF.Z]
   have HI1:Hd (iQ x F.m (ak F.ino k y0) N):=by
    obtain⟨bY,h1,h2⟩:=HI.Z;refine⟨bY,h1,λj hj=> ?_⟩;unfold ak
    by_cases e:j=k
    ·subst e;rw[if_pos rfl,hy0];exact h2 j hj
    rw[if_neg e];exact h2 j hj
   have bh:Hd (m9 B M q Y N sb w.heap.size x F.m (ak F.ino k y0) G S I J d P sa sc sl w (wr.setCell ⟨Y,k*16+3,none⟩ (.int .i64 (256*(((ln:Int)+7)/8))))):=by
    have:=ST.Z.to (ST.Z.self.Jg hlt (256*(((ln:Int)+7)/8)));have e:y0={F.ino k with size:=256*(((ln:Int)+7)/8)}:=by rw[hy0,<-IF.Z];push_cast;rfl
    rw[e];exact this
   clear ST HI Uq Kc hy0;go_wp2_with fail;clear ck cs c3 fs q1 fV;go_loopw [9,10] (λu _ wr=>∃t:Nat,t<=ln/\u= .int .i64 (t:Int)/\iQ x (Ht t).m (ak F.ino k (Ht t).y) N/\m9 B M q Y N sb w.heap.size x (Ht t).m (ak F.ino k (Ht t).y) G S I J d P sa sc sl w wr) (λu _ _=>ln-(intOf u).toNat)
   case atStart=>exact⟨0,Nat.zero_le _,rfl,by rw[SE.Z];exact HI1.Z,by rw[SE.Z];exact bh.Z⟩
   clear bh HI1;obtain⟨t,ht,rfl,hi,st⟩:=hrel;have HI:=ah hi;have ST:=ah st;have cs:=st.s.c k hlt;rw[<-IF.Z] at cs;clear hi st
   by_cases Ih:t<ln
   ·have ND:(t:Int)<(ln:Int):=by omega
    have htl:t<(sl k).length:=by rw[<-IF.Z];exact Ih
    obtain⟨R,hR⟩:=aa (MS.fB x (Ht t).y ((t:Int)/8) (Ht t).m);have xc:Hd (Ht (t+1)=⟨R.2.1,if 0<R.1/\((sl k).getD t default).2.size<=27 then R.2.2.put R.1 (Ap (R.2.2.L R.1) (t%8) (bS (((sl k).getD t default).1:Nat) ((sl k).getD t default).2)) else R.2.2⟩):=by
     show _=_;rw[X6.Z t,PlanD.Bv,show((t/8:Nat):Int)=(t:Int)/8 from rfl,hR]
    have HV:=ah (yM HX.Z HI.Z hlt ((t:Int)/8));have hcall:=λ(W:World) (hW:g9 M q Y N x (Ht t).m (ak F.ino k (Ht t).y) W W)=>rL M q Y N x HX.Z (Ht t).m (ak F.ino k (Ht t).y) HI.Z k hlt hN ((t:Int)/8) W hW
    rw[Bt,<-hR,xC] at HV hcall;have HC:=ah hcall;obtain⟨r1,r2,r3⟩:=R;dsimp only at HV HC xc;clear hcall hR HI;go_wp2_with fail;refine(HC.Z _ ST.Z.self).mono ?_;rintro e w1 ⟨rfl,hs1⟩;have bh:=ah (ST.Z.to hs1);clear ST hs1 HC cs;obtain⟨nm,xj⟩:=aa (((sl k).getD t default).2);obtain⟨ino,yH⟩:=aa (((sl k).getD t default).1);have adA:ino<4294967296:=by rw[yH];exact(HL.Z k hlt).2 t htl
    rw[<-xj,<-yH] at xc;obtain⟨sb1,To,hsa,hsc⟩:=bh.Z.slot hlt htl;have HSC:=ah hsc;have cs:w1.cell? ⟨sb,k,none⟩=some (.slice (some ⟨sb1,To,none⟩) ln (sc k)):=by
     have:=bh.Z.s.c k hlt;rwa[<-IF.Z,hsa] at this
    have cn:w1.cell? ⟨sb1,To+t*2+1,none⟩=some (.string nm):=by rw[xj];exact hsc _ bh.Z 1 _ rfl
    have zw:=ah (And.intro xj yH);have SI:=ah hsa;clear hsa hsc xj yH htl;have JO:=HV.Z.2.1
    by_cases BS:r1=0
    ·subst BS
     have ko:Hd (Ht (t+1)=⟨r2,r3⟩):=by show _=_;rw[xc.Z,if_neg (by omega)]
     have zO:=ah HV.Z.1;go_wp2_with fail;go_roundw
     case rel=>exact⟨t+1,by omega,by go_num,by rw[ko.Z];exact zO.Z,by rw[ko.Z];exact bh.Z⟩
     simp[intOf];omega
    have DG:0<r1:=by omega
    have Vy:(0:Int)<(r1:Int):=by omega
    by_cases Gn:nm.size<=27
    ·have Gm:(nm.size:Int)<=27:=by omega
     have t1:decide ((nm.size:Int)<=27)=true:=decide_eq_true Gm;have t2:decide (nm.size<=27)=true:=decide_eq_true Gn;obtain⟨NB,hput⟩:=HV.Z.2.2 (by omega);have Vz:(r1:Int)<(x.n:Int):=by omega
     obtain⟨Z,hZ⟩:=aa (Ap (r3.L r1) (t%8) (bS (ino:Int) nm));have ko:Hd (Ht (t+1)=⟨r2,r3.put r1 Z⟩):=by show _=_;rw[xc.Z,if_pos ⟨DG,Gn⟩,hZ]
     have zO:Hd (iQ x (r3.put r1 Z) (ak F.ino k r2) N):=hput Z (by
      rw[hZ];refine eO (HV.Z.1.jx.1 r1) ?_ _ _;unfold bS;split
      ·exactλ_=>⟨Int.le_refl _,by show(0:Int)<256;decide⟩
      exact Ky _ Gn)
     have zu:Hd (∀W,Calls Tryz.prog 65 #[aR (r3.L r1),.int .i64 ((t:Int)%8),sv (ino:Int) nm] W λe w'=>e= .returned (aR Z)/\Below W.heap.size W w'):=λW=>by
      rw[hZ];exact Fy (r3.L r1) (t%8) (by omega) (ino:Int) nm ⟨by omega,by omega⟩ (.inr Gn) W
     clear hput hZ HV;go_wp2_with fail;refine aG (m9 B M q Y N sb w.heap.size x r3 (ak F.ino k r2) G S I J d P sa sc sl w) 23 (by kernel_rfl) (by kernel_rfl) (by kernel_rfl) (by kernel_rfl) (by kernel_rfl) (by decide) (bh.Z.below ag.drew) ?_;clear bh;simp only[List.take,List.drop];intro hne;have hc0:∀y:a9 (m9 B M q Y N sb w.heap.size x r3 (ak F.ino k r2) G S I J d P sa sc sl w),y.W.cell? ⟨M,0,none⟩=some (.slice (some ⟨q,0,none⟩) x.n x.n):=λy=>y.h.h.p.c0
     have hcs:∀y:a9 (m9 B M q Y N sb w.heap.size x r3 (ak F.ino k r2) G S I J d P sa sc sl w),y.W.cell? ⟨sb,k,none⟩=some (.slice (some ⟨sb1,To,none⟩) ln (sc k)):=λy=>by
      have:=y.h.s.c k hlt;rwa[<-IF.Z,SI.Z] at this
     repeat go_big_quiet_step (fail)
     refine aO rfl 32 (.tmp 77) rfl q (r1*256) rfl (dR r3.L r1) _ (λW h=>by have:=aM.range h.h.p.im.bQ r1 NB;rwa[Nat.zero_add] at this) Tryz.underlying32 rfl (by rw[aZ];exact aA) ?_;refine aj ?_
     repeat go_big_quiet_step (fail)
     refine aO rfl 90 (.tmp 86) rfl sb1 (To+t*2) rfl [.int .u32 (ino:Int),.string nm] _ (λW h=>by
      have:=HSC.Z W h;rw[zw.Z.1,zw.Z.2]
      exactλj v hv=>this j v hv) Tryz.underlying90 rfl (by kernel_rfl) ?_
     refine aj ?_
     go_big_quiet_want
     go_big_quiet_op
     refine⟨_,λs=>aN s (λW hW=>(zu.Z W).mono λe w' h=>⟨h.1,hW.below h.2⟩),?_⟩
     go_big_quiet_on
     repeat go_big_quiet_step (fail)
     refine wpQuiet_nil ?_;intro w2 h2';have bW:=ah h2'.Z;clear h2' hne hc0 hcs;have gG:w2.there q (r1*256) (Ks .u8 256 Z).length:=by rw[bD];exact bW.Z.h.p.im.there NB
     have DI:=bW.Z.h.p.put NB Z;have fh:=ah (bW.Z.to (bW.Z.self.oy DI.1 (.cE DI.2 (.inr rfl))));clear bW DI;go_wp2_with (first|(refine iY rfl 32 (.tmp 89) (.tmp 88) rfl q (r1*256) (Ks .u8 256 Z) rfl rfl gG (by rw[bD];exact aA) (Cm _ _ _) ?_))
     intro w9 Ig;rw[<-Ig.Z] at fh;clear Ig gG;go_wp2_with fail;go_roundw
     case rel=>exact⟨t+1,by omega,by go_num,by rw[ko.Z];exact zO.Z,by rw[ko.Z];exact fh.Z⟩
     simp[intOf];omega
    have Gm:¬(nm.size:Int)<=27:=by omega
    have t1:decide ((nm.size:Int)<=27)=false:=decide_eq_false Gm;have t2:decide (nm.size<=27)=false:=decide_eq_false Gn;have ko:Hd (Ht (t+1)=⟨r2,r3⟩):=by show _=_;rw[xc.Z,if_neg (by omega)]
    have zO:=ah HV.Z.1;go_wp2_with fail;go_roundw
    case rel=>exact⟨t+1,by omega,by go_num,by rw[ko.Z];exact zO.Z,by rw[ko.Z];exact bh.Z⟩
    simp[intOf];omega
   obtain rfl:t=ln:=by omega
   go_wp2_with fail;go_roundw
   case rel=>first|exact⟨k+1,by omega,by first|rfl|go_num,by rw[jP.Z];exact HI.Z,by rw[jP.Z];exact ST.Z⟩|((repeat apply Exists.intro);refine⟨?_,rfl⟩;exact⟨k+1,by omega,by first|rfl|go_num,by rw[jP.Z];exact HI.Z,by rw[jP.Z];exact ST.Z⟩)
   simp[intOf];omega
  have q1:((F.ino k).kind==2)=false:=by simp[fV]
  obtain⟨Dl,JR⟩:∃Dl,Dl=if k=0 then 0 else(P.f (k-1)).nb:=⟨_,rfl⟩
  obtain⟨Ht,Kc⟩:∃Ht:Nat->PlanD.HS,Ht=λt=>PlanD.pk (PlanD.wR x (P.f (k-1)).bl) t ⟨F.ino k,F.m⟩:=⟨_,rfl⟩
  have SE:Hd (Ht 0=⟨F.ino k,F.m⟩):=by show _=_;rw[Kc];rfl
  have X6:Hd (∀t,Ht (t+1)=PlanD.wR x (P.f (k-1)).bl t (Ht t)):=λt=>by rw[Kc];rfl
  have jP:Hd (P.fill x ⟨ys,sl⟩ m (k+1)=⟨ak F.ino k (Ht Dl).y,(Ht Dl).m⟩):=by
   show _=_;rw[Uq.Z,PlanD.uA,PlanD.F6];dsimp only;rw[if_neg fV,Kc,JR]
   by_cases e:k=0
   ·rw[if_pos e,if_pos e];rfl
   rw[if_neg e,if_neg e]
  have adl:Dl<=1000:=by
   rw[JR];split
   ·omega
   have h1:=xr.Z.cn;have:∀n,n<=P.nf->k-1<n->(P.f (k-1)).nb<=P.cn n:=λn=>by
    induction n with
    |zero=>intro _ h;omega
    |succ n ih=>
     intro hn h;rw[PlanD.cn]
     by_cases e:k-1=n
     ·rw[e];omega
     have:=ih (by omega) (by omega);omega
   have:=this P.nf af (by omega);omega
  have Yc:=ah JR;clear Uq Kc JR;go_wp2_with fail;clear ck cs c3 fs q1 fV;go_loopw [11,12] (λu _ wr=>∃t:Nat,t<=Dl/\u= .int .i64 (t:Int)/\iQ x (Ht t).m (ak F.ino k (Ht t).y) N/\m9 B M q Y N sb w.heap.size x (Ht t).m (ak F.ino k (Ht t).y) G S I J d P sa sc sl w wr) (λu _ _=>Dl-(intOf u).toNat)
  case atStart=>exact⟨0,Nat.zero_le _,rfl,by rw[SE.Z,tO];exact HI.Z,by rw[SE.Z,tO];exact ST.Z⟩
  clear ST HI;obtain⟨t,ht,rfl,hi,st⟩:=hrel;have HI:=ah hi;have ST:=ah st;clear hi st
  by_cases Ih:t<Dl
  ·have ND:(t:Int)<(Dl:Int):=by omega
   obtain⟨k',rfl⟩:∃k',k=k'+1:=⟨k-1,by have:=Yc.Z;split at this<;>omega⟩;have hk':k'<P.nf:=by omega
   have zN:Hd (Dl=(P.f k').nb):=by show _=_;rw[Yc.Z,if_neg (by omega),Nat.add_sub_cancel]
   have c4:wr.cell? ⟨w.heap.size,4,none⟩=some (.slice d.fa P.nf d.fc):=ST.Z.bx.cell (i:=4) rfl;obtain⟨fb,fo,tq,Xw⟩:=ST.Z.r.f.cell (j:=2) hk' rfl;obtain⟨bb,bo,Ry,-⟩:=(ST.Z.r.b k' hk').cell (j:=0) (show t<(P.f k').nb by rw[<-zN.Z];exact Ih) rfl;have gY:Hd (∀W,m9 B M q Y N sb w.heap.size x (Ht t).m (ak F.ino (k'+1) (Ht t).y) G S I J d P sa sc sl w W->W.cell? ⟨fb,fo+k'*6+2,none⟩=some (.slice (some ⟨bb,bo,none⟩) Dl (d.bc k'))):=λW h=>by
    obtain⟨b,o,e,hc⟩:=h.r.f.cell (j:=2) hk' rfl;rw[tq] at e;cases e;rw[Ry,<-zN.Z] at hc;exact hc
   have zA:Hd (∀W,m9 B M q Y N sb w.heap.size x (Ht t).m (ak F.ino (k'+1) (Ht t).y) G S I J d P sa sc sl w W->W.cell? ⟨w.heap.size,4,none⟩=some (.slice (some ⟨fb,fo,none⟩) P.nf d.fc)):=λW h=>by rw[<-tq];exact h.bx.cell (i:=4) rfl
   obtain⟨bl,hbl⟩:=aa ((P.f k').bl t);have IH:Hd (∀W,m9 B M q Y N sb w.heap.size x (Ht t).m (ak F.ino (k'+1) (Ht t).y) G S I J d P sa sc sl w W->W.cell? ⟨bb,bo+t,none⟩=some (.int .i64 bl)):=λW h=>by
    obtain⟨b,o,e,hc⟩:=(h.r.b k' hk').cell (j:=0) (show t<(P.f k').nb by rw[<-zN.Z];exact Ih) rfl;rw[Ry] at e;cases e;rwa[Nat.mul_one,Nat.add_zero,<-hbl] at hc
   clear Xw c4 tq Ry;have c4:=zA.Z _ ST.Z;have c2:=gY.Z _ ST.Z;have Wg:(k':Int)<(P.nf:Int):=by omega
   have JQ:=xr.Z.nf;obtain⟨R,hR⟩:=aa (MS.fB x (Ht t).y bl (Ht t).m);have xc:Hd (Ht (t+1)=⟨R.2.1,if 0<R.1 then R.2.2.put R.1 (over (R.2.2.L R.1) 0 1 (λ_=>((t+1:Nat):Int)%256)) else R.2.2⟩):=by
    show _=_;rw[X6.Z t,PlanD.wR,Nat.add_sub_cancel,<-hbl,hR]
   have HV:=ah (yM HX.Z HI.Z hlt bl);have hcall:=λ(W:World) (hW:g9 M q Y N x (Ht t).m (ak F.ino (k'+1) (Ht t).y) W W)=>rL M q Y N x HX.Z (Ht t).m (ak F.ino (k'+1) (Ht t).y) HI.Z (k'+1) hlt hN bl W hW
   rw[Bt,<-hR,xC] at HV hcall;have HC:=ah hcall;obtain⟨r1,r2,r3⟩:=R;dsimp only at HV HC xc;clear hcall hR HI hbl;go_wp2_with fail;refine aG (m9 B M q Y N sb w.heap.size x (Ht t).m (ak F.ino (k'+1) (Ht t).y) G S I J d P sa sc sl w) 14 (by kernel_rfl) (by kernel_rfl) (by kernel_rfl) (by kernel_rfl) (by kernel_rfl) (by decide) (ST.Z.below ag.drew) ?_;clear ST c4 c2;simp only[List.take,List.drop];intro hne;have uv:∀y:a9 (m9 B M q Y N sb w.heap.size x (Ht t).m (ak F.ino (k'+1) (Ht t).y) G S I J d P sa sc sl w),y.W.cell? ⟨w.heap.size,4,none⟩=some (.slice (some ⟨fb,fo,none⟩) P.nf d.fc):=λy=>zA.Z _ y.h
   have hc2:∀y:a9 (m9 B M q Y N sb w.heap.size x (Ht t).m (ak F.ino (k'+1) (Ht t).y) G S I J d P sa sc sl w),y.W.cell? ⟨fb,fo+k'*6+2,none⟩=some (.slice (some ⟨bb,bo,none⟩) Dl (d.bc k')):=λy=>gY.Z _ y.h
   have hcb:∀y:a9 (m9 B M q Y N sb w.heap.size x (Ht t).m (ak F.ino (k'+1) (Ht t).y) G S I J d P sa sc sl w),y.W.cell? ⟨bb,bo+t,none⟩=some (.int .i64 bl):=λy=>IH.Z _ y.h
   repeat go_big_quiet_step (fail)
   refine wpQuiet_nil ?_;intro w1 h1';have bh:=ah h1'.Z;clear h1' hne uv hc2 hcb;go_wp2_with fail;refine(HC.Z _ bh.Z.self).mono ?_;rintro e w2 ⟨rfl,hs2⟩;have bW:=ah (bh.Z.to hs2);clear bh hs2 HC;have JO:=HV.Z.2.1
   by_cases BS:r1=0
   ·subst BS
    have ko:Hd (Ht (t+1)=⟨r2,r3⟩):=by show _=_;rw[xc.Z,if_neg (by omega)]
    have zO:=ah HV.Z.1;go_wp2_with fail;go_roundw
    case rel=>first|exact⟨t+1,by omega,by go_num,by rw[ko.Z];exact zO.Z,by rw[ko.Z];exact bW.Z⟩|((repeat apply Exists.intro);refine⟨?_,rfl⟩;exact⟨t+1,by omega,by go_num,by rw[ko.Z];exact zO.Z,by rw[ko.Z];exact bW.Z⟩)
    simp[intOf];omega
   have DG:0<r1:=by omega
   have Vy:(0:Int)<(r1:Int):=by omega
   obtain⟨NB,hput⟩:=HV.Z.2.2 (by omega);have Vz:(r1:Int)<(x.n:Int):=by omega
   obtain⟨Z,hZ⟩:=aa (over (r3.L r1) 0 1 (λ_=>((t+1:Nat):Int)%256));have ko:Hd (Ht (t+1)=⟨r2,r3.put r1 Z⟩):=by show _=_;rw[xc.Z,if_pos DG,hZ]
   have zO:Hd (iQ x (r3.put r1 Z) (ak F.ino (k'+1) r2) N):=hput Z (by
    rw[hZ];exact eO (HV.Z.1.jx.1 r1) (λ_=>⟨by omega,by omega⟩) _ _)
   have HZ:=ah hZ;clear hput hZ HV;have c0:=bW.Z.h.p.c0;have fz:=bW.Z.h.p.im.soft (r1*256);have cz:w2.cell? ⟨q,r1*256,none⟩=some (.int .u8 (r3.L r1 0)):=by
    have:=bW.Z.h.p.bQ NB 0 (by decide);rwa[Nat.add_zero] at this
   have hpt:gj q (r1*256+0) 1 (λ_=>((t+1:Nat):Int)%256) w2 (w2.setCell ⟨q,r1*256,none⟩ (.int .u8 (((t:Int)+1)%256))):=
    (gj.nil q (r1*256+0) (λ_=>((t+1:Nat):Int)%256) w2).snoc (u:=.int .u8 (r3.L r1 0)) cz rfl
   have fh:=ah (bW.Z.to (bW.Z.self.oy (bW.Z.h.p.kD NB (by omega) hpt) (.cE hpt.only (.inr rfl))));rw[<-HZ.Z] at fh;clear bW hpt HZ;go_wp2_with fail;go_roundw
   case rel=>first|exact⟨t+1,by omega,by go_num,by rw[ko.Z];exact zO.Z,by rw[ko.Z];exact fh.Z⟩|((repeat apply Exists.intro);refine⟨?_,rfl⟩;exact⟨t+1,by omega,by go_num,by rw[ko.Z];exact zO.Z,by rw[ko.Z];exact fh.Z⟩)
   simp[intOf];omega
  obtain rfl:t=Dl:=by omega
  by_cases ku:k=0
  ·subst ku
   go_wp2_with fail;go_roundw
   case rel=>first|exact⟨1,by omega,by first|rfl|go_num,by rw[jP.Z];exact HI.Z,by rw[jP.Z];exact ST.Z⟩|((repeat apply Exists.intro);refine⟨?_,rfl⟩;exact⟨1,by omega,by first|rfl|go_num,by rw[jP.Z];exact HI.Z,by rw[jP.Z];exact ST.Z⟩)
   simp[intOf];omega
  obtain⟨k',rfl⟩:∃k',k=k'+1:=⟨k-1,by omega⟩;have hk':k'<P.nf:=by omega
  have e1:t=(P.f k').nb:=by rw[Yc.Z,if_neg (by omega),Nat.add_sub_cancel]
  have c4:wr.cell? ⟨w.heap.size,4,none⟩=some (.slice d.fa P.nf d.fc):=ST.Z.bx.cell (i:=4) rfl;obtain⟨fb,fo,tq,Xw⟩:=ST.Z.r.f.cell (j:=2) hk' rfl;rw[tq] at c4;rw[<-e1] at Xw;have Wg:(k':Int)<(P.nf:Int):=by omega
  have JQ:=xr.Z.nf;clear tq e1;go_wp2_with fail;go_roundw
  case rel=>first|exact⟨k'+1+1,by omega,by first|rfl|go_num,by rw[jP.Z];exact HI.Z,by rw[jP.Z];exact ST.Z⟩|((repeat apply Exists.intro);refine⟨?_,rfl⟩;exact⟨k'+1+1,by omega,by first|rfl|go_num,by rw[jP.Z];exact HI.Z,by rw[jP.Z];exact ST.Z⟩)
  simp[intOf];omega
 obtain rfl:k=N:=by omega
 have ST:=ah st;have HI:=ah hi;clear st hi;go_wp2_with fail;refine bodyPost_end (results_none rfl _ _ _) rfl ⟨rfl,ST.Z.h,HI.Z⟩
end Go.Proofs.YtphamecphmbipaaGreatDoor
