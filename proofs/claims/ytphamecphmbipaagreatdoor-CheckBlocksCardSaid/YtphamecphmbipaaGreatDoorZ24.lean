/- Texts of this claim, merged. -/
import Derived.Test.YtphamecphmbipaaGreatDoorZ23
set_option linter.unusedVariables false
namespace Go.Proofs.YtphamecphmbipaaGreatDoor
open Go.RowKit
variable {x:Im} {m m1:MS} {ys sO:Nat->aS} {N k i q M Y:Nat} {W' w:World} {f:Nat->Int} {a:Option Addr} {l:Nat->Bool}
def MY(M q Y:Nat)(j:Nat):Prop:=j=M\/j=q\/j=Y
def vZ(ys:Nat->aS)(k:Nat):List Value:=(ys k).arr.toList
theorem nT(ys:Nat->aS)(k:Nat):(vZ ys k).length=16:=rfl
def iQ(x:Im)(m:MS)(ys:Nat->aS)(N:Nat):Prop:=∃bY,m.Wf x bY/\∀k,k<N->MS.OH x m bY (ys k)
theorem iQ.jx(h:iQ x m ys N):(∀b,bu (m.L b))/\m.next<=x.n:=by obtain⟨bY,h,_⟩:=h;exact⟨h.jx,h.le⟩
def oB(y:aS)(k v:Nat):aS:={y with p:=λq=>if q=k then(v:Int) else y.p q}
theorem JH(y:aS)(hk:k<11):y.arr.toList[4+k]? =some (.int .u32 (y.p k)):=by
 have:k=0\/k=1\/k=2\/k=3\/k=4\/k=5\/k=6\/k=7\/k=8\/k=9\/k=10:=by omega
 rcases this with rfl|rfl|rfl|rfl|rfl|rfl|rfl|rfl|rfl|rfl|rfl<;>rfl
theorem Fe(y:aS)(v:Nat)(hk:k<11):(oB y k v).arr.toList=y.arr.toList.set (4+k) (.int .u32 (v:Int)):=by
 have:k=0\/k=1\/k=2\/k=3\/k=4\/k=5\/k=6\/k=7\/k=8\/k=9\/k=10:=by omega
 rcases this with rfl|rfl|rfl|rfl|rfl|rfl|rfl|rfl|rfl|rfl|rfl<;>rfl
structure g9(M q Y N:Nat)(x:Im)(m:MS)(ys:Nat->aS)(w W:World):Prop where
 p:jy M q x m W
 y:aE W Y 63 16 N (vZ ys)
 gr:dV (MY M q Y) w W
section
variable {M q Y N:Nat} {x:Im} {m:MS} {ys:Nat->aS} {w W W':World}
theorem g9.below(h:g9 M q Y N x m ys w W)(hb:Below W.heap.size W W'):g9 M q Y N x m ys w W':=⟨h.p.below hb,h.y.below hb,h.gr.trans (.b9 hb)⟩
theorem g9.Tu(h:g9 M q Y N x m ys w W):M≠Y:=by
 obtain⟨f,hf⟩:=h.p.k;obtain⟨cs,hc,_⟩:=h.y.blk;exact At.dk hf hc (by decide)
theorem g9.neq(h:g9 M q Y N x m ys w W):q≠Y:=by
 obtain⟨c1,h1,_⟩:=h.p.im.blk;obtain⟨cs,hc,_⟩:=h.y.blk;exact At.dk h1 hc (by decide)
theorem g9.oy(h:g9 M q Y N x m ys w W){m':MS}(hp:jy M q x m' W')(hg:dV (MQ M q) W W'):g9 M q Y N x m' ys w W':=
 ⟨hp,h.y.pw hg (by rintro(e|e);exact h.Tu e.symm;exact h.neq e.symm),h.gr.trans (hg.mono λj e=>e.elim .inl λe=> .inr (.inl e))⟩
theorem g9.ptr(h:g9 M q Y N x m ys w W)(hi:i<N)(hk:k<11):W.cell? ⟨Y,i*16+4+k,none⟩=some (.int .u32 ((ys i).p k)):=by
 have:=h.y.bQ i hi (4+k) _ (JH (ys i) hk);rwa[Nat.zero_add,<-Nat.add_assoc] at this
theorem g9.UP(h:g9 M q Y N x m ys w W)(hi:i<N)(hk:k<11)(v:Nat):g9 M q Y N x m (ak ys i (oB (ys i) k v)) w (W.setCell ⟨Y,i*16+4+k,none⟩ (.int .u32 (v:Int))):=by
 have ho:=az.setCell W ⟨Y,i*16+4+k,none⟩ (.int .u32 (v:Int));obtain⟨f,hf⟩:=h.p.k;refine⟨⟨⟨f,hf.only ho h.Tu⟩,h.p.im.only ho h.neq⟩,?_,h.gr.trans (.cE ho (.inr (.inr rfl)))⟩;have:=h.y.dO (k:=i) (j:=4+k) hi (by omega) (λj=>nT ys j) (.int .u32 (v:Int));rw[<-Nat.add_assoc] at this;refine this.congr λj hj=> ?_
 unfold vZ ak
 by_cases e:j=i
 ·subst e;rw[if_pos rfl,if_pos rfl,Fe _ _ hk]
 rw[if_neg e,if_neg e]
end
theorem KC{W:World}{n:Nat}{L:Nat->Nat->Int}(h:aE W q 32 256 n (dR L)){b m:Nat}(hb:b<n)(hk:k+m<=256)(hp:gj q (b*256+k) m f W W'):aE W' q 32 256 n (dR (ak L b (over (L b) k m f))):=by
 obtain⟨cs,h1,h2⟩:=h.blk;obtain⟨c',hc1,hc2⟩:=hp.only.shape _ _ _ h1;refine⟨⟨c',hc2,by rw[hc1,h2]⟩,λc hc o v hv=> ?_⟩;have ho:o<256:=by have:=(List.getElem?_eq_some_iff.1 hv).1;rwa[aZ] at this
 have e1:dR (ak L b (over (L b) k m f)) c=Ks .u8 256 (ak L b (over (L b) k m f) c):=rfl;rw[e1,gX .u8 256 _ o ho] at hv;injection hv with hv
 subst hv;rw[hp.cell]
 by_cases e:c=b
 ·subst e
  unfold ak over;rw[if_pos rfl]
  by_cases hr:k<=o/\o<k+m
  ·rw[if_pos (by omega),if_pos hr,show 0+c*256+o-(c*256+k)=o-k by omega]
  rw[if_neg (by omega),if_neg hr];exact h.bQ c hc o _ (gX .u8 256 (L c) o ho)
 unfold ak;rw[if_neg e,if_neg (by omega)];exact h.bQ c hc o _ (gX .u8 256 (L c) o ho)
theorem jy.kD{W:World}(h:jy M q x m W){b n:Nat}(hb:b<x.n)(hk:k+n<=256)(hp:gj q (b*256+k) n f W W'):jy M q x (m.put b (over (m.L b) k n f)) W':=by
 obtain⟨g,hg⟩:=h.k;exact⟨⟨g,hg.only hp.only h.ne⟩,KC h.im hb hk hp⟩
theorem jy.bQ{W:World}(h:jy M q x m W){b:Nat}(hb:b<x.n):Seg W q (b*256) 256 (m.L b):=λo ho=>by
 have:=h.im.bQ b hb o _ (gX .u8 256 (m.L b) o ho);rwa[Nat.zero_add] at this
structure m6(M q Y N:Nat)(x:Im)(m:MS)(ys:Nat->aS)(w:World)(a:Option Addr)(ks:List Nat)(W:World):Prop where
 s:g9 M q Y N x m ys w W
 r:cU W a 1 ks.length (iA ks)
 l:∀b off,a=some ⟨b,off,none⟩->b<W.heap.size/\¬MY M q Y b
section
variable {M q Y N:Nat} {x:Im} {m m':MS} {ys ys':Nat->aS} {w W W':World} {a:Option Addr} {ks:List Nat}
theorem m6.below(h:m6 M q Y N x m ys w a ks W)(hb:Below W.heap.size W W'):m6 M q Y N x m ys w a ks W':=
 ⟨h.s.below hb,cU.pw (S:=λ_=>False) h.r (.b9 hb) (λb off e _=>⟨(h.l b off e).1,id⟩),λb off e=>⟨Nat.lt_of_lt_of_le (h.l b off e).1 hb.size,(h.l b off e).2⟩⟩
theorem m6.to(h:m6 M q Y N x m ys w a ks W)(hs:g9 M q Y N x m' ys' w W')(hg:dV (MY M q Y) W W'):m6 M q Y N x m' ys' w a ks W':=
 ⟨hs,cU.pw h.r hg (λb off e _=>h.l b off e),λb off e=>⟨Nat.lt_of_lt_of_le (h.l b off e).1 hg.size,(h.l b off e).2⟩⟩
theorem m6.word(h:m6 M q Y N x m ys w a ks W){t:Nat}(ht:t<ks.length):∃b off,a=some ⟨b,off,none⟩/\W.cell? ⟨b,off+t,none⟩=some (.int .i64 ((ks.getD t 0:Nat):Int)):=by
 rcases h.r with h0|⟨b,off,e,hs⟩
 ·omega
 refine⟨b,off,e,?_⟩;have:=hs t ht 0 _ rfl;rwa[Nat.mul_one,Nat.add_zero] at this
end
structure H5(M q Y N:Nat)(x:Im)(m m1:MS)(ys sO:Nat->aS)(w:World)(a:Option Addr)(ks:List Nat)(l:Nat->Bool)(W:World):Prop where
 fa:l 3=false->m6 M q Y N x m ys w a ks W
 fb:l 3=true->l 8=false->m6 M q Y N x m1 ys w a ks W
 fc:l 8=true->m6 M q Y N x m1 sO w a ks W/\l 3=true
theorem H5.below{ks:List Nat}{W:World}(h:H5 M q Y N x m m1 ys sO w a ks l W)(hb:Below W.heap.size W W'):H5 M q Y N x m m1 ys sO w a ks l W':=
 ⟨λe=>(h.fa e).below hb,λe e2=>(h.fb e e2).below hb,λe=>⟨(h.fc e).1.below hb,(h.fc e).2⟩⟩
theorem H5.next{ks:List Nat}{W:World}(h:H5 M q Y N x m m1 ys sO w a ks l W)(h3:k≠3)(h8:k≠8):H5 M q Y N x m m1 ys sO w a ks (λj=>j==k||l j) W:=by
 have e3:((3==k)||l 3)=l 3:=by rw[show(3==k)=false from by simpa using Ne.symm h3,Bool.false_or]
 have e8:((8==k)||l 8)=l 8:=by rw[show(8==k)=false from by simpa using Ne.symm h8,Bool.false_or]
 exact⟨λe=>h.fa (e3▸e),λe e2=>h.fb (e3▸e) (e8▸e2),λe=>⟨(h.fc (e8▸e)).1,by show((3==k)||l 3)=true;rw[e3];exact(h.fc (e8▸e)).2⟩⟩
def VH(Y o k b0:Nat)(l:Nat->Bool)(n:Nat)(v:Value):Prop:=
 if n=3 then v= .int .i64 (b0:Int) else if n=4 then v= .int .u32 (b0:Int)/\l 3=true
 else if n=5 then v= .pointer (some ⟨Y,o,none⟩) else if n=6 then v= .pointer (some ⟨Y,o+4,none⟩) else if n=7 then v= .pointer (some ⟨Y,o+4+k,none⟩) else v=undef
theorem VH.up{o b0:Nat}{l':Nat->Bool}{n:Nat}{v:Value}(h:VH Y o k b0 l n v)(hl:l 3=true->l' 3=true):VH Y o k b0 l' n v:=by
 unfold VH at h ⊢;split<;>rename_i h1
 ·rwa[if_pos h1] at h
 rw[if_neg h1] at h;split<;>rename_i h2
 ·rw[if_pos h2] at h;exact⟨h.1,hl h.2⟩
 rwa[if_neg h2] at h
theorem uF(x:Im)(ks:List Nat)(m:MS):MS.down x ks 0 m=(0,m):=by cases ks<;>rfl
theorem vh(hx:x.Ok){bY:Nat->Nat}(h:m.Wf x bY):(m.take x).1<2048:=by
 obtain⟨h1,h2,h3,h4,h5,h6,h7,h8,h9,h10,h11⟩:=dX hx.may;obtain⟨_,_,_,hp⟩:=MS.ja (x:=x) (by omega) 0 h;have:=hx.iK
 by_cases e:(m.take x).1=0
 ·omega
 have:=hp.lt e;omega
set_option maxRecDepth 100000 in
set_option maxHeartbeats 16000000 in
theorem rL(M q Y N:Nat)(x:Im)(hx:x.Ok)(m:MS)(ys:Nat->aS)(hI:iQ x m ys N)(i:Nat)(hi:i<N)(hN:N<=4096)(idx:Int)(w:World)(hs:g9 M q Y N x m ys w w):
  Calls Tryz.prog 64 #[.pointer (some ⟨M,0,none⟩),.pointer (some ⟨Y,i*16,none⟩),.int .i64 idx] w λe w'=>
   e= .returned (.int .i64 (((MS.fB x (ys i) idx m).1:Nat):Int))/\g9 M q Y N x (MS.fB x (ys i) idx m).2.2 (ak ys i (MS.fB x (ys i) idx m).2.1) w w':=by
 obtain⟨h1,h2,h3,h4,h5,h6,h7,h8,h9,h10,h11⟩:=dX hx.may;have gi:=hx.iK;obtain⟨bY,hW,hP⟩:=hI;obtain⟨r,hr⟩:=aa (MS.fB x (ys i) idx m);rw[<-hr];have HR:=ah hr;have HW:=ah hW;have HP:=ah hP;have HX:=ah hx;have dt:=ah hs;clear hx hW hP hr hs h11;go_enter Tryz.func64,Tryz.ntmps64;go_wp2_with fail;refine(Db idx w).mono ?_;rintro e w1 ⟨hb1,hp⟩;have fj:=dt.Z.below hb1;have bh:Hd (g9 M q Y N x m ys w1 w1):=⟨fj.p,fj.y,.refl _ _⟩;have jS:Hd (dV (MY M q Y) w w1):=.b9 hb1;have Eg:Hd (∀j,MY M q Y j->j<w.heap.size):=λj hj=>by
  obtain⟨f,hf⟩:=dt.Z.p.k;rcases hj with rfl|rfl|rfl
  ·exact hf.lt
  ·exact dt.Z.p.im.lt
  exact dt.Z.y.lt
 clear fj;have NP:ak ys i (ys i)=ys:=by funext j;unfold ak;split;rename_i e;rw[e];rfl
 rcases hp with⟨hno,rfl⟩|⟨rW,a,c,rfl,hrow,hab⟩
 ·have HE:Hd (r.1=0/\r.2.1=ys i/\r.2.2=m):=by
   show _/\_/\_;rw[HR.Z];unfold MS.fB;rw[if_pos hno];exact⟨rfl,rfl,rfl⟩
  clear dt hb1 hno;go_wp2_with fail;go_ret;obtain⟨e1,e2,e3⟩:=HE.Z;exact⟨by rw[e1];rfl,by rw[e2,e3,NP];exact⟨bh.Z.p,bh.Z.y,jS.Z⟩⟩
 obtain⟨k,hk⟩:=aa (Im.bL idx.toNat);obtain⟨ks,hks⟩:=aa (Im.bM idx.toNat);have DO:k<11:=by rw[hk];exact Im.nw _
 have hlen:ks.length=Im.lvl k:=by rw[hks,hk];exact Im.kO _
 have NN:∀d,d∈ks->d<64:=by rw[hks];exact Im.qc (by omega)
 have K5:Hd (r=if(ys i).p k=0 then((MS.down x ks (m.take x).1 (m.take x).2).1,oB (ys i) k (m.take x).1,(MS.down x ks (m.take x).1 (m.take x).2).2) else((MS.down x ks ((ys i).p k).toNat m).1,ys i,(MS.down x ks ((ys i).p k).toNat m).2)):=by
  show _=_;rw[HR.Z];unfold MS.fB;rw[if_neg (by omega),<-hk,<-hks];rfl
 rw[<-hk,<-hks];rw[<-hks] at hrow;have IF:=ah (And.intro hlen NN);have hl3:ks.length<=3:=by rw[hlen];unfold Im.lvl;split<;>omega
 have bh:Hd (m6 M q Y N x m ys w1 a ks w1):=⟨bh.Z,hrow,λb off e=>⟨(hab b off e).2,λhm=>by have:=Eg.Z b hm;have:=(hab b off e).1;omega⟩⟩;clear HR hk hks rW hrow hab dt hb1 hlen NN;have ku:(0:Int)<=(k:Int):=by omega
 have hk1:(k:Int)<11:=by omega
 have cp:=bh.Z.s.ptr hi DO;obtain⟨pv,hpv⟩:=aa ((ys i).p k);rw[<-hpv] at cp;have IE:=ah hpv;have hpb:0<=pv/\pv<4294967296:=by rw[hpv];exact(HP.Z i hi k DO).1
 clear hpv;have Yj:=ah NP;clear NP
 by_cases hp0:pv=0
 rotate_left
 ·have q0:(pv==0)=false:=by simp[hp0]
  obtain⟨b0,hb0⟩:∃b0:Nat,pv=(b0:Int):=⟨pv.toNat,by omega⟩;have e0:pv.toNat=b0:=by omega
  have HF:Hd (MS.down x ks b0 m=(r.1,r.2.2)):=by
   show _=_;rw[K5.Z,if_neg (by rw[<-IE.Z];exact hp0),<-IE.Z,e0]
  have Sx:Hd (ys=ak ys i r.2.1):=by
   show _=_;rw[K5.Z,if_neg (by rw[<-IE.Z];exact hp0)];exact Yj.Z.symm
  have pW:Hd (∃bY,m.Wf x bY/\MS.Pt x m bY ks.length b0):=⟨bY,HW.Z,by rw[IF.Z.1,<-e0,IE.Z];exact(HP.Z i hi k DO).2⟩;clear hp0 e0 K5 IE HW HP Yj;subst hb0;go_wp2_with fail;clear cp q0;go_loopw [10,11,12,13] (λu10 u11 _ _ wr=>∃(t b:Nat) (m':MS),t<=ks.length/\u10= .int .i64 (b:Int)/\u11= .int .i64 (t:Int)/\MS.down x (ks.drop t) b m'=(r.1,r.2.2)/\(∃bY,m'.Wf x bY/\MS.Pt x m' bY (ks.length-t) b)/\m6 M q Y N x m' ys w1 a ks wr) (λ_ u _ _ _=>ks.length-(intOf u).toNat)
  case atStart=>exact⟨0,b0,m,by omega,rfl,rfl,HF.Z,pW.Z,bh.Z⟩
  clear bh HF pW;obtain⟨t,b,m',ht,rfl,rfl,hf,hwf,st⟩:=hrel;have HF:=ah hf;have pW:=ah hwf;have ST:=ah st;clear hf hwf st
  by_cases hlt:t<ks.length
  rotate_left
  ·obtain rfl:t=ks.length:=by omega
   have HE:Hd (r.1=b/\r.2.2=m'):=by
    have:=HF.Z;rw[List.drop_length,MS.down] at this;injection this with e1 e2
    exact⟨e1.symm,e2.symm⟩
   clear HF;go_wp2_with fail;go_ret;obtain⟨e1,e2⟩:=HE.Z;exact⟨by rw[e1];rfl,by rw[e2,<-Sx.Z];exact⟨ST.Z.s.p,ST.Z.s.y,jS.Z.trans ST.Z.s.gr⟩⟩
  have hlt':(t:Int)<(ks.length:Int):=by omega
  by_cases hb0:b=0
  ·subst hb0
   have HE:Hd (r.1=0/\r.2.2=m'):=by
    have:=HF.Z;rw[uF] at this;injection this with e1 e2
    exact⟨e1.symm,e2.symm⟩
   clear HF;go_wp2_with fail;go_ret;obtain⟨e1,e2⟩:=HE.Z;exact⟨by rw[e1];rfl,by rw[e2,<-Sx.Z];exact⟨ST.Z.s.p,ST.Z.s.y,jS.Z.trans ST.Z.s.gr⟩⟩
  have mZ:(0:Int)<(b:Int):=by omega
  have WL:0<b:=by omega
  have ll:b<x.n:=by obtain⟨_,_,h⟩:=pW.Z;exact h.lt hb0
  have Gx:(b:Int)<(x.n:Int):=by omega
  obtain⟨d,hd⟩:=aa (ks.getD t 0);obtain⟨ab,ao,hA,_⟩:=ST.Z.word hlt;have yI:d∈ks:=by rw[hd,List.getD_eq_getElem?_getD,List.getElem?_eq_getElem hlt];exact List.getElem_mem _
  have DS:d<64:=IF.Z.2 d yI;have OZ:Hd (ks.drop t=d::ks.drop (t+1)):=by
   show _=_;rw[List.drop_eq_getElem_cons hlt,hd,List.getD_eq_getElem?_getD,List.getElem?_eq_getElem hlt];rfl
  have HD:=ah hd;subst hA;have zQ:Hd (bu (m'.L b)):=by obtain⟨_,h,_⟩:=pW.Z;exact h.jx b
  have hsl:=dW q (b*256);clear hd yI;go_wp2_with fail;refine ar (m6 M q Y N x m' ys w1 (some ⟨ab,ao,none⟩) ks) (ST.Z.below ag.drew) ?_;clear ST;intro hne;have hc0:∀y:a9 (m6 M q Y N x m' ys w1 (some ⟨ab,ao,none⟩) ks),y.W.cell? ⟨M,0,none⟩=some (.slice (some ⟨q,0,none⟩) x.n x.n):=λy=>y.h.s.p.c0
  have nV:∀y:a9 (m6 M q Y N x m' ys w1 (some ⟨ab,ao,none⟩) ks),y.W.cell? ⟨ab,ao+t,none⟩=some (.int .i64 (d:Int)):=λy=>by
   obtain⟨b',o',e,h⟩:=y.h.word hlt;injection e with e
   injection e with e1 e2
   subst e1 e2;rw[<-HD.Z] at h;exact h
  have AT:(4*(d:Int)).toNat=4*d:=by omega
  repeat go_big_quiet_step (fail)
  go_big_quiet_want
  go_big_quiet_op
  refine⟨_,λy=>aN y (λW hW=>(fx q (b*256) 256 256 (4*(d:Int)) (m'.L b) W (by omega) (by omega) (by omega) (hW.s.p.bQ ll) zQ.Z).mono λe w' h=>⟨h.1.trans (by rw[AT]),by obtain⟨mm,rfl⟩:=h.2;exact hW.below ⟨rfl,rfl,rfl,Nat.le_refl _,λ_ _=>rfl⟩⟩),?_⟩
  go_big_quiet_on
  repeat go_big_quiet_step (fail)
  refine wpQuiet_nil ?_;intro w3 h3';have ST:=ah h3'.Z;clear h3' hne hc0 nV hsl;obtain⟨vn,AM⟩:∃vn:Nat,cR (m'.L b) (4*d)=(vn:Int):=⟨(cR (m'.L b) (4*d)).toNat,by have:=dP zQ.Z (4*d);omega⟩;have QO:(cR (m'.L b) (4*d)).toNat=vn:=by omega
  have Vs:vn<4294967296:=by have:=dP zQ.Z (4*d);omega
  rw[AM];have HV:=ah (And.intro AM QO);clear AM QO
  by_cases hv0:vn=0
  ·subst hv0
   have uU:Hd (MS.down x (ks.drop (t+1)) (m'.take x).1 ((m'.take x).2.put b (over ((m'.take x).2.L b) (4*d) 4 (byteOf ((m'.take x).1:Nat))))=(r.1,r.2.2)):=by
    have:=HF.Z;rw[OZ.Z,MS.down,if_neg hb0,if_pos HV.Z.2] at this;exact this
   have Hk:Hd (∃bY,((m'.take x).2.put b (over ((m'.take x).2.L b) (4*d) 4 (byteOf ((m'.take x).1:Nat)))).Wf x bY/\MS.Pt x ((m'.take x).2.put b (over ((m'.take x).2.L b) (4*d) 4 (byteOf ((m'.take x).1:Nat)))) bY (ks.length-(t+1)) (m'.take x).1):=by
    obtain⟨bY,hW,GC⟩:=pW.Z;obtain⟨rQ,a1,a2,a3⟩:=MS.ja (x:=x) (by omega) (ks.length-(t+1)) hW;have Oa:MS.Pt x m' bY (ks.length-(t+1)+1) b:=by rw[show ks.length-(t+1)+1=ks.length-t by omega];exact GC
    exact⟨rQ,a1.word gi (Oa.ext a2) hb0 DS a3,by rcases a3 with a3|a3;exact .inl a3;exact .inr a3⟩
   have hv1:(m'.take x).1<2048:=by obtain⟨_,hW,_⟩:=pW.Z;exact vh HX.Z hW
   have Hp:Hd (bu ((m'.take x).2.L b)):=by
    obtain⟨bY,hW,_⟩:=pW.Z;obtain⟨rQ,a1,_,_⟩:=MS.ja (x:=x) (by omega) 0 hW;exact a1.jx b
   have m8:Hd ((∀b,bu (m'.L b))/\m'.next<=x.n):=by obtain⟨bY,hW,_⟩:=pW.Z;exact⟨hW.jx,hW.le⟩
   clear HF pW;go_wp2_with fail;refine(mJ M q x HX.Z m' m8.Z.1 m8.Z.2 _ ST.Z.s.p).mono ?_;rintro e w4 ⟨rfl,Gk,hg4⟩;have ey:=ah (ST.Z.to (ST.Z.s.oy Gk hg4) (hg4.mono λj e=>e.elim .inl λe=> .inr (.inl e)));obtain⟨v1,Ge⟩:=aa ((m'.take x).1);obtain⟨m2,hm2⟩:=aa ((m'.take x).2);rw[<-Ge] at hv1 uU Hk ⊢;rw[<-hm2] at uU Hk ey Hp;clear ST Gk hg4 Ge hm2;go_wp2_with fail;refine aG (m6 M q Y N x m2 ys w1 (some ⟨ab,ao,none⟩) ks) 13 (by kernel_rfl) (by kernel_rfl) (by kernel_rfl) (by kernel_rfl) (by kernel_rfl) (by decide) (ey.Z.below ag.drew) ?_;clear ey;simp only[List.take,List.drop];intro hne;have hsl:=dW q (b*256);have hc0:∀y:a9 (m6 M q Y N x m2 ys w1 (some ⟨ab,ao,none⟩) ks),y.W.cell? ⟨M,0,none⟩=some (.slice (some ⟨q,0,none⟩) x.n x.n):=λy=>y.h.s.p.c0
   have nV:∀y:a9 (m6 M q Y N x m2 ys w1 (some ⟨ab,ao,none⟩) ks),y.W.cell? ⟨ab,ao+t,none⟩=some (.int .i64 (d:Int)):=λy=>by
    obtain⟨b',o',e,h⟩:=y.h.word hlt;injection e with e
    injection e with e1 e2
    subst e1 e2;rw[<-HD.Z] at h;exact h
   repeat go_big_quiet_step (fail)
   refine wpQuiet_nil ?_;intro w5 RN;have ed:=ah RN.Z;clear RN hne hc0 nV hsl;go_wp2_with fail;refine(dm q (b*256) 256 256 (4*(d:Int)) (v1:Int) (m2.L b) _ (by omega) (by omega) (by omega) (by omega) (by omega) (ed.Z.s.p.bQ ll) Hp.Z (λo ho=>ed.Z.s.p.im.soft (b*256+o))).mono ?_;rintro e w6 ⟨rfl,xi⟩;rw[AT] at xi;have jj:=ah (ed.Z.to (ed.Z.s.oy (ed.Z.s.p.kD ll (by omega) xi) (.cE xi.only (.inr rfl))) (.cE xi.only (.inr (.inl rfl))));clear ed xi;go_wp2_with fail;go_roundw
   case rel=>exact⟨t+1,v1,_,by omega,rfl,by go_num,uU.Z,Hk.Z,jj.Z⟩
   simp[intOf];omega
  have uU:Hd (MS.down x (ks.drop (t+1)) vn m'=(r.1,r.2.2)):=by
   have:=HF.Z;rw[OZ.Z,MS.down,if_neg hb0,if_neg (by rw[HV.Z.2];exact hv0),HV.Z.2] at this;exact this
  have Hk:Hd (∃bY,m'.Wf x bY/\MS.Pt x m' bY (ks.length-(t+1)) vn):=by
   obtain⟨bY,hW,GC⟩:=pW.Z;refine⟨bY,hW,?_⟩;rcases GC with GC|⟨p1,p2,p3⟩
   ·exact absurd GC hb0
   rcases hW.ptr b d p1 p2 (by omega) DS with h'|⟨g1,g2,g3⟩
   ·rw[HV.Z.2] at h';exact absurd h' hv0
   rw[HV.Z.2] at g1 g2 g3;exact .inr ⟨g1,g2,by omega⟩
  have q1:((vn:Int)==0)=false:=by simp;omega
  clear HF pW;go_wp2_with fail;go_roundw
  case rel=>exact⟨t+1,vn,m',by omega,rfl,by go_num,uU.Z,Hk.Z,ST.Z⟩
  simp[intOf];omega
 subst hp0;obtain⟨b0,hb0⟩:=aa ((m.take x).1:Nat);obtain⟨m1,BU⟩:=aa ((m.take x).2);obtain⟨sO,JM⟩:=aa (ak ys i (oB (ys i) k b0));have BS:r=((MS.down x ks b0 m1).1,oB (ys i) k b0,(MS.down x ks b0 m1).2):=by rw[K5.Z,if_pos IE.Z.symm,<-hb0,<-BU]
 have HF:Hd (MS.down x ks b0 m1=(r.1,r.2.2)):=by show _=_;rw[BS]
 have Sx:Hd (sO=ak ys i r.2.1):=by show _=_;rw[BS,JM]
 have pW:Hd (∃bY,m1.Wf x bY/\MS.Pt x m1 bY ks.length b0):=by
  obtain⟨rQ,a1,a2,a3⟩:=MS.ja (x:=x) (by omega) ks.length HW.Z;rw[hb0,BU];exact⟨rQ,a1,a3⟩
 have yK:b0<2048:=by rw[hb0];exact vh HX.Z HW.Z
 have OK:Hd (∀W,m6 M q Y N x m ys w1 a ks W->Calls Tryz.prog 105 #[.pointer (some ⟨M,0,none⟩)] W λe w'=>e= .returned (.int .i64 (b0:Int))/\m6 M q Y N x m1 ys w1 a ks w'):=λW h=>by
  refine(mJ M q x HX.Z m HW.Z.jx HW.Z.le W h.s.p).mono ?_;rintro e w4 ⟨rfl,Gk,hg4⟩;rw[hb0,BU];exact⟨rfl,h.to (h.s.oy Gk hg4) (hg4.mono λj e=>e.elim .inl λe=> .inr (.inl e))⟩
 have HST:Hd (∀W,m6 M q Y N x m1 ys w1 a ks W->(∃u,W.cell? ⟨Y,i*16+4+k,none⟩=some u)/\W.frozen? ⟨Y,i*16+4+k,none⟩=false/\m6 M q Y N x m1 sO w1 a ks (W.setCell ⟨Y,i*16+4+k,none⟩ (.int .u32 (b0:Int)))):=λW h=>by
  rw[JM];exact⟨⟨_,h.s.ptr hi DO⟩,h.s.y.soft _,h.to (h.s.UP hi DO b0) (.cE (az.setCell W ⟨Y,i*16+4+k,none⟩ _) (.inr (.inr rfl)))⟩
 have tG:Hd ((sO i).p k=(b0:Int)):=by show _=_;rw[JM];unfold ak oB;rw[if_pos rfl];exact if_pos rfl
 clear K5 IE HW HP Yj hb0 BU JM BS;go_wp2_with fail;clear cp;apply Vp.bG 3 (λl n v W=>VH Y (i*16) k b0 l n v) (λl W=>H5 M q Y N x m m1 ys sO w1 a ks l W) (λW=>True)
 case hm=>kernel_rfl
 case hd=>kernel_rfl
 case hpre=>kernel_rfl
 case hB=>kernel_rfl
 case hVl=>exactλl l' he n v W h=>h.up λe=>by rw[<-he 3 (by decide) (by decide)];exact e
 case hS=>
  intro l l' W he h;have e3:=he 3 (by decide) (by decide);have e8:=he 8 (by decide) (by decide);exact⟨λe=>h.fa (e3.trans e),λe e2=>h.fb (e3.trans e) (e8.trans e2),λe=>⟨(h.fc (e8.trans e)).1,e3.symm.trans (h.fc (e8.trans e)).2⟩⟩
 case hSC=>exactλl W h=>trivial
 case hVb=>exactλl n v W W' h hb=>h
 case hSb=>exactλl W W' h hb _=>h.below hb
 case h0=>exact⟨λ_=>bh.Z.below ⟨rfl,rfl,rfl,Nat.le_refl _,λ_ _=>rfl⟩,(λe=>by cases e),λe=>by cases e⟩
 case hwalk=>
  simp only[List.take];intro R hR hne
  repeat go_big_quiet_step (fail)
  exact wpQuiet_nil rfl
 case hst=>
  simp only[List.drop];refine⟨?_,?_,?_,?_,?_,?_,trivial⟩
  ·intro l a W hl hu h
   have e1:a.tmps.getD 31 undef= .pointer (some ⟨M,0,none⟩):=(h.vals 2 31 (aq hu 2) rfl).pre (by decide) rfl;have h8:l 8=false:=by
    cases e:l 8 with
    |false=>rfl
    |true=>have:=(h.st.fc e).2;rw[hl] at this;cases this
   refine Vm.step h (by kernel_rfl) rfl rfl rfl hl (Vl.il 105 #[.pointer (some ⟨M,0,none⟩)] (Vl.x9 105 (.tmp 31) _ _ rfl e1 (by kernel_rfl)) ?_);refine(OK.Z W (h.st.fa hl)).mono ?_;rintro e W' ⟨rfl,hn⟩;exact⟨_,rfl,_,rfl,λn d _ _ hv=>hv.up λ_ hv=>hv.up λ_=>by show((3==3)||l 3)=true;rfl,Vp.W.mk rfl,⟨(λe=>by have e:true=false:=e;cases e),λ_ _=>hn,λe=>by have e:l 8=true:=e;rw[h8] at e;cases e⟩⟩
  ·intro l a W hl hu h
   have u3:=aq hu 3 (by kernel_rfl);have e1:a.tmps.getD 32 undef= .int .i64 (b0:Int):=(h.vals 3 32 u3 rfl).post;have u3':l 3=true:=u3;have hcv:(execOp a.eval (Oper.mk (some 33) (.convert 3 45 (.tmp 32)) 45 "plan.go:99" #[{on:=3,ground:=.data}] none)).run Tryz.prog W= .ok (.value (.int .u32 (b0:Int))) W:=by
    have hw:IntKind.u32.wrap (b0:Int)=(b0:Int):=IntWalk.u32_in _ (by omega);have hc:(convert 3 45 (.int .i64 (b0:Int))).run Tryz.prog W= .ok (.int .u32 (b0:Int)) W:=by simp[go_sem,hw]
    have Om:a.eval (.tmp 32)= .int .i64 (b0:Int):=e1;unfold execOp;simp[Om,hc]
   exact Vm.aJ h (by kernel_rfl) rfl rfl rfl hl _ hcv (λ_ _ hv=>hv.up λ_ hv=>hv.up λe=>by show((3==4)||l 3)=true;rw[e];rfl) (Vp.W.mk ⟨rfl,by show((3==4)||l 3)=true;rw[u3'];rfl⟩) (λs=>s.next (by decide) (by decide))
  ·intro l a W hl hu h
   have e1:a.tmps.getD 29 undef= .pointer (some ⟨Y,i*16,none⟩):=(h.vals 0 29 (aq hu 0) rfl).pre (by decide) rfl;exact Vm.aJ h (by kernel_rfl) rfl rfl rfl hl _ (Vl.mC (.tmp 29) rfl ⟨Y,i*16,none⟩ e1) (λ_ _ hv=>hv.up λ_ hv=>hv.up λe=>by show((3==5)||l 3)=true;rw[e];rfl) (Vp.W.mk rfl) (λs=>s.next (by decide) (by decide))
  ·intro l a W hl hu h
   have e1:a.tmps.getD 34 undef= .pointer (some ⟨Y,i*16,none⟩):=(h.vals 5 34 (aq hu 5) rfl).post;exact Vm.aJ h (by kernel_rfl) rfl rfl rfl hl _ (Vl.gB 63 (.tmp 34) 4 rfl e1 (by kernel_rfl)) (λ_ _ hv=>hv.up λ_ hv=>hv.up λe=>by show((3==6)||l 3)=true;rw[e];rfl) (Vp.W.mk rfl) (λs=>s.next (by decide) (by decide))
  ·intro l a W hl hu h
   have e1:a.tmps.getD 35 undef= .pointer (some ⟨Y,i*16+4,none⟩):=(h.vals 6 35 (aq hu 6) rfl).post;have e2:a.tmps.getD 30 undef= .int .i64 (k:Int):=(h.vals 1 30 (aq hu 1) rfl).pre (by decide) rfl;have JY:(execOp a.eval (Oper.mk (some 36) (.indexAddr 61 (.tmp 35) (.tmp 30)) 0 "plan.go:99" #[{on:=6,ground:=.data},{on:=1,ground:=.data}] none)).run Tryz.prog W= .ok (.value (.pointer (some ⟨Y,i*16+4+k,none⟩))) W:=by
    have Om:a.eval (.tmp 35)= .pointer (some ⟨Y,i*16+4,none⟩):=e1;have e2':a.eval (.tmp 30)= .int .i64 (k:Int):=e2;have hal:Tryz.prog.arrayLen 61=11:=by kernel_rfl
    have hr:=run_indexAt_array (P:=Tryz.prog) W 61 ⟨Y,i*16+4,none⟩ .i64 (k:Int) (by kernel_rfl);rw[hal,if_pos ⟨by omega,by omega⟩,show(Go.sizeOf (Tryz.prog.elem 61)).run Tryz.prog W= .ok 1 W from by kernel_rfl,Result.andThen_ok,Int.toNat_natCast,Nat.mul_one] at hr;unfold execOp;simp[Om,e2',hr,Addr.add]
   exact Vm.aJ h (by kernel_rfl) rfl rfl rfl hl _ JY (λ_ _ hv=>hv.up λ_ hv=>hv.up λe=>by show((3==7)||l 3)=true;rw[e];rfl) (Vp.W.mk rfl) (λs=>s.next (by decide) (by decide))
  intro l a W hl hu h;have e1:a.tmps.getD 36 undef= .pointer (some ⟨Y,i*16+4+k,none⟩):=(h.vals 7 36 (aq hu 7) rfl).post;obtain⟨e2,u3⟩:a.tmps.getD 33 undef= .int .u32 (b0:Int)/\l 3=true:=(h.vals 4 33 (aq hu 4) rfl).post;obtain⟨⟨u,hc⟩,hf,hn⟩:=HST.Z W (h.st.fb u3 hl);refine Vm.step h (by kernel_rfl) rfl rfl rfl hl (Vl.rG 45 (.tmp 36) (.tmp 33) rfl Y (i*16+4+k) (.int .u32 (b0:Int)) u e1 e2 hc hf (by kernel_rfl) rfl ?_);exact⟨_,rfl,λn d _ _ hv=>hv.up λ_ hv=>hv.up λe=>by show((3==8)||l 3)=true;rw[e];rfl,Vp.W.mk rfl,⟨(λe=>by have e:l 3=false:=e;rw[u3] at e;cases e),(λ_ e=>by have e:true=false:=e;cases e),λ_=>⟨hn,by show((3==8)||l 3)=true;rw[u3];rfl⟩⟩⟩
 intro a' w6 h hall;have bX:=hall [32,33,34,35,36] (by kernel_rfl);clear hall;have Xu:a'.tmps.getD 32 undef= .int .i64 (b0:Int):=(h.vals 3 32 rfl rfl).post;have Xt:a'.tmps.getD 33 undef= .int .u32 (b0:Int):=((h.vals 4 33 rfl rfl).post:_/\_).1;have e34:a'.tmps.getD 34 undef= .pointer (some ⟨Y,i*16,none⟩):=(h.vals 5 34 rfl rfl).post;have e35:a'.tmps.getD 35 undef= .pointer (some ⟨Y,i*16+4,none⟩):=(h.vals 6 35 rfl rfl).post;have e36:a'.tmps.getD 36 undef= .pointer (some ⟨Y,i*16+4+k,none⟩):=(h.vals 7 36 rfl rfl).post;have hs:=(h.st.fc rfl).1;have bh:=ah hs;rw[List.foldl_cons,List.foldl_cons,List.foldl_cons,List.foldl_cons,List.foldl_cons,List.foldl_nil,Xu,Xt,e34,e35,e36] at bX;simp only[Act.put,List.setIfInBounds_toArray,List.set_cons_succ,List.set_cons_zero] at bX;subst bX;have cp:w6.cell? ⟨Y,i*16+4+k,none⟩=some (.int .u32 (b0:Int)):=by
  have h:=hs.s.ptr hi DO;have e:(sO i).p k=(b0:Int):=tG.Z;rw[e] at h;exact h
 clear h Xu Xt e34 e35 e36 hs;clear OK HST tG;go_wp2_with fail;clear cp;go_loopw [10,11,12,13] (λu10 u11 _ _ wr=>∃(t b:Nat) (m':MS),t<=ks.length/\u10= .int .i64 (b:Int)/\u11= .int .i64 (t:Int)/\MS.down x (ks.drop t) b m'=(r.1,r.2.2)/\(∃bY,m'.Wf x bY/\MS.Pt x m' bY (ks.length-t) b)/\m6 M q Y N x m' sO w1 a ks wr) (λ_ u _ _ _=>ks.length-(intOf u).toNat)
 case atStart=>exact⟨0,b0,m1,by omega,rfl,rfl,HF.Z,pW.Z,bh.Z⟩
 clear bh HF pW;obtain⟨t,b,m',ht,rfl,rfl,hf,hwf,st⟩:=hrel;have HF:=ah hf;have pW:=ah hwf;have ST:=ah st;clear hf hwf st
 by_cases hlt:t<ks.length
 rotate_left
 ·obtain rfl:t=ks.length:=by omega
  have HE:Hd (r.1=b/\r.2.2=m'):=by
   have:=HF.Z;rw[List.drop_length,MS.down] at this;injection this with e1 e2
   exact⟨e1.symm,e2.symm⟩
  clear HF;go_wp2_with fail;go_ret;obtain⟨e1,e2⟩:=HE.Z;exact⟨by rw[e1];rfl,by rw[e2,<-Sx.Z];exact⟨ST.Z.s.p,ST.Z.s.y,jS.Z.trans ST.Z.s.gr⟩⟩
 have hlt':(t:Int)<(ks.length:Int):=by omega
 by_cases hb0:b=0
 ·subst hb0
  have HE:Hd (r.1=0/\r.2.2=m'):=by
   have:=HF.Z;rw[uF] at this;injection this with e1 e2
   exact⟨e1.symm,e2.symm⟩
  clear HF;go_wp2_with fail;go_ret;obtain⟨e1,e2⟩:=HE.Z;exact⟨by rw[e1];rfl,by rw[e2,<-Sx.Z];exact⟨ST.Z.s.p,ST.Z.s.y,jS.Z.trans ST.Z.s.gr⟩⟩
 have mZ:(0:Int)<(b:Int):=by omega
 have WL:0<b:=by omega
 have ll:b<x.n:=by obtain⟨_,_,h⟩:=pW.Z;exact h.lt hb0
 have Gx:(b:Int)<(x.n:Int):=by omega
 obtain⟨d,hd⟩:=aa (ks.getD t 0);obtain⟨ab,ao,hA,_⟩:=ST.Z.word hlt;have yI:d∈ks:=by rw[hd,List.getD_eq_getElem?_getD,List.getElem?_eq_getElem hlt];exact List.getElem_mem _
 have DS:d<64:=IF.Z.2 d yI;have OZ:Hd (ks.drop t=d::ks.drop (t+1)):=by
  show _=_;rw[List.drop_eq_getElem_cons hlt,hd,List.getD_eq_getElem?_getD,List.getElem?_eq_getElem hlt];rfl
 have HD:=ah hd;subst hA;have zQ:Hd (bu (m'.L b)):=by obtain⟨_,h,_⟩:=pW.Z;exact h.jx b
 have hsl:=dW q (b*256);clear hd yI;go_wp2_with fail;refine ar (m6 M q Y N x m' sO w1 (some ⟨ab,ao,none⟩) ks) (ST.Z.below ag.drew) ?_;clear ST;intro hne;have hc0:∀y:a9 (m6 M q Y N x m' sO w1 (some ⟨ab,ao,none⟩) ks),y.W.cell? ⟨M,0,none⟩=some (.slice (some ⟨q,0,none⟩) x.n x.n):=λy=>y.h.s.p.c0
 have nV:∀y:a9 (m6 M q Y N x m' sO w1 (some ⟨ab,ao,none⟩) ks),y.W.cell? ⟨ab,ao+t,none⟩=some (.int .i64 (d:Int)):=λy=>by
  obtain⟨b',o',e,h⟩:=y.h.word hlt;injection e with e
  injection e with e1 e2
  subst e1 e2;rw[<-HD.Z] at h;exact h
 have AT:(4*(d:Int)).toNat=4*d:=by omega
 repeat go_big_quiet_step (fail)
 go_big_quiet_want
 go_big_quiet_op
 refine⟨_,λy=>aN y (λW hW=>(fx q (b*256) 256 256 (4*(d:Int)) (m'.L b) W (by omega) (by omega) (by omega) (hW.s.p.bQ ll) zQ.Z).mono λe w' h=>⟨h.1.trans (by rw[AT]),by obtain⟨mm,rfl⟩:=h.2;exact hW.below ⟨rfl,rfl,rfl,Nat.le_refl _,λ_ _=>rfl⟩⟩),?_⟩
 go_big_quiet_on
 repeat go_big_quiet_step (fail)
 refine wpQuiet_nil ?_;intro w3 h3';have ST:=ah h3'.Z;clear h3' hne hc0 nV hsl;obtain⟨vn,AM⟩:∃vn:Nat,cR (m'.L b) (4*d)=(vn:Int):=⟨(cR (m'.L b) (4*d)).toNat,by have:=dP zQ.Z (4*d);omega⟩;have QO:(cR (m'.L b) (4*d)).toNat=vn:=by omega
 have Vs:vn<4294967296:=by have:=dP zQ.Z (4*d);omega
 rw[AM];have HV:=ah (And.intro AM QO);clear AM QO
 by_cases hv0:vn=0
 ·subst hv0
  have uU:Hd (MS.down x (ks.drop (t+1)) (m'.take x).1 ((m'.take x).2.put b (over ((m'.take x).2.L b) (4*d) 4 (byteOf ((m'.take x).1:Nat))))=(r.1,r.2.2)):=by
   have:=HF.Z;rw[OZ.Z,MS.down,if_neg hb0,if_pos HV.Z.2] at this;exact this
  have Hk:Hd (∃bY,((m'.take x).2.put b (over ((m'.take x).2.L b) (4*d) 4 (byteOf ((m'.take x).1:Nat)))).Wf x bY/\MS.Pt x ((m'.take x).2.put b (over ((m'.take x).2.L b) (4*d) 4 (byteOf ((m'.take x).1:Nat)))) bY (ks.length-(t+1)) (m'.take x).1):=by
   obtain⟨bY,hW,GC⟩:=pW.Z;obtain⟨rQ,a1,a2,a3⟩:=MS.ja (x:=x) (by omega) (ks.length-(t+1)) hW;have Oa:MS.Pt x m' bY (ks.length-(t+1)+1) b:=by rw[show ks.length-(t+1)+1=ks.length-t by omega];exact GC
   exact⟨rQ,a1.word gi (Oa.ext a2) hb0 DS a3,by rcases a3 with a3|a3;exact .inl a3;exact .inr a3⟩
  have hv1:(m'.take x).1<2048:=by obtain⟨_,hW,_⟩:=pW.Z;exact vh HX.Z hW
  have Hp:Hd (bu ((m'.take x).2.L b)):=by
   obtain⟨bY,hW,_⟩:=pW.Z;obtain⟨rQ,a1,_,_⟩:=MS.ja (x:=x) (by omega) 0 hW;exact a1.jx b
  have m8:Hd ((∀b,bu (m'.L b))/\m'.next<=x.n):=by obtain⟨bY,hW,_⟩:=pW.Z;exact⟨hW.jx,hW.le⟩
  clear HF pW;go_wp2_with fail;refine(mJ M q x HX.Z m' m8.Z.1 m8.Z.2 _ ST.Z.s.p).mono ?_;rintro e w4 ⟨rfl,Gk,hg4⟩;have ey:=ah (ST.Z.to (ST.Z.s.oy Gk hg4) (hg4.mono λj e=>e.elim .inl λe=> .inr (.inl e)));obtain⟨v1,Ge⟩:=aa ((m'.take x).1);obtain⟨m2,hm2⟩:=aa ((m'.take x).2);rw[<-Ge] at hv1 uU Hk ⊢;rw[<-hm2] at uU Hk ey Hp;clear ST Gk hg4 Ge hm2;go_wp2_with fail;refine aG (m6 M q Y N x m2 sO w1 (some ⟨ab,ao,none⟩) ks) 13 (by kernel_rfl) (by kernel_rfl) (by kernel_rfl) (by kernel_rfl) (by kernel_rfl) (by decide) (ey.Z.below ag.drew) ?_;clear ey;simp only[List.take,List.drop];intro hne;have hsl:=dW q (b*256);have hc0:∀y:a9 (m6 M q Y N x m2 sO w1 (some ⟨ab,ao,none⟩) ks),y.W.cell? ⟨M,0,none⟩=some (.slice (some ⟨q,0,none⟩) x.n x.n):=λy=>y.h.s.p.c0
  have nV:∀y:a9 (m6 M q Y N x m2 sO w1 (some ⟨ab,ao,none⟩) ks),y.W.cell? ⟨ab,ao+t,none⟩=some (.int .i64 (d:Int)):=λy=>by
   obtain⟨b',o',e,h⟩:=y.h.word hlt;injection e with e
   injection e with e1 e2
   subst e1 e2;rw[<-HD.Z] at h;exact h
  repeat go_big_quiet_step (fail)
  refine wpQuiet_nil ?_;intro w5 RN;have ed:=ah RN.Z;clear RN hne hc0 nV hsl;go_wp2_with fail;refine(dm q (b*256) 256 256 (4*(d:Int)) (v1:Int) (m2.L b) _ (by omega) (by omega) (by omega) (by omega) (by omega) (ed.Z.s.p.bQ ll) Hp.Z (λo ho=>ed.Z.s.p.im.soft (b*256+o))).mono ?_;rintro e w6 ⟨rfl,xi⟩;rw[AT] at xi;have jj:=ah (ed.Z.to (ed.Z.s.oy (ed.Z.s.p.kD ll (by omega) xi) (.cE xi.only (.inr rfl))) (.cE xi.only (.inr (.inl rfl))));clear ed xi;go_wp2_with fail;go_roundw
  case rel=>exact⟨t+1,v1,_,by omega,rfl,by go_num,uU.Z,Hk.Z,jj.Z⟩
  simp[intOf];omega
 have uU:Hd (MS.down x (ks.drop (t+1)) vn m'=(r.1,r.2.2)):=by
  have:=HF.Z;rw[OZ.Z,MS.down,if_neg hb0,if_neg (by rw[HV.Z.2];exact hv0),HV.Z.2] at this;exact this
 have Hk:Hd (∃bY,m'.Wf x bY/\MS.Pt x m' bY (ks.length-(t+1)) vn):=by
  obtain⟨bY,hW,GC⟩:=pW.Z;refine⟨bY,hW,?_⟩;rcases GC with GC|⟨p1,p2,p3⟩
  ·exact absurd GC hb0
  rcases hW.ptr b d p1 p2 (by omega) DS with h'|⟨g1,g2,g3⟩
  ·rw[HV.Z.2] at h';exact absurd h' hv0
  rw[HV.Z.2] at g1 g2 g3;exact .inr ⟨g1,g2,by omega⟩
 have q1:((vn:Int)==0)=false:=by simp;omega
 clear HF pW;go_wp2_with fail;go_roundw
 case rel=>exact⟨t+1,vn,m',by omega,rfl,by go_num,uU.Z,Hk.Z,ST.Z⟩
 simp[intOf];omega
end Go.Proofs.YtphamecphmbipaaGreatDoor
