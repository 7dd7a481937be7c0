/- Texts of this claim, merged. -/
import Derived.Test.YtphamecphmbipaaGreatDoorK27
set_option linter.unusedVariables false
namespace Go.Proofs.YtphamecphmbipaaGreatDoor
open Go.RowKit
open Lib (hid)
variable {x:Im} {m m1:MS} {ys sx:Nat->aK} {N k i q b M Y:Nat} {W' w:World} {f:Nat->Int} {a:Option Addr} {ks:List Nat} {l:Nat->Bool}
def MY(M q Y:Nat)(j:Nat):Prop:=j=M\/j=q\/j=Y
def vM(ys:Nat->aK)(k:Nat):List Value:=(ys k).arr.toList
theorem nH(ys:Nat->aK)(k:Nat):(vM ys k).length=16:=rfl
def iB(x:Im)(m:MS)(ys:Nat->aK)(N:Nat):Prop:=∃bP,m.Wf x bP/\∀k,k<N->MS.N9 x m bP (ys k)
theorem iB.jg(h:iB x m ys N):(∀b,bm (m.L b))/\m.next<=x.n:=by obtain⟨bP,h,_⟩:=h;exact⟨h.jg,h.le⟩
def n9(y:aK)(k v:Nat):aK:={y with p:=λq=>if q=k then(v:Int) else y.p q}
theorem Jg(y:aK)(hk:k<11):y.arr.toList[4+k]? =some (.int .u32 (y.p k)):=by
 have:k=0\/k=1\/k=2\/k=3\/k=4\/k=5\/k=6\/k=7\/k=8\/k=9\/k=10:=by omega
 rcases this with rfl|rfl|rfl|rfl|rfl|rfl|rfl|rfl|rfl|rfl|rfl<;>rfl
theorem ES(y:aK)(v:Nat)(hk:k<11):(n9 y k v).arr.toList=y.arr.toList.set (4+k) (.int .u32 (v:Int)):=by
 have:k=0\/k=1\/k=2\/k=3\/k=4\/k=5\/k=6\/k=7\/k=8\/k=9\/k=10:=by omega
 rcases this with rfl|rfl|rfl|rfl|rfl|rfl|rfl|rfl|rfl|rfl|rfl<;>rfl
structure gP(M q Y N:Nat)(x:Im)(m:MS)(ys:Nat->aK)(w W:World):Prop where
 p:jh M q x m W
 y:az W Y 63 16 N (vM ys)
 gr:dJ (MY M q Y) w W
section
variable {M q Y N:Nat} {x:Im} {m:MS} {ys:Nat->aK} {w W W':World}
theorem gP.below(h:gP M q Y N x m ys w W)(hb:Below W.heap.size W W'):gP M q Y N x m ys w W':=⟨h.p.below hb,h.y.below hb,h.gr.trans (.bQ hb)⟩
theorem gP.SQ(h:gP M q Y N x m ys w W):M≠Y:=by
 obtain⟨f,hf⟩:=h.p.k;obtain⟨cs,hc,_⟩:=h.y.blk;exact At.cR hf hc (by decide)
theorem gP.neq(h:gP M q Y N x m ys w W):q≠Y:=by
 obtain⟨c1,h1,_⟩:=h.p.im.blk;obtain⟨cs,hc,_⟩:=h.y.blk;exact At.cR h1 hc (by decide)
theorem gP.n6(h:gP M q Y N x m ys w W){m':MS}(hp:jh M q x m' W')(hg:dJ (MQ M q) W W'):gP M q Y N x m' ys w W':=
 ⟨hp,h.y.o5 hg (by rintro(e|e);exact h.SQ e.symm;exact h.neq e.symm),h.gr.trans (hg.mono λj e=>e.elim .inl λe=> .inr (.inl e))⟩
theorem gP.ptr(h:gP M q Y N x m ys w W)(hi:i<N)(hk:k<11):W.cell? ⟨Y,i*16+4+k,none⟩=some (.int .u32 ((ys i).p k)):=by
 have:=h.y.bI i hi (4+k) _ (Jg (ys i) hk);rwa[Nat.zero_add,<-Nat.add_assoc] at this
theorem gP.Uo(h:gP M q Y N x m ys w W)(hi:i<N)(hk:k<11)(v:Nat):gP M q Y N x m (af ys i (n9 (ys i) k v)) w (W.setCell ⟨Y,i*16+4+k,none⟩ (.int .u32 (v:Int))):=by
 have ho:=an.setCell W ⟨Y,i*16+4+k,none⟩ (.int .u32 (v:Int));obtain⟨f,hf⟩:=h.p.k;refine⟨⟨⟨f,hf.only ho h.SQ⟩,h.p.im.only ho h.neq⟩,?_,h.gr.trans (.bW ho (.inr (.inr rfl)))⟩;have:=h.y.dz (k:=i) (j:=4+k) hi (by omega) (λj=>nH ys j) (.int .u32 (v:Int));rw[<-Nat.add_assoc] at this;refine this.congr λj hj=> ?_
 unfold vM af
 by_cases e:j=i
 ·subst e;rw[if_pos rfl,if_pos rfl,ES _ _ hk]
 ·rw[if_neg e,if_neg e]
end
theorem Kb{W:World}{n:Nat}{L:Nat->Nat->Int}(h:az W q 32 256 n (dW L)){m:Nat}(hb:b<n)(hk:k+m<=256)(hp:fN q (b*256+k) m f W W'):az W' q 32 256 n (dW (af L b (over (L b) k m f))):=by
 obtain⟨cs,h1,h2⟩:=h.blk;obtain⟨c',hc1,hc2⟩:=hp.only.shape _ _ _ h1;refine⟨⟨c',hc2,by rw[hc1,h2]⟩,λc hc o v hv=> ?_⟩;have ho:o<256:=by have:=(List.getElem?_eq_some_iff.1 hv).1;rwa[aZ] at this
 have e1:dW (af L b (over (L b) k m f)) c=Ks .u8 256 (af L b (over (L b) k m f) c):=rfl;rw[e1,j6 .u8 256 _ o ho] at hv;injection hv with hv
 subst hv;rw[hp.cell]
 by_cases e:c=b
 ·subst e
  unfold af over;rw[if_pos rfl]
  by_cases hr:k<=o/\o<k+m
  ·rw[if_pos (by omega),if_pos hr,show 0+c*256+o-(c*256+k)=o-k by omega]
  ·rw[if_neg (by omega),if_neg hr]
   exact h.bI c hc o _ (j6 .u8 256 (L c) o ho)
 ·unfold af
  rw[if_neg e,if_neg (by omega)];exact h.bI c hc o _ (j6 .u8 256 (L c) o ho)
theorem jh.kn{W:World}(h:jh M q x m W){n:Nat}(hb:b<x.n)(hk:k+n<=256)(hp:fN q (b*256+k) n f W W'):jh M q x (m.put b (over (m.L b) k n f)) W':=by
 obtain⟨g,hg⟩:=h.k;exact⟨⟨g,hg.only hp.only h.ne⟩,Kb h.im hb hk hp⟩
theorem jh.bI{W:World}(h:jh M q x m W)(hb:b<x.n):Seg W q (b*256) 256 (m.L b):=λo ho=>by
 have:=h.im.bI b hb o _ (j6 .u8 256 (m.L b) o ho);rwa[Nat.zero_add] at this
structure mR(M q Y N:Nat)(x:Im)(m:MS)(ys:Nat->aK)(w:World)(a:Option Addr)(ks:List Nat)(W:World):Prop where
 s:gP M q Y N x m ys w W
 r:cY W a 1 ks.length (gZ ks)
 l:∀b off,a=some ⟨b,off,none⟩->b<W.heap.size/\¬MY M q Y b
section
variable {M q Y N:Nat} {x:Im} {m m':MS} {ys ys':Nat->aK} {w W W':World} {a:Option Addr} {ks:List Nat}
theorem mR.below(h:mR M q Y N x m ys w a ks W)(hb:Below W.heap.size W W'):mR M q Y N x m ys w a ks W':=
 ⟨h.s.below hb,cY.o5 (S:=λ_=>False) h.r (.bQ hb) (λb off e _=>⟨(h.l b off e).1,id⟩),λb off e=>⟨Nat.lt_of_lt_of_le (h.l b off e).1 hb.size,(h.l b off e).2⟩⟩
theorem mR.to(h:mR M q Y N x m ys w a ks W)(hs:gP M q Y N x m' ys' w W')(hg:dJ (MY M q Y) W W'):mR M q Y N x m' ys' w a ks W':=
 ⟨hs,cY.o5 h.r hg (λb off e _=>h.l b off e),λb off e=>⟨Nat.lt_of_lt_of_le (h.l b off e).1 hg.size,(h.l b off e).2⟩⟩
theorem mR.word(h:mR M q Y N x m ys w a ks W){t:Nat}(ht:t<ks.length):∃b off,a=some ⟨b,off,none⟩/\W.cell? ⟨b,off+t,none⟩=some (.int .i64 ((ks.getD t 0:Nat):Int)):=by
 rcases h.r with h0|⟨b,off,e,hs⟩
 ·omega
 ·refine⟨b,off,e,?_⟩
  have:=hs t ht 0 _ rfl;rwa[Nat.mul_one,Nat.add_zero] at this
end
structure H5(M q Y N:Nat)(x:Im)(m m1:MS)(ys sx:Nat->aK)(w:World)(a:Option Addr)(ks:List Nat)(l:Nat->Bool)(W:World):Prop where
 fa:l 3=false->mR M q Y N x m ys w a ks W
 fb:l 3=true->l 8=false->mR M q Y N x m1 ys w a ks W
 fc:l 8=true->mR M q Y N x m1 sx w a ks W/\l 3=true
theorem H5.below{W:World}(h:H5 M q Y N x m m1 ys sx w a ks l W)(hb:Below W.heap.size W W'):H5 M q Y N x m m1 ys sx w a ks l W':=
 ⟨λe=>(h.fa e).below hb,λe e2=>(h.fb e e2).below hb,λe=>⟨(h.fc e).1.below hb,(h.fc e).2⟩⟩
theorem H5.next{W:World}(h:H5 M q Y N x m m1 ys sx w a ks l W)(h3:k≠3)(h8:k≠8):H5 M q Y N x m m1 ys sx w a ks (λj=>j==k||l j) W:=by
 have e3:((3==k)||l 3)=l 3:=by rw[show(3==k)=false from by simpa using Ne.symm h3,Bool.false_or]
 have e8:((8==k)||l 8)=l 8:=by rw[show(8==k)=false from by simpa using Ne.symm h8,Bool.false_or]
 exact⟨λe=>h.fa (e3▸e),λe e2=>h.fb (e3▸e) (e8▸e2),λe=>⟨(h.fc (e8▸e)).1,by show((3==k)||l 3)=true;rw[e3];exact(h.fc (e8▸e)).2⟩⟩
def VH(Y o k b0:Nat)(l:Nat->Bool)(n:Nat)(v:Value):Prop:=
 if n=3 then v= .int .i64 (b0:Int) else if n=4 then v= .int .u32 (b0:Int)/\l 3=true
 else if n=5 then v= .pointer (some ⟨Y,o,none⟩) else if n=6 then v= .pointer (some ⟨Y,o+4,none⟩) else if n=7 then v= .pointer (some ⟨Y,o+4+k,none⟩) else v=undef
theorem VH.up{o b0:Nat}{l':Nat->Bool}{n:Nat}{v:Value}(h:VH Y o k b0 l n v)(hl:l 3=true->l' 3=true):VH Y o k b0 l' n v:=by
 unfold VH at h ⊢;split<;>rename_i h1
 ·rwa[if_pos h1] at h
 rw[if_neg h1] at h;split<;>rename_i h2
 ·rw[if_pos h2] at h;exact⟨h.1,hl h.2⟩
 rwa[if_neg h2] at h
theorem uk(x:Im)(ks:List Nat)(m:MS):MS.down x ks 0 m=(0,m):=by cases ks<;>rfl
theorem uS(hx:x.Ok){bP:Nat->Nat}(h:m.Wf x bP):(m.take x).1<2048:=by
 obtain⟨h1,h2,h3,h4,h5,h6,h7,h8,h9,h10,h11⟩:=dL hx.may;obtain⟨_,_,_,hp⟩:=MS.iM (x:=x) (by omega) 0 h;have:=hx.iu
 by_cases e:(m.take x).1=0
 ·omega
 ·have:=hp.lt e;omega
set_option maxRecDepth 100000 in
set_option maxHeartbeats 16000000 in
theorem rj(M q Y N:Nat)(x:Im)(hx:x.Ok)(m:MS)(ys:Nat->aK)(hI:iB x m ys N)(i:Nat)(hi:i<N)(hN:N<=4096)(idx:Int)(w:World)(hs:gP M q Y N x m ys w w):
  Calls Tryz.prog 64 #[.pointer (some ⟨M,0,none⟩),.pointer (some ⟨Y,i*16,none⟩),.int .i64 idx] w λe w'=>
   e= .returned (.int .i64 (((MS.fm x (ys i) idx m).1:Nat):Int))/\gP M q Y N x (MS.fm x (ys i) idx m).2.2 (af ys i (MS.fm x (ys i) idx m).2.1) w w':=by
 obtain⟨h1,h2,h3,h4,h5,h6,h7,h8,h9,h10,h11⟩:=dL hx.may;have fY:=hx.iu;obtain⟨bP,hW,hP⟩:=hI;obtain⟨r,hr⟩:∃r,r=MS.fm x (ys i) idx m:=⟨_,rfl⟩;rw[<-hr];have HR:=hid hr;have HW:=hid hW;have HP:=hid hP;have HX:=hid hx;have cX:=hid hs;clear hx hW hP hr hs h11;go_enter Tryz.func64,Tryz.ntmps64;go_wp2_with fail;refine(CR idx w).mono ?_;rintro e w1 ⟨hb1,hp⟩;have eR:=cX.out.below hb1;have aV:Hid (gP M q Y N x m ys w1 w1):=⟨eR.p,eR.y,.refl _ _⟩;have jE:Hid (dJ (MY M q Y) w w1):=.bQ hb1;have Sr:Hid (∀j,MY M q Y j->j<w.heap.size):=λj hj=>by
  obtain⟨f,hf⟩:=cX.out.p.k;rcases hj with rfl|rfl|rfl
  ·exact hf.lt
  ·exact cX.out.p.im.lt
  ·exact cX.out.y.lt
 clear eR;have No:af ys i (ys i)=ys:=by funext j;unfold af;split;rename_i e;rw[e];rfl
 rcases hp with⟨hno,rfl⟩|⟨rE,a,c,rfl,hrow,hab⟩
 ·have HE:Hid (r.1=0/\r.2.1=ys i/\r.2.2=m):=by
   show _/\_/\_;rw[HR.out];unfold MS.fm;rw[if_pos hno];exact⟨rfl,rfl,rfl⟩
  clear cX hb1 hno;go_wp2_with fail;go_ret;obtain⟨e1,e2,e3⟩:=HE.out;exact⟨by rw[e1];rfl,by rw[e2,e3,No];exact⟨aV.out.p,aV.out.y,jE.out⟩⟩
 obtain⟨k,hk⟩:∃k,k=Im.bC idx.toNat:=⟨_,rfl⟩;obtain⟨ks,hks⟩:∃ks,ks=Im.bE idx.toNat:=⟨_,rfl⟩;have Dx:k<11:=by rw[hk];exact Im.m5 _
 have hlen:ks.length=Im.lvl k:=by rw[hks,hk];exact Im.kE _
 have Nl:∀d,d∈ks->d<64:=by rw[hks];exact Im.pK (by omega)
 have KD:Hid (r=if(ys i).p k=0 then((MS.down x ks (m.take x).1 (m.take x).2).1,n9 (ys i) k (m.take x).1,(MS.down x ks (m.take x).1 (m.take x).2).2) else((MS.down x ks ((ys i).p k).toNat m).1,ys i,(MS.down x ks ((ys i).p k).toNat m).2)):=by
  show _=_;rw[HR.out];unfold MS.fm;rw[if_neg (by omega),<-hk,<-hks];rfl
 rw[<-hk,<-hks];rw[<-hks] at hrow;have Ic:=hid (And.intro hlen Nl);have Ll:ks.length<=3:=by rw[hlen];unfold Im.lvl;split<;>omega
 have aV:Hid (mR M q Y N x m ys w1 a ks w1):=⟨aV.out,hrow,λb off e=>⟨(hab b off e).2,λhm=>by have:=Sr.out b hm;have:=(hab b off e).1;omega⟩⟩;clear HR hk hks rE hrow hab cX hb1 hlen Nl;have ke:(0:Int)<=(k:Int):=by omega
 have hk1:(k:Int)<11:=by omega
 have cp:=aV.out.s.ptr hi Dx;obtain⟨pv,hpv⟩:∃pv,pv=(ys i).p k:=⟨_,rfl⟩;rw[<-hpv] at cp;have Ib:=hid hpv;have hpb:0<=pv/\pv<4294967296:=by rw[hpv];exact(HP.out i hi k Dx).1
 clear hpv;have XM:=hid No;clear No
 by_cases hp0:pv=0
 rotate_left
 ·have q0:(pv==0)=false:=by simp[hp0]
  obtain⟨b0,hb0⟩:∃b0:Nat,pv=(b0:Int):=⟨pv.toNat,by omega⟩;have e0:pv.toNat=b0:=by omega
  have HF:Hid (MS.down x ks b0 m=(r.1,r.2.2)):=by
   show _=_;rw[KD.out,if_neg (by rw[<-Ib.out];exact hp0),<-Ib.out,e0]
  have RZ:Hid (ys=af ys i r.2.1):=by
   show _=_;rw[KD.out,if_neg (by rw[<-Ib.out];exact hp0)];exact XM.out.symm
  have pG:Hid (∃bP,m.Wf x bP/\MS.Pt x m bP ks.length b0):=⟨bP,HW.out,by rw[Ic.out.1,<-e0,Ib.out];exact(HP.out i hi k Dx).2⟩;clear hp0 e0 KD Ib HW HP XM;subst hb0;go_wp2_with fail;clear cp q0;go_loopw [10,11,12,13] (λu10 u11 _ _ wr=>∃(t b:Nat) (m':MS),t<=ks.length/\u10= .int .i64 (b:Int)/\u11= .int .i64 (t:Int)/\MS.down x (ks.drop t) b m'=(r.1,r.2.2)/\(∃bP,m'.Wf x bP/\MS.Pt x m' bP (ks.length-t) b)/\mR M q Y N x m' ys w1 a ks wr) (λ_ u _ _ _=>ks.length-(intOf u).toNat)
  case atStart=>exact⟨0,b0,m,by omega,rfl,rfl,HF.out,pG.out,aV.out⟩
  case round=>
   clear aV HF pG;obtain⟨t,b,m',ht,rfl,rfl,hf,hwf,st⟩:=hrel;have HF:=hid hf;have pG:=hid hwf;have ST:=hid st;clear hf hwf st
   by_cases hlt:t<ks.length
   rotate_left
   ·obtain rfl:t=ks.length:=by omega
    have HE:Hid (r.1=b/\r.2.2=m'):=by
     have:=HF.out;rw[List.drop_length,MS.down] at this;injection this with e1 e2
     exact⟨e1.symm,e2.symm⟩
    clear HF;go_wp2_with fail;go_ret;obtain⟨e1,e2⟩:=HE.out;exact⟨by rw[e1];rfl,by rw[e2,<-RZ.out];exact⟨ST.out.s.p,ST.out.s.y,jE.out.trans ST.out.s.gr⟩⟩
   have hlt':(t:Int)<(ks.length:Int):=by omega
   by_cases hb0:b=0
   ·subst hb0
    have HE:Hid (r.1=0/\r.2.2=m'):=by
     have:=HF.out;rw[uk] at this;injection this with e1 e2
     exact⟨e1.symm,e2.symm⟩
    clear HF;go_wp2_with fail;go_ret;obtain⟨e1,e2⟩:=HE.out;exact⟨by rw[e1];rfl,by rw[e2,<-RZ.out];exact⟨ST.out.s.p,ST.out.s.y,jE.out.trans ST.out.s.gr⟩⟩
   have mP:(0:Int)<(b:Int):=by omega
   have We:0<b:=by omega
   have kU:b<x.n:=by obtain⟨_,_,h⟩:=pG.out;exact h.lt hb0
   have Ga:(b:Int)<(x.n:Int):=by omega
   obtain⟨d,hd⟩:∃d,d=ks.getD t 0:=⟨_,rfl⟩;obtain⟨ab,ao,hA,_⟩:=ST.out.word hlt;have yq:d∈ks:=by rw[hd,List.getD_eq_getElem?_getD,List.getElem?_eq_getElem hlt];exact List.getElem_mem _
   have DB:d<64:=Ic.out.2 d yq;have Ou:Hid (ks.drop t=d::ks.drop (t+1)):=by
    show _=_;rw[List.drop_eq_getElem_cons hlt,hd,List.getD_eq_getElem?_getD,List.getElem?_eq_getElem hlt];rfl
   have HD:=hid hd;subst hA;have zy:Hid (bm (m'.L b)):=by obtain⟨_,h,_⟩:=pG.out;exact h.jg b
   have hsl:=dK q (b*256);clear hd yq;go_wp2_with fail;refine ai (mR M q Y N x m' ys w1 (some ⟨ab,ao,none⟩) ks) (by kernel_rfl) (by kernel_rfl) (ST.out.below (Below.refl _ _).drew) ?_;clear ST;intro hne;have hc0:∀y:aT (mR M q Y N x m' ys w1 (some ⟨ab,ao,none⟩) ks),y.W.cell? ⟨M,0,none⟩=some (.slice (some ⟨q,0,none⟩) x.n x.n):=λy=>y.h.s.p.c0
   have rK:∀y:aT (mR M q Y N x m' ys w1 (some ⟨ab,ao,none⟩) ks),y.W.cell? ⟨ab,ao+t,none⟩=some (.int .i64 (d:Int)):=λy=>by
    obtain⟨b',o',e,h⟩:=y.h.word hlt;injection e with e
    injection e with e1 e2
    subst e1 e2;rw[<-HD.out] at h;exact h
   have AD:(4*(d:Int)).toNat=4*d:=by omega
   repeat go_big_quiet_step (fail)
   go_big_quiet_want
   go_big_quiet_op
   refine⟨_,λy=>aG y (λW hW=>(fh q (b*256) 256 256 (4*(d:Int)) (m'.L b) W (by omega) (by omega) (by omega) (hW.s.p.bI kU) zy.out).mono λe w' h=>⟨h.1.trans (by rw[AD]),by obtain⟨mm,rfl⟩:=h.2;exact hW.below ⟨rfl,rfl,rfl,Nat.le_refl _,λ_ _=>rfl⟩⟩),?_⟩
   go_big_quiet_on
   repeat go_big_quiet_step (fail)
   refine wpQuiet_nil ?_;intro w3 h3';have ST:=hid h3'.out;clear h3' hne hc0 rK hsl;obtain⟨vn,Au⟩:∃vn:Nat,b9 (m'.L b) (4*d)=(vn:Int):=⟨(b9 (m'.L b) (4*d)).toNat,by have:=dA zy.out (4*d);omega⟩;have Qm:(b9 (m'.L b) (4*d)).toNat=vn:=by omega
   have UR:vn<4294967296:=by have:=dA zy.out (4*d);omega
   rw[Au];have HV:=hid (And.intro Au Qm);clear Au Qm
   by_cases hv0:vn=0
   ·subst hv0
    have uH:Hid (MS.down x (ks.drop (t+1)) (m'.take x).1 ((m'.take x).2.put b (over ((m'.take x).2.L b) (4*d) 4 (byteOf ((m'.take x).1:Nat))))=(r.1,r.2.2)):=by
     have:=HF.out;rw[Ou.out,MS.down,if_neg hb0,if_pos HV.out.2] at this;exact this
    have GW:Hid (∃bP,((m'.take x).2.put b (over ((m'.take x).2.L b) (4*d) 4 (byteOf ((m'.take x).1:Nat)))).Wf x bP/\MS.Pt x ((m'.take x).2.put b (over ((m'.take x).2.L b) (4*d) 4 (byteOf ((m'.take x).1:Nat)))) bP (ks.length-(t+1)) (m'.take x).1):=by
     obtain⟨bP,hW,Gf⟩:=pG.out;obtain⟨rq,a1,a2,a3⟩:=MS.iM (x:=x) (by omega) (ks.length-(t+1)) hW;have NI:MS.Pt x m' bP (ks.length-(t+1)+1) b:=by rw[show ks.length-(t+1)+1=ks.length-t by omega];exact Gf
     exact⟨rq,a1.word fY (NI.ext a2) hb0 DB a3,by rcases a3 with a3|a3;exact .inl a3;exact .inr a3⟩
    have hv1:(m'.take x).1<2048:=by obtain⟨_,hW,_⟩:=pG.out;exact uS HX.out hW
    have G2:Hid (bm ((m'.take x).2.L b)):=by
     obtain⟨bP,hW,_⟩:=pG.out;obtain⟨rq,a1,_,_⟩:=MS.iM (x:=x) (by omega) 0 hW;exact a1.jg b
    have mT:Hid ((∀b,bm (m'.L b))/\m'.next<=x.n):=by obtain⟨bP,hW,_⟩:=pG.out;exact⟨hW.jg,hW.le⟩
    clear HF pG;go_wp2_with fail;refine(mz M q x HX.out m' mT.out.1 mT.out.2 _ ST.out.s.p).mono ?_;rintro e w4 ⟨rfl,FX,hg4⟩;have eI:=hid (ST.out.to (ST.out.s.n6 FX hg4) (hg4.mono λj e=>e.elim .inl λe=> .inr (.inl e)));obtain⟨v1,FR⟩:∃v1,v1=(m'.take x).1:=⟨_,rfl⟩;obtain⟨m2,hm2⟩:∃m2,m2=(m'.take x).2:=⟨_,rfl⟩;rw[<-FR] at hv1 uH GW ⊢;rw[<-hm2] at uH GW eI G2;clear ST FX hg4 FR hm2;go_wp2_with fail;refine aA (mR M q Y N x m2 ys w1 (some ⟨ab,ao,none⟩) ks) 13 (by kernel_rfl) (by kernel_rfl) (by kernel_rfl) (by kernel_rfl) (by kernel_rfl) (by decide) (eI.out.below (Below.refl _ _).drew) ?_;clear eI;simp only[List.take,List.drop];intro hne;have hsl:=dK q (b*256);have hc0:∀y:aT (mR M q Y N x m2 ys w1 (some ⟨ab,ao,none⟩) ks),y.W.cell? ⟨M,0,none⟩=some (.slice (some ⟨q,0,none⟩) x.n x.n):=λy=>y.h.s.p.c0
    have rK:∀y:aT (mR M q Y N x m2 ys w1 (some ⟨ab,ao,none⟩) ks),y.W.cell? ⟨ab,ao+t,none⟩=some (.int .i64 (d:Int)):=λy=>by
     obtain⟨b',o',e,h⟩:=y.h.word hlt;injection e with e
     injection e with e1 e2
     subst e1 e2;rw[<-HD.out] at h;exact h
    repeat go_big_quiet_step (fail)
    refine wpQuiet_nil ?_;intro w5 Ri;have ec:=hid Ri.out;clear Ri hne hc0 rK hsl;go_wp2_with fail;refine(cU q (b*256) 256 256 (4*(d:Int)) (v1:Int) (m2.L b) _ (by omega) (by omega) (by omega) (by omega) (by omega) (ec.out.s.p.bI kU) G2.out (λo ho=>ec.out.s.p.im.soft (b*256+o))).mono ?_;rintro e w6 ⟨rfl,wN⟩;rw[AD] at wN;have iW:=hid (ec.out.to (ec.out.s.n6 (ec.out.s.p.kn kU (by omega) wN) (.bW wN.only (.inr rfl))) (.bW wN.only (.inr (.inl rfl))));clear ec wN;go_wp2_with fail;go_roundw
    case rel=>exact⟨t+1,v1,_,by omega,rfl,by go_num,uH.out,GW.out,iW.out⟩
    case measure=>simp[intOf];omega
   ·have uH:Hid (MS.down x (ks.drop (t+1)) vn m'=(r.1,r.2.2)):=by
     have:=HF.out;rw[Ou.out,MS.down,if_neg hb0,if_neg (by rw[HV.out.2];exact hv0),HV.out.2] at this;exact this
    have GW:Hid (∃bP,m'.Wf x bP/\MS.Pt x m' bP (ks.length-(t+1)) vn):=by
     obtain⟨bP,hW,Gf⟩:=pG.out;refine⟨bP,hW,?_⟩;rcases Gf with Gf|⟨p1,p2,p3⟩
     ·exact absurd Gf hb0
     ·rcases hW.ptr b d p1 p2 (by omega) DB with h'|⟨g1,g2,g3⟩
      ·rw[HV.out.2] at h';exact absurd h' hv0
      ·rw[HV.out.2] at g1 g2 g3
       exact .inr ⟨g1,g2,by omega⟩
    have q1:((vn:Int)==0)=false:=by simp;omega
    clear HF pG;go_wp2_with fail;go_roundw
    case rel=>exact⟨t+1,vn,m',by omega,rfl,by go_num,uH.out,GW.out,ST.out⟩
    case measure=>simp[intOf];omega
 ·subst hp0
  obtain⟨b0,hb0⟩:∃b0:Nat,b0=(m.take x).1:=⟨_,rfl⟩;obtain⟨m1,BH⟩:∃m1,m1=(m.take x).2:=⟨_,rfl⟩;obtain⟨sx,Jl⟩:∃sx,sx=af ys i (n9 (ys i) k b0):=⟨_,rfl⟩;have BF:r=((MS.down x ks b0 m1).1,n9 (ys i) k b0,(MS.down x ks b0 m1).2):=by rw[KD.out,if_pos Ib.out.symm,<-hb0,<-BH]
  have HF:Hid (MS.down x ks b0 m1=(r.1,r.2.2)):=by show _=_;rw[BF]
  have RZ:Hid (sx=af ys i r.2.1):=by show _=_;rw[BF,Jl]
  have pG:Hid (∃bP,m1.Wf x bP/\MS.Pt x m1 bP ks.length b0):=by
   obtain⟨rq,a1,a2,a3⟩:=MS.iM (x:=x) (by omega) ks.length HW.out;rw[hb0,BH];exact⟨rq,a1,a3⟩
  have yt:b0<2048:=by rw[hb0];exact uS HX.out HW.out
  have Oc:Hid (∀W,mR M q Y N x m ys w1 a ks W->Calls Tryz.prog 105 #[.pointer (some ⟨M,0,none⟩)] W λe w'=>e= .returned (.int .i64 (b0:Int))/\mR M q Y N x m1 ys w1 a ks w'):=λW h=>by
   refine(mz M q x HX.out m HW.out.jg HW.out.le W h.s.p).mono ?_;rintro e w4 ⟨rfl,FX,hg4⟩;rw[hb0,BH];exact⟨rfl,h.to (h.s.n6 FX hg4) (hg4.mono λj e=>e.elim .inl λe=> .inr (.inl e))⟩
  have HST:Hid (∀W,mR M q Y N x m1 ys w1 a ks W->(∃u,W.cell? ⟨Y,i*16+4+k,none⟩=some u)/\W.frozen? ⟨Y,i*16+4+k,none⟩=false/\mR M q Y N x m1 sx w1 a ks (W.setCell ⟨Y,i*16+4+k,none⟩ (.int .u32 (b0:Int)))):=λW h=>by
   rw[Jl];exact⟨⟨_,h.s.ptr hi Dx⟩,h.s.y.soft _,h.to (h.s.Uo hi Dx b0) (.bW (an.setCell W ⟨Y,i*16+4+k,none⟩ _) (.inr (.inr rfl)))⟩
  have wV:Hid ((sx i).p k=(b0:Int)):=by show _=_;rw[Jl];unfold af n9;rw[if_pos rfl];exact if_pos rfl
  clear KD Ib HW HP XM hb0 BH Jl BF;go_wp2_with fail;clear cp;apply Vp.br 3 (λl n v W=>VH Y (i*16) k b0 l n v) (λl W=>H5 M q Y N x m m1 ys sx w1 a ks l W) (λW=>True)
  case hm=>kernel_rfl
  case hd=>kernel_rfl
  case hpre=>kernel_rfl
  case hB=>kernel_rfl
  case hVl=>exactλl l' he n v W h=>h.up λe=>by rw[<-he 3 (by decide) (by decide)];exact e
  case hS=>
   intro l l' W he h;have e3:=he 3 (by decide) (by decide);have e8:=he 8 (by decide) (by decide);exact⟨λe=>h.fa (e3.trans e),λe e2=>h.fb (e3.trans e) (e8.trans e2),λe=>⟨(h.fc (e8.trans e)).1,e3.symm.trans (h.fc (e8.trans e)).2⟩⟩
  case hSC=>exactλl W h=>trivial
  case hVb=>exactλl n v W W' h hb=>h
  case hSb=>exactλl W W' h hb _=>h.below hb
  case h0=>exact⟨λ_=>aV.out.below ⟨rfl,rfl,rfl,Nat.le_refl _,λ_ _=>rfl⟩,(λe=>by cases e),λe=>by cases e⟩
  case hwalk=>
   simp only[List.take];intro R hR hne
   repeat go_big_quiet_step (fail)
   exact wpQuiet_nil rfl
  case hst=>
   simp only[List.drop];refine⟨?_,?_,?_,?_,?_,?_,trivial⟩
   ·intro l a W hl hu h
    have e1:a.tmps.getD 31 undef= .pointer (some ⟨M,0,none⟩):=(h.vals 2 31 (aq hu 2) rfl).pre (by decide) rfl;have h8:l 8=false:=by
     cases e:l 8 with
     |false=>rfl
     |true=>have:=(h.st.fc e).2;rw[hl] at this;cases this
    refine Vm.step h (by kernel_rfl) rfl rfl rfl hl (Vl.iQ 105 #[.pointer (some ⟨M,0,none⟩)] (Vl.E9 105 (.tmp 31) _ _ rfl e1 (by kernel_rfl)) ?_);refine(Oc.out W (h.st.fa hl)).mono ?_;rintro e W' ⟨rfl,hn⟩;exact⟨_,rfl,_,rfl,λn d _ _ hv=>hv.up λ_ hv=>hv.up λ_=>by show((3==3)||l 3)=true;rfl,Vp.W.mk (by decide) rfl,⟨(λe=>by have e:true=false:=e;cases e),λ_ _=>hn,λe=>by have e:l 8=true:=e;rw[h8] at e;cases e⟩⟩
   ·intro l a W hl hu h
    have u3:=aq hu 3 (by kernel_rfl);have e1:a.tmps.getD 32 undef= .int .i64 (b0:Int):=(h.vals 3 32 u3 rfl).post (by decide);have u3':l 3=true:=u3;have hcv:(execOp a.eval (Oper.mk (some 33) (.convert 3 45 (.tmp 32)) 45 "plan.go:99" #[{on:=3,ground:=.data}] none)).run Tryz.prog W= .ok (.value (.int .u32 (b0:Int))) W:=by
     have hw:IntKind.u32.wrap (b0:Int)=(b0:Int):=IntWalk.u32_in _ (by omega);have hc:(convert 3 45 (.int .i64 (b0:Int))).run Tryz.prog W= .ok (.int .u32 (b0:Int)) W:=by simp[go_sem,hw]
     have NS:a.eval (.tmp 32)= .int .i64 (b0:Int):=e1;unfold execOp;simp[NS,hc]
    exact Vm.bB h (by kernel_rfl) rfl rfl rfl hl _ hcv (λ_ _ hv=>hv.up λ_ hv=>hv.up λe=>by show((3==4)||l 3)=true;rw[e];rfl) (Vp.W.mk (by decide) ⟨rfl,by show((3==4)||l 3)=true;rw[u3'];rfl⟩) (λs=>s.next (by decide) (by decide))
   ·intro l a W hl hu h
    have e1:a.tmps.getD 29 undef= .pointer (some ⟨Y,i*16,none⟩):=(h.vals 0 29 (aq hu 0) rfl).pre (by decide) rfl;exact Vm.bB h (by kernel_rfl) rfl rfl rfl hl _ (Vl.mq (.tmp 29) rfl ⟨Y,i*16,none⟩ e1) (λ_ _ hv=>hv.up λ_ hv=>hv.up λe=>by show((3==5)||l 3)=true;rw[e];rfl) (Vp.W.mk (by decide) rfl) (λs=>s.next (by decide) (by decide))
   ·intro l a W hl hu h
    have e1:a.tmps.getD 34 undef= .pointer (some ⟨Y,i*16,none⟩):=(h.vals 5 34 (aq hu 5) rfl).post (by decide);exact Vm.bB h (by kernel_rfl) rfl rfl rfl hl _ (Vl.jM 63 (.tmp 34) 4 rfl e1 (by kernel_rfl)) (λ_ _ hv=>hv.up λ_ hv=>hv.up λe=>by show((3==6)||l 3)=true;rw[e];rfl) (Vp.W.mk (by decide) rfl) (λs=>s.next (by decide) (by decide))
   ·intro l a W hl hu h
    have e1:a.tmps.getD 35 undef= .pointer (some ⟨Y,i*16+4,none⟩):=(h.vals 6 35 (aq hu 6) rfl).post (by decide);have e2:a.tmps.getD 30 undef= .int .i64 (k:Int):=(h.vals 1 30 (aq hu 1) rfl).pre (by decide) rfl;have Jw:(execOp a.eval (Oper.mk (some 36) (.indexAddr 61 (.tmp 35) (.tmp 30)) 0 "plan.go:99" #[{on:=6,ground:=.data},{on:=1,ground:=.data}] none)).run Tryz.prog W= .ok (.value (.pointer (some ⟨Y,i*16+4+k,none⟩))) W:=by
     have NS:a.eval (.tmp 35)= .pointer (some ⟨Y,i*16+4,none⟩):=e1;have e2':a.eval (.tmp 30)= .int .i64 (k:Int):=e2;have hal:Tryz.prog.arrayLen 61=11:=by kernel_rfl
     have hr:=run_indexAt_array (P:=Tryz.prog) W 61 ⟨Y,i*16+4,none⟩ .i64 (k:Int) (by kernel_rfl);rw[hal,if_pos ⟨by omega,by omega⟩,show(Go.sizeOf (Tryz.prog.elem 61)).run Tryz.prog W= .ok 1 W from by kernel_rfl,Result.andThen_ok,Int.toNat_natCast,Nat.mul_one] at hr;unfold execOp;simp[NS,e2',hr,Addr.add]
    exact Vm.bB h (by kernel_rfl) rfl rfl rfl hl _ Jw (λ_ _ hv=>hv.up λ_ hv=>hv.up λe=>by show((3==7)||l 3)=true;rw[e];rfl) (Vp.W.mk (by decide) rfl) (λs=>s.next (by decide) (by decide))
   ·intro l a W hl hu h
    have e1:a.tmps.getD 36 undef= .pointer (some ⟨Y,i*16+4+k,none⟩):=(h.vals 7 36 (aq hu 7) rfl).post (by decide);obtain⟨e2,u3⟩:a.tmps.getD 33 undef= .int .u32 (b0:Int)/\l 3=true:=(h.vals 4 33 (aq hu 4) rfl).post (by decide);obtain⟨⟨u,hc⟩,hf,hn⟩:=HST.out W (h.st.fb u3 hl);refine Vm.step h (by kernel_rfl) rfl rfl rfl hl (Vl.q9 45 (.tmp 36) (.tmp 33) rfl Y (i*16+4+k) (.int .u32 (b0:Int)) u e1 e2 hc hf (by kernel_rfl) rfl ?_);exact⟨_,rfl,λn d _ _ hv=>hv.up λ_ hv=>hv.up λe=>by show((3==8)||l 3)=true;rw[e];rfl,Vp.W.mk (by decide) rfl,⟨(λe=>by have e:l 3=false:=e;rw[u3] at e;cases e),(λ_ e=>by have e:true=false:=e;cases e),λ_=>⟨hn,by show((3==8)||l 3)=true;rw[u3];rfl⟩⟩⟩
  intro a' w6 h hall;have bO:=hall [32,33,34,35,36] (by kernel_rfl);clear hall;have WO:a'.tmps.getD 32 undef= .int .i64 (b0:Int):=(h.vals 3 32 rfl rfl).post (by decide);have WN:a'.tmps.getD 33 undef= .int .u32 (b0:Int):=((h.vals 4 33 rfl rfl).post (by decide):_/\_).1;have e34:a'.tmps.getD 34 undef= .pointer (some ⟨Y,i*16,none⟩):=(h.vals 5 34 rfl rfl).post (by decide);have e35:a'.tmps.getD 35 undef= .pointer (some ⟨Y,i*16+4,none⟩):=(h.vals 6 35 rfl rfl).post (by decide);have e36:a'.tmps.getD 36 undef= .pointer (some ⟨Y,i*16+4+k,none⟩):=(h.vals 7 36 rfl rfl).post (by decide);have hs:=(h.st.fc rfl).1;have aV:=hid hs;rw[List.foldl_cons,List.foldl_cons,List.foldl_cons,List.foldl_cons,List.foldl_cons,List.foldl_nil,WO,WN,e34,e35,e36] at bO;simp only[Act.put,List.setIfInBounds_toArray,List.set_cons_succ,List.set_cons_zero] at bO;subst bO;have cp:w6.cell? ⟨Y,i*16+4+k,none⟩=some (.int .u32 (b0:Int)):=by
   have h:=hs.s.ptr hi Dx;have e:(sx i).p k=(b0:Int):=wV.out;rw[e] at h;exact h
  clear h WO WN e34 e35 e36 hs;clear Oc HST wV;go_wp2_with fail;clear cp;go_loopw [10,11,12,13] (λu10 u11 _ _ wr=>∃(t b:Nat) (m':MS),t<=ks.length/\u10= .int .i64 (b:Int)/\u11= .int .i64 (t:Int)/\MS.down x (ks.drop t) b m'=(r.1,r.2.2)/\(∃bP,m'.Wf x bP/\MS.Pt x m' bP (ks.length-t) b)/\mR M q Y N x m' sx w1 a ks wr) (λ_ u _ _ _=>ks.length-(intOf u).toNat)
  case atStart=>exact⟨0,b0,m1,by omega,rfl,rfl,HF.out,pG.out,aV.out⟩
  case round=>
   clear aV HF pG;obtain⟨t,b,m',ht,rfl,rfl,hf,hwf,st⟩:=hrel;have HF:=hid hf;have pG:=hid hwf;have ST:=hid st;clear hf hwf st
   by_cases hlt:t<ks.length
   rotate_left
   ·obtain rfl:t=ks.length:=by omega
    have HE:Hid (r.1=b/\r.2.2=m'):=by
     have:=HF.out;rw[List.drop_length,MS.down] at this;injection this with e1 e2
     exact⟨e1.symm,e2.symm⟩
    clear HF;go_wp2_with fail;go_ret;obtain⟨e1,e2⟩:=HE.out;exact⟨by rw[e1];rfl,by rw[e2,<-RZ.out];exact⟨ST.out.s.p,ST.out.s.y,jE.out.trans ST.out.s.gr⟩⟩
   have hlt':(t:Int)<(ks.length:Int):=by omega
   by_cases hb0:b=0
   ·subst hb0
    have HE:Hid (r.1=0/\r.2.2=m'):=by
     have:=HF.out;rw[uk] at this;injection this with e1 e2
     exact⟨e1.symm,e2.symm⟩
    clear HF;go_wp2_with fail;go_ret;obtain⟨e1,e2⟩:=HE.out;exact⟨by rw[e1];rfl,by rw[e2,<-RZ.out];exact⟨ST.out.s.p,ST.out.s.y,jE.out.trans ST.out.s.gr⟩⟩
   have mP:(0:Int)<(b:Int):=by omega
   have We:0<b:=by omega
   have kU:b<x.n:=by obtain⟨_,_,h⟩:=pG.out;exact h.lt hb0
   have Ga:(b:Int)<(x.n:Int):=by omega
   obtain⟨d,hd⟩:∃d,d=ks.getD t 0:=⟨_,rfl⟩;obtain⟨ab,ao,hA,_⟩:=ST.out.word hlt;have yq:d∈ks:=by rw[hd,List.getD_eq_getElem?_getD,List.getElem?_eq_getElem hlt];exact List.getElem_mem _
   have DB:d<64:=Ic.out.2 d yq;have Ou:Hid (ks.drop t=d::ks.drop (t+1)):=by
    show _=_;rw[List.drop_eq_getElem_cons hlt,hd,List.getD_eq_getElem?_getD,List.getElem?_eq_getElem hlt];rfl
   have HD:=hid hd;subst hA;have zy:Hid (bm (m'.L b)):=by obtain⟨_,h,_⟩:=pG.out;exact h.jg b
   have hsl:=dK q (b*256);clear hd yq;go_wp2_with fail;refine ai (mR M q Y N x m' sx w1 (some ⟨ab,ao,none⟩) ks) (by kernel_rfl) (by kernel_rfl) (ST.out.below (Below.refl _ _).drew) ?_;clear ST;intro hne;have hc0:∀y:aT (mR M q Y N x m' sx w1 (some ⟨ab,ao,none⟩) ks),y.W.cell? ⟨M,0,none⟩=some (.slice (some ⟨q,0,none⟩) x.n x.n):=λy=>y.h.s.p.c0
   have rK:∀y:aT (mR M q Y N x m' sx w1 (some ⟨ab,ao,none⟩) ks),y.W.cell? ⟨ab,ao+t,none⟩=some (.int .i64 (d:Int)):=λy=>by
    obtain⟨b',o',e,h⟩:=y.h.word hlt;injection e with e
    injection e with e1 e2
    subst e1 e2;rw[<-HD.out] at h;exact h
   have AD:(4*(d:Int)).toNat=4*d:=by omega
   repeat go_big_quiet_step (fail)
   go_big_quiet_want
   go_big_quiet_op
   refine⟨_,λy=>aG y (λW hW=>(fh q (b*256) 256 256 (4*(d:Int)) (m'.L b) W (by omega) (by omega) (by omega) (hW.s.p.bI kU) zy.out).mono λe w' h=>⟨h.1.trans (by rw[AD]),by obtain⟨mm,rfl⟩:=h.2;exact hW.below ⟨rfl,rfl,rfl,Nat.le_refl _,λ_ _=>rfl⟩⟩),?_⟩
   go_big_quiet_on
   repeat go_big_quiet_step (fail)
   refine wpQuiet_nil ?_;intro w3 h3';have ST:=hid h3'.out;clear h3' hne hc0 rK hsl;obtain⟨vn,Au⟩:∃vn:Nat,b9 (m'.L b) (4*d)=(vn:Int):=⟨(b9 (m'.L b) (4*d)).toNat,by have:=dA zy.out (4*d);omega⟩;have Qm:(b9 (m'.L b) (4*d)).toNat=vn:=by omega
   have UR:vn<4294967296:=by have:=dA zy.out (4*d);omega
   rw[Au];have HV:=hid (And.intro Au Qm);clear Au Qm
   by_cases hv0:vn=0
   ·subst hv0
    have uH:Hid (MS.down x (ks.drop (t+1)) (m'.take x).1 ((m'.take x).2.put b (over ((m'.take x).2.L b) (4*d) 4 (byteOf ((m'.take x).1:Nat))))=(r.1,r.2.2)):=by
     have:=HF.out;rw[Ou.out,MS.down,if_neg hb0,if_pos HV.out.2] at this;exact this
    have GW:Hid (∃bP,((m'.take x).2.put b (over ((m'.take x).2.L b) (4*d) 4 (byteOf ((m'.take x).1:Nat)))).Wf x bP/\MS.Pt x ((m'.take x).2.put b (over ((m'.take x).2.L b) (4*d) 4 (byteOf ((m'.take x).1:Nat)))) bP (ks.length-(t+1)) (m'.take x).1):=by
     obtain⟨bP,hW,Gf⟩:=pG.out;obtain⟨rq,a1,a2,a3⟩:=MS.iM (x:=x) (by omega) (ks.length-(t+1)) hW;have NI:MS.Pt x m' bP (ks.length-(t+1)+1) b:=by rw[show ks.length-(t+1)+1=ks.length-t by omega];exact Gf
     exact⟨rq,a1.word fY (NI.ext a2) hb0 DB a3,by rcases a3 with a3|a3;exact .inl a3;exact .inr a3⟩
    have hv1:(m'.take x).1<2048:=by obtain⟨_,hW,_⟩:=pG.out;exact uS HX.out hW
    have G2:Hid (bm ((m'.take x).2.L b)):=by
     obtain⟨bP,hW,_⟩:=pG.out;obtain⟨rq,a1,_,_⟩:=MS.iM (x:=x) (by omega) 0 hW;exact a1.jg b
    have mT:Hid ((∀b,bm (m'.L b))/\m'.next<=x.n):=by obtain⟨bP,hW,_⟩:=pG.out;exact⟨hW.jg,hW.le⟩
    clear HF pG;go_wp2_with fail;refine(mz M q x HX.out m' mT.out.1 mT.out.2 _ ST.out.s.p).mono ?_;rintro e w4 ⟨rfl,FX,hg4⟩;have eI:=hid (ST.out.to (ST.out.s.n6 FX hg4) (hg4.mono λj e=>e.elim .inl λe=> .inr (.inl e)));obtain⟨v1,FR⟩:∃v1,v1=(m'.take x).1:=⟨_,rfl⟩;obtain⟨m2,hm2⟩:∃m2,m2=(m'.take x).2:=⟨_,rfl⟩;rw[<-FR] at hv1 uH GW ⊢;rw[<-hm2] at uH GW eI G2;clear ST FX hg4 FR hm2;go_wp2_with fail;refine aA (mR M q Y N x m2 sx w1 (some ⟨ab,ao,none⟩) ks) 13 (by kernel_rfl) (by kernel_rfl) (by kernel_rfl) (by kernel_rfl) (by kernel_rfl) (by decide) (eI.out.below (Below.refl _ _).drew) ?_;clear eI;simp only[List.take,List.drop];intro hne;have hsl:=dK q (b*256);have hc0:∀y:aT (mR M q Y N x m2 sx w1 (some ⟨ab,ao,none⟩) ks),y.W.cell? ⟨M,0,none⟩=some (.slice (some ⟨q,0,none⟩) x.n x.n):=λy=>y.h.s.p.c0
    have rK:∀y:aT (mR M q Y N x m2 sx w1 (some ⟨ab,ao,none⟩) ks),y.W.cell? ⟨ab,ao+t,none⟩=some (.int .i64 (d:Int)):=λy=>by
     obtain⟨b',o',e,h⟩:=y.h.word hlt;injection e with e
     injection e with e1 e2
     subst e1 e2;rw[<-HD.out] at h;exact h
    repeat go_big_quiet_step (fail)
    refine wpQuiet_nil ?_;intro w5 Ri;have ec:=hid Ri.out;clear Ri hne hc0 rK hsl;go_wp2_with fail;refine(cU q (b*256) 256 256 (4*(d:Int)) (v1:Int) (m2.L b) _ (by omega) (by omega) (by omega) (by omega) (by omega) (ec.out.s.p.bI kU) G2.out (λo ho=>ec.out.s.p.im.soft (b*256+o))).mono ?_;rintro e w6 ⟨rfl,wN⟩;rw[AD] at wN;have iW:=hid (ec.out.to (ec.out.s.n6 (ec.out.s.p.kn kU (by omega) wN) (.bW wN.only (.inr rfl))) (.bW wN.only (.inr (.inl rfl))));clear ec wN;go_wp2_with fail;go_roundw
    case rel=>exact⟨t+1,v1,_,by omega,rfl,by go_num,uH.out,GW.out,iW.out⟩
    case measure=>simp[intOf];omega
   ·have uH:Hid (MS.down x (ks.drop (t+1)) vn m'=(r.1,r.2.2)):=by
     have:=HF.out;rw[Ou.out,MS.down,if_neg hb0,if_neg (by rw[HV.out.2];exact hv0),HV.out.2] at this;exact this
    have GW:Hid (∃bP,m'.Wf x bP/\MS.Pt x m' bP (ks.length-(t+1)) vn):=by
     obtain⟨bP,hW,Gf⟩:=pG.out;refine⟨bP,hW,?_⟩;rcases Gf with Gf|⟨p1,p2,p3⟩
     ·exact absurd Gf hb0
     ·rcases hW.ptr b d p1 p2 (by omega) DB with h'|⟨g1,g2,g3⟩
      ·rw[HV.out.2] at h';exact absurd h' hv0
      ·rw[HV.out.2] at g1 g2 g3
       exact .inr ⟨g1,g2,by omega⟩
    have q1:((vn:Int)==0)=false:=by simp;omega
    clear HF pG;go_wp2_with fail;go_roundw
    case rel=>exact⟨t+1,vn,m',by omega,rfl,by go_num,uH.out,GW.out,ST.out⟩
    case measure=>simp[intOf];omega
end Go.Proofs.YtphamecphmbipaaGreatDoor
