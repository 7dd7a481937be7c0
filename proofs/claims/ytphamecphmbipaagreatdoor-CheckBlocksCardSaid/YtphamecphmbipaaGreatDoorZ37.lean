/- Texts of this claim, merged. -/
import Derived.Test.YtphamecphmbipaaGreatDoorZ35
import Derived.Test.YtphamecphmbipaaGreatDoorZ36
set_option linter.unusedVariables false
set_option maxRecDepth 100000
set_option maxHeartbeats 16000000

namespace Go.Proofs.YtphamecphmbipaaGreatDoor
open Go.RowKit
variable {x:Im} {C0 k v:Nat} {P:Prop} {m:Bool}
def lG(x:Im)(u:Nat->List Nat)(k:Nat)(c:Nat->Bool):Prop:=∀p,p<=k->c p=true->(x.ino p).kind=2->∀d∈u p,c d=true
structure uT(x:Im)(u:Nat->List Nat)(C0:Nat)(P:Prop)(c:Nat->Bool)(m:Bool):Prop where
 one:c 1=true
 Pd:∀p,c p=true->Im.Mg x u p
 ge:C0<=aL c (x.ni+1)
 gt:m=true->C0<aL c (x.ni+1)
 cl:m=false->P
theorem uT.to{u:Nat->List Nat}{P':Prop}{c:Nat->Bool}(h:uT x u C0 P c m)(hp:P->P'):uT x u C0 P' c m:=⟨h.one,h.Pd,h.ge,h.gt,λe=>hp (h.cl e)⟩
theorem uT.mark{u:Nat->List Nat}{c:Nat->Bool}(h:uT x u C0 P c m)(P':Prop){d:Nat}(hd:d<x.ni+1)(hc:c d=false)(hr:Im.Mg x u d):uT x u C0 P' (ak c d true) true:=by
 have h1:=fY (p:=c) hd hc;have h2:=h.ge;refine⟨?_,λp hp=> ?_,by omega,λ_=>by omega,λe=>by cases e⟩
 ·unfold ak;split
  ·rfl
  exact h.one
 unfold ak at hp;split at hp
 ·rename_i e;rw[e];exact hr
 exact h.Pd p hp
theorem uT.start{u:Nat->List Nat}{c:Nat->Bool}(h:uT x u C0 P c m):uT x u (aL c (x.ni+1)) (lG x u 0 c) c false:=
 ⟨h.one,h.Pd,Nat.le_refl _,(λe=>by cases e),λ_ p hp _ hk=>by have:=(Im.vV (u:=u) hk).1;omega⟩
theorem uT.all{u:Nat->List Nat}{c:Nat->Bool}(h:uT x u C0 P c m):uT x u 0 P c m:=⟨h.one,h.Pd,Nat.zero_le _,λe=>by have:=h.gt e;omega,h.cl⟩
theorem uT.none{u:Nat->List Nat}(hn:1<=x.ni)(P:Prop):uT x u 0 P (ak (λ_=>false) 1 true) true:=by
 refine⟨rfl,λp hp=> ?_,Nat.zero_le _,λ_=> ?_,λe=>by cases e⟩
 ·unfold ak at hp
  split at hp
  ·rename_i e;rw[e];exact .one
  cases hp
 have:=fY (p:=λ_=>false) (n:=x.ni+1) (k:=1) (by omega) rfl;omega
theorem lG.skip{u:Nat->List Nat}{c:Nat->Bool}(h:lG x u k c)(hn:¬(c (k+1)=true/\(x.ino (k+1)).kind=2)):lG x u (k+1) c:=λp hp hc hk=>by
 rcases Nat.lt_succ_iff_lt_or_eq.1 (Nat.lt_succ_of_le hp) with h1|h1
 ·exact h p (by omega) hc hk
 subst h1;exact absurd ⟨hc,hk⟩ hn
theorem lG.next{u:Nat->List Nat}{c:Nat->Bool}(h:lG x u k c)(hn:∀d∈u (k+1),c d=true):lG x u (k+1) c:=λp hp hc hk=>by
 rcases Nat.lt_succ_iff_lt_or_eq.1 (Nat.lt_succ_of_le hp) with h1|h1
 ·exact h p (by omega) hc hk
 subst h1;exact hn
structure Hi(w:World)(p b off cap:Nat)(x:Im)(ds:Value)(r ci:Nat)(ay pt:Value)(Q:List Im.Pt)(g:Nat)(c:Nat->Bool)(W:World):Prop where
 k:oq w p b off cap x ds r ci ay pt Q W
 o:aE W g 4 1 (x.ni+1) (kH c)
structure Sr(w:World)(p b off cap:Nat)(x:Im)(ds:Value)(r ci:Nat)(ay pt:Value)(Q:List Im.Pt)(g:Nat)(a:Option Addr)(l:List (Nat×ByteArray))(c:Nat->Bool)(W:World):Prop where
 s:Hi w p b off cap x ds r ci ay pt Q g c W
 d:l.length=0\/∃q,a=some ⟨q,0,none⟩/\q≠g/\q<W.heap.size/\∀(j:Nat) (e:Nat×ByteArray),l[j]? =some e->W.cell? ⟨q,j*2,none⟩=some (.int .u32 (e.1:Int))
section
variable {w:World} {p b off cap:Nat} {x:Im} {ds:Value} {r ci:Nat} {ay pt:Value} {Q:List Im.Pt} {g:Nat} {a:Option Addr} {l:List (Nat×ByteArray)} {c:Nat->Bool} {W W':World}
theorem Hi.below(h:Hi w p b off cap x ds r ci ay pt Q g c W)(hb:Below W.heap.size W W'):Hi w p b off cap x ds r ci ay pt Q g c W':=⟨h.k.below hb,h.o.below hb⟩
theorem Hi.mark(h:Hi w p b off cap x ds r ci ay pt Q g c W)(hv:v<x.ni+1)(hg:w.heap.size<=g)(hl:Low w p b r Q pt):Hi w p b off cap x ds r ci ay pt Q g (ak c v true) (W.setCell ⟨g,v,none⟩ (.bool true)):=
 have ho:az g W (W.setCell ⟨g,v,none⟩ (.bool true)):=az.setCell W ⟨g,v,none⟩ _
 ⟨h.k.only ho hg hl,wQ h.o hv true⟩
theorem Sr.mark(h:Sr w p b off cap x ds r ci ay pt Q g a l c W)(hv:v<x.ni+1)(hg:w.heap.size<=g)(hl:Low w p b r Q pt):Sr w p b off cap x ds r ci ay pt Q g a l (ak c v true) (W.setCell ⟨g,v,none⟩ (.bool true)):=by
 have ho:az g W (W.setCell ⟨g,v,none⟩ (.bool true)):=az.setCell W ⟨g,v,none⟩ _;refine⟨h.s.mark hv hg hl,?_⟩;rcases h.d with h0|⟨q,e,hq,hs,hd⟩
 ·exact .inl h0
 exact .inr ⟨q,e,hq,by rw[ho.size];exact hs,λj e' he=>(ho.cell (p:=⟨q,j*2,none⟩) hq).trans (hd j e' he)⟩
end
def Oy:Value->Nat
 | .bool true=>1
 |_=>0
theorem vA(hx:x.Ok)(kE:∀t,1<=t->t<=x.ni->(x.ino t).kz)(p b off cap:Nat)(ds:Value)(r ci:Nat)(ay pt:Value)(Q:List Im.Pt)(hQ:Sp x Q)(u:Nat->List Nat)(hU:T0 x u)(uq:1<=x.ni)(w:World)(h:xp p b off cap x ds r ci ay pt Q w):
  Calls Tryz.prog 122 #[.pointer (some ⟨p,0,none⟩)] w λe w'=>e= .returned (.bool (aK (x.jt (x.reach u)) (x.ni+1)))/\Below w.heap.size w w':=by
 have hni:x.ni<=256:=eX hx.may;have zM:Hd (∀t,1<=t->t<=x.ni->(x.ino t).kind=2->∀W,xp p b off cap x ds r ci ay pt Q W->Calls Tryz.prog 154 #[.pointer (some ⟨p,0,none⟩),.int .i64 (t:Int)] W λe w'=>T1 W x t e w'):=λt h1 h2 hk W hW=>kR hx kE p b off cap ds r ci ay pt Q hQ.len t h1 h2 (hQ.blk t h1 h2 hk) (hQ.lt t h1 h2 hk) W hW
 have HU:=ah hU;have pX:=ah h.low;have Ug:Hd (∀c:Nat->Bool,uT x u 0 (lG x u x.ni c) c false->aK (x.jt (x.reach u)) (x.ni+1)=aK (λt=> !((x.ino (t+1)).kind==2&& !c (t+1))) x.ni):=λc hm=>Im.UM (λp d hd=>Nat.lt_succ_of_le ((hU.bd p).1 d hd)) uq hU.kd hm.one hm.Pd (hm.cl rfl)
 have c11:w.cell? ⟨p,11,none⟩=some (.slice (some ⟨r,0,none⟩) (x.ni+1) ci):=h.i.k.a.cell (i:=11) rfl;obtain⟨g,hg⟩:=aa w.heap.size;have hmk:(Instr.makeSlice 132 (.int .i64 ((x.ni:Int)+1)) (.int .i64 ((x.ni:Int)+1))).run Tryz.prog w= .ok (.slice (some ⟨g,0,none⟩) (x.ni+1) (x.ni+1)) (w.alloc (.cells (madeCells #[.bool false] ((x.ni+1)*1)) 4)):=by
  rw[hg];exact nC (x.ni+1) (by omega) w
 obtain⟨W1,hW1⟩:=aa (w.alloc (.cells (madeCells #[.bool false] ((x.ni+1)*1)) 4));have hb1:Below w.heap.size w W1:=by rw[hW1];exact ag.alloc af _
 have hr1:aE W1 g 4 1 (x.ni+1) (kH λ_=>false):=by
  rw[hW1,hg];exact(aE.made (m:=1) w #[.bool false] rfl (by omega) (x.ni+1) _)
 have kv:w.heap.size<=g:=by omega
 have lh:Hi w p b off cap x ds r ci ay pt Q g (λ_=>false) W1:=⟨⟨h.below hb1,hb1⟩,hr1⟩;have cM1:=gb lh.o (show 1<x.ni+1 by omega);have fM1:=lh.o.soft 1;have bh:=ah (lh.mark (v:=1) (by omega) kv pX.Z);have PY:Hd (uT x u 0 (lG x u x.ni (ak (λ_=>false) 1 true)) (ak (λ_=>false) 1 true) true):=uT.none uq _;have sV:=ah kv;have UZ:(0:Int)<=(x.ni:Int)+1:=by omega
 have n1:(1:Int)<(x.ni:Int)+1:=by omega
 rw[<-hW1] at hmk;clear h hb1 hr1 hW1 hx hg kv kE hQ hU lh;go_enter Tryz.func122,Tryz.ntmps122;go_wp2_with fail;clear c11 hmk cM1 fM1;go_loopw [4,5,6,7,8] (λv _ _ _ _ wr=>∃(m:Bool) (c:Nat->Bool),v= .bool m/\uT x u 0 (lG x u x.ni c) c m/\Hi w p b off cap x ds r ci ay pt Q g c wr) (λv _ _ _ _ wr=>2*yY wr g (x.ni+1)+Oy v)
 case atStart=>exact⟨true,_,rfl,PY.Z,bh.Z⟩
 clear bh PY;obtain⟨m,c,rfl,hm,st⟩:=hrel;cases m with
 |true=>
  have Mo:=ah hm.start;have HF0:=ah (qt st.o);obtain⟨F0,Xi⟩:=aa (yY wr g (x.ni+1));obtain⟨C0,Og⟩:=aa (aL c (x.ni+1));rw[<-Xi,<-Og] at HF0;rw[<-Og] at Mo;have OY:=ah Xi;have ST:=ah st;clear hm st Xi Og;go_wp2_with fail;go_loopw [4,5,6,7,8] (λv z _ _ _ wr=>∃(k:Nat) (m:Bool) (c:Nat->Bool),k<=x.ni/\v= .bool m/\z= .int .i64 ((k:Int)+1)/\uT x u C0 (lG x u k c) c m/\Hi w p b off cap x ds r ci ay pt Q g c wr) (λ_ z _ _ _ _=>x.ni+1-(intOf z).toNat)
  case atStart=>exact⟨0,false,c,Nat.zero_le _,rfl,rfl,Mo.Z,ST.Z⟩
  clear ST Mo;obtain⟨k,m,c,hk,rfl,rfl,hm,st⟩:=hrel;have HM:=ah hm;have ST:=ah st;have c11:wr.cell? ⟨p,11,none⟩=some (.slice (some ⟨r,0,none⟩) (x.ni+1) ci):=st.k.k.i.k.a.cell (i:=11) rfl;clear hm st
  by_cases hlt:k<x.ni
  ·have hlt':(k:Int)+1<(x.ni:Int)+1:=by omega
   have k0:(0:Int)<=(k:Int)+1:=by omega
   have cK:wr.cell? ⟨r,(k+1)*16,none⟩=some (.int .u8 (x.ino (k+1)).kind):=ST.Z.k.k.i.ino (t:=k+1) (by omega) 0 rfl;have cM:=gb ST.Z.o (show k+1<x.ni+1 by omega)
   by_cases mO:c (k+1)=true/\(x.ino (k+1)).kind=2
   ·obtain⟨hc1,hk2⟩:=mO
    have q0:((x.ino (k+1)).kind !=2)=false:=by simp[hk2]
    rw[hc1] at cM;have IC:=ah (zM.Z (k+1) (by omega) (by omega) hk2);have X4:=ah (HU.Z.sl (k+1) (by omega) (by omega) hk2);have jk:=ah hc1;have HRN:Hd (∀d,d∈u (k+1)->Im.Mg x u d):=λd hd=> .next (k+1) d (HM.Z.Pd _ hc1) hk2 hd
    clear hk2 hc1;generalize (x.ino (k+1)).kind=kd at*;go_wp2_with fail;refine(IC.Z wr ST.Z.k.k).mono ?_;rintro e w1 ⟨hb1,hC⟩;have bh:=ah (ST.Z.below hb1);have Ml:Hd (g<wr.heap.size/\wr.heap.size<=w1.heap.size):=⟨ST.Z.o.lt,hb1.size⟩;obtain⟨l,a,cc,rfl,JN,ho⟩:∃l a c,e= .returned (.tuple #[.slice a l.length c,.bool true])/\u (k+1)=l.map (λe=>e.1)/\w1.ownsRow wr.heap.size 90 2 (.slice a l.length c) l.length (lY l):=by
     obtain⟨l',hl1,hl2⟩:=X4.Z;rcases hC with⟨hs,_⟩|⟨l,a,c,hs,he,ho⟩
     ·rw[hl1] at hs;cases hs
     rw[hl1] at hs;injection hs with hs;subst hs;exact⟨l',a,c,he,hl2,ho⟩
    have bW:Hd (Sr w p b off cap x ds r ci ay pt Q g a l c w1):=⟨bh.Z,by
     by_cases h0:l.length=0
     ·exact .inl h0
     obtain⟨q,cg,hq⟩:=jG ho (by omega);injection hq with hq1 _ _
     subst hq1;have tl:=World.ownsRow.lt ho q rfl;refine .inr ⟨q,rfl,by have:=Ml.Z.1;omega,tl.2,λj e he=> ?_⟩;have k1:=ho.cells (g:=q) rfl _ _ (qe he).1;rw[bA,Nat.zero_add] at k1;exact k1⟩
    have OJ:=ah JN;have Ii:l.length<=600000:=by have:=(HU.Z.bd (k+1)).2;rw[JN,List.length_map] at this;exact this
    have Mr:Hd (∀(j:Nat) (e:Nat×ByteArray),l[j]? =some e->e.1<=x.ni/\e.1∈u (k+1)):=λj e he=>by
     have:e.1∈u (k+1):=by rw[OJ.Z];exact List.mem_map.2 ⟨e,List.mem_of_getElem? he,rfl⟩
     exact⟨(HU.Z.bd (k+1)).1 e.1 this,this⟩
    obtain⟨n,hn⟩:=aa l.length;have HN:=ah hn;rw[<-hn] at Ii ⊢;have zy:=ah (HM.Z.to (P':=lG x u k c/\∀d∈(u (k+1)).take 0,c d=true) λh=>⟨h,λd hd=>by cases hd⟩);clear bh ho JN hC hb1 ST c11 cK cM hn HM;go_wp2_with fail;go_loopw [4,8] (λv z wr=>∃(j:Nat) (m:Bool) (c:Nat->Bool),j<=n/\v= .bool m/\z= .int .i64 (j:Int)/\uT x u C0 (lG x u k c/\∀d∈(u (k+1)).take j,c d=true) c m/\c (k+1)=true/\Sr w p b off cap x ds r ci ay pt Q g a l c wr) (λ_ z _=>n-(intOf z).toNat)
    case atStart=>exact⟨0,m,c,Nat.zero_le _,rfl,rfl,zy.Z,jk.Z,bW.Z⟩
    clear bW zy jk;obtain⟨j,m,c,hj,rfl,rfl,hm,hc1,st⟩:=hrel;have HM:=ah hm;have jk:=ah hc1;have ST:=ah st;clear hm hc1 st
    by_cases hjn:j<n
    ·have Rh:(j:Int)<(n:Int):=by omega
     have j0:(0:Int)<=(j:Int):=by omega
     obtain⟨q,GB,QZ⟩:∃q,a=some ⟨q,0,none⟩/\q≠g/\∀(j:Nat) (e:Nat×ByteArray),l[j]? =some e->wr.cell? ⟨q,j*2,none⟩=some (.int .u32 (e.1:Int)):=by
      rcases ST.Z.d with h|⟨q,e,hq,_,hd⟩
      ·have:=HN.Z;omega
      exact⟨q,e,hq,hd⟩
     subst GB;obtain⟨e,he⟩:∃e,l[j]? =some e:=⟨_,List.getElem?_eq_getElem (by rw[<-HN.Z];exact hjn)⟩;have cD:=QZ.2 j e he;have Rq:=(Mr.Z j e he).1;have HDM:Hd (e.1∈u (k+1)):=(Mr.Z j e he).2;have OK:Hd (∀d',d'∈(u (k+1)).take (j+1)->d'∈(u (k+1)).take j\/d'=e.1):=λd' h'=>by
      have ur:(u (k+1))[j]? =some e.1:=by rw[OJ.Z,List.getElem?_map,he];rfl
      rw[List.take_add_one,ur,List.mem_append] at h';rcases h' with h'|h'
      ·exact .inl h'
      exact .inr (by simpa using h')
     obtain⟨d,hd⟩:=aa e.1;rw[<-hd] at cD Rq HDM OK;have mo:d<x.ni+1:=by omega
     have Gv:(d:Int)<(x.ni:Int)+1:=by omega
     have d0:(0:Int)<=(d:Int):=by omega
     have cM:=gb ST.Z.s.o mo;have fM:=ST.Z.s.o.soft d;have Tf:=ah mo;clear hd he QZ Rq mo;cases nV:c d with
     |true=>
      rw[nV] at cM;have zy:=ah (HM.Z.to (P':=lG x u k c/\∀d∈(u (k+1)).take (j+1),c d=true) λh=>⟨h.1,λd' hd'=>by
       rcases OK.Z d' hd' with h1|h1
       ·exact h.2 d' h1
       rw[h1];exact nV⟩)
      clear nV OK;go_wp2_with fail;go_roundw
      case rel=>(try((repeat apply Exists.intro);refine⟨?_,rfl⟩));exact⟨j+1,m,c,by omega,rfl,by first|rfl|go_num,zy.Z,jk.Z,ST.Z⟩
      simp[intOf]<;>omega
     |false=>
      rw[nV] at cM;have fK:=ah (ST.Z.mark Tf.Z sV.Z pX.Z);have zy:=ah (HM.Z.mark (lG x u k (ak c d true)/\∀d'∈(u (k+1)).take (j+1),ak c d true d'=true) Tf.Z nV (HRN.Z d HDM.Z));have gY:Hd (ak c d true (k+1)=true):=by
       show _=_;unfold ak;split
       ·rfl
       exact jk.Z
      clear nV OK;go_wp2_with fail;go_roundw
      case rel=>(try((repeat apply Exists.intro);refine⟨?_,rfl⟩));exact⟨j+1,true,ak c d true,by omega,rfl,by first|rfl|go_num,zy.Z,gY.Z,fK.Z⟩
      simp[intOf]<;>omega
    obtain rfl:j=n:=by omega
    have zy:=ah (HM.Z.to (P':=lG x u (k+1) c) λh=>h.1.next (by
     have e:(u (k+1)).take j=u (k+1):=by rw[OJ.Z,HN.Z];exact List.take_of_length_le (by rw[List.length_map];exact Nat.le_refl _)
     have:=h.2;rwa[e] at this))
    go_wp2_with fail;go_roundw
    case rel=>(try((repeat apply Exists.intro);refine⟨?_,rfl⟩));exact⟨k+1,m,c,by omega,rfl,by first|rfl|go_num,zy.Z,ST.Z.s⟩
    simp[intOf]<;>omega
   have zy:=ah (HM.Z.to (P':=lG x u (k+1) c) λh=>h.skip mO);obtain⟨C,hC⟩:=aa (c (k+1));obtain⟨D,hD⟩:=aa (((x.ino (k+1)).kind !=2));have P3:Hd (C=true->D=false->False):=λh1 h2=>mO ⟨by rw[<-hC];exact h1,by rw[h2] at hD;simpa using hD.symm⟩
   have q0:=hD.symm;rw[<-hC] at cM;clear mO hC hD;generalize (x.ino (k+1)).kind=kd at*;cases C<;>cases D
   all_goals
    first
    |exact(P3.Z rfl rfl).elim
    |(go_wp2_with fail
      go_roundw
      case rel=>(try((repeat apply Exists.intro);refine⟨?_,rfl⟩));exact⟨k+1,m,c,by omega,rfl,by first|rfl|go_num,zy.Z,ST.Z⟩
      simp[intOf]<;>omega)
  obtain rfl:k=x.ni:=by omega
  have zy:=ah HM.Z.all;have HME:Hd (2*yY wr g (x.ni+1)+Oy (.bool m)<2*F0+Oy (.bool true)):=by
   have h1:=qt ST.Z.o;have h2:=HF0.Z;have h3:=HM.Z.ge;have h4:=HM.Z.gt;show _<2*F0+1;cases m with
   |true=>have:=h4 rfl;show 2*_+1<_;omega
   |false=>show 2*_+0<_;omega
  go_wp2_with fail;go_roundw
  case rel=>(try((repeat apply Exists.intro);refine⟨?_,rfl⟩));exact⟨m,c,rfl,zy.Z,ST.Z⟩
  rw[<-OY.Z];exact HME.Z
 |false=>
  have HRR:=ah (Ug.Z c hm);have ST:=ah st;clear hm st;go_wp2_with fail;go_loopw [9] (λv wr=>∃k:Nat,k<=x.ni/\v= .int .i64 ((k:Int)+1)/\(∀t,t<k->(!((x.ino (t+1)).kind==2&& !c (t+1)))=true)/\Hi w p b off cap x ds r ci ay pt Q g c wr) (λv _=>x.ni+1-(intOf v).toNat)
  case atStart=>exact⟨0,Nat.zero_le _,rfl,λj h=>by omega,ST.Z⟩
  clear ST;obtain⟨k,hk,rfl,hP,st⟩:=hrel;have HP:=ah hP;have ST:=ah st;have c11:wr.cell? ⟨p,11,none⟩=some (.slice (some ⟨r,0,none⟩) (x.ni+1) ci):=st.k.k.i.k.a.cell (i:=11) rfl;clear hP st
  by_cases hlt:k<x.ni
  ·have hlt':(k:Int)+1<(x.ni:Int)+1:=by omega
   have k0:(0:Int)<=(k:Int)+1:=by omega
   have cK:wr.cell? ⟨r,(k+1)*16,none⟩=some (.int .u8 (x.ino (k+1)).kind):=ST.Z.k.k.i.ino (t:=k+1) (by omega) 0 rfl;have cM:=gb ST.Z.o (show k+1<x.ni+1 by omega);have cY:Hd ((!((x.ino (k+1)).kind==2&& !c (k+1)))=false->aK (x.jt (x.reach u)) (x.ni+1)=false):=λh=>by
    rw[HRR.Z];exact bR (p:=λt=> !((x.ino (t+1)).kind==2&& !c (t+1))) hlt h
   have gz:Hd ((!((x.ino (k+1)).kind==2&& !c (k+1)))=true->∀t,t<k+1->(!((x.ino (t+1)).kind==2&& !c (t+1)))=true):=λh j hj=>by
    rcases Nat.lt_succ_iff_lt_or_eq.1 hj with h1|h1
    ·exact HP.Z j h1
    rw[h1];exact h
   obtain⟨C,hC⟩:=aa (c (k+1));obtain⟨D,hD⟩:=aa (((x.ino (k+1)).kind==2));have q0:=hD.symm;rw[<-hC] at cM;rw[<-hC,<-hD] at cY gz;clear hC hD;generalize (x.ino (k+1)).kind=kd at*;cases C<;>cases D
   all_goals
    go_wp2_with fail
    first
    |(go_roundw
      case rel=>(try((repeat apply Exists.intro);refine⟨?_,rfl⟩));exact⟨k+1,by omega,by go_num,gz.Z rfl,ST.Z⟩
      simp[intOf];omega)
    |(go_ret
      exact⟨by rw[cY.Z rfl];rfl,ST.Z.k.bel⟩)
  obtain rfl:k=x.ni:=by omega
  have eW:Hd (aK (x.jt (x.reach u)) (x.ni+1)=true):=by show _=_;rw[HRR.Z];exact(aY (λt=> !((x.ino (t+1)).kind==2&& !c (t+1))) _).2 HP.Z
  go_wp2_with fail;go_ret;exact⟨by rw[eW.Z];rfl,ST.Z.k.bel⟩
structure P7(w:World)(p b off cap:Nat)(x:Im)(db eD dc:Nat)(r ci:Nat)(ay pt:Value)(Q:List Im.Pt)(W:World):Prop where
 k:oq w p b off cap x (.slice (some ⟨db,eD,none⟩) x.g dc) r ci ay pt Q W
 d:aM W db eD 3 x.g (df (rB (x.L 1)) (rI (x.L 1)) (rD (x.L 1)))
structure jR(w:World)(p b off cap:Nat)(x:Im)(db eD dc:Nat)(r ci:Nat)(ay pt:Value)(Q:List Im.Pt)(S q0 q1 G:Nat)(u v n:Int)(W:World):Prop where
 s:P7 w p b off cap x db eD dc r ci ay pt Q W
 a:aE W q0 4 1 2048 (kH (bt (x.L S)))
 c:aE W q1 4 1 2048 (kH (bt (x.L (S+1))))
 g:At W G 67 #[.int .i64 u,.int .i64 v,.int .i64 n]
 h0:q0≠G
 h1:q1≠G
 lo:w.heap.size<=G
section
variable {w:World} {p b off cap:Nat} {x:Im} {db eD dc:Nat} {r ci:Nat} {ay pt:Value} {Q:List Im.Pt} {S q0 q1 G:Nat} {u v n:Int} {W W':World}
theorem P7.below(h:P7 w p b off cap x db eD dc r ci ay pt Q W)(hd:db<w.heap.size)(hb:Below W.heap.size W W'):P7 w p b off cap x db eD dc r ci ay pt Q W':=⟨h.k.below hb,aM.below h.d hb (Nat.lt_of_lt_of_le hd h.k.bel.size)⟩
theorem jR.below(h:jR w p b off cap x db eD dc r ci ay pt Q S q0 q1 G u v n W)(hd:db<w.heap.size)(hb:Below W.heap.size W W'):jR w p b off cap x db eD dc r ci ay pt Q S q0 q1 G u v n W':=
 ⟨h.s.below hd hb,h.a.below hb,h.c.below hb,h.g.below hb h.g.lt,h.h0,h.h1,h.lo⟩
theorem jR.set(h:jR w p b off cap x db eD dc r ci ay pt Q S q0 q1 G u v n W)(hd:db<w.heap.size)(hl:Low w p b r Q pt)(i:Nat)(z:Value){u' v' n':Int}(he:(#[.int .i64 u,.int .i64 v,.int .i64 n]:Array Value).setIfInBounds i z= #[.int .i64 u',.int .i64 v',.int .i64 n']):
  jR w p b off cap x db eD dc r ci ay pt Q S q0 q1 G u' v' n' (W.setCell ⟨G,i,none⟩ z):=by
 have ho:az G W (W.setCell ⟨G,i,none⟩ z):=az.setCell W ⟨G,i,none⟩ z;have hlo:=h.lo;refine⟨⟨h.s.k.only ho hlo hl,aM.only h.s.d ho (by omega)⟩,h.a.only ho h.h0,h.c.only ho h.h1,?_,h.h0,h.h1,hlo⟩;have:=h.g.xO i z;rw[he] at this;exact this
end
theorem vz(hx:x.Ok)(p b off cap:Nat)(db eD dc:Nat)(r ci:Nat)(ay pt:Value)(Q:List Im.Pt)(hk3:∀k,k<x.g->x.qy k=true)(w:World)(TI:db<w.heap.size)(hd:aM w db eD 3 x.g (df (rB (x.L 1)) (rI (x.L 1)) (rD (x.L 1))))
  (h:xp p b off cap x (.slice (some ⟨db,eD,none⟩) x.g dc) r ci ay pt Q w):
  Calls Tryz.prog 123 #[.pointer (some ⟨p,0,none⟩)] w λe w'=>e= .returned (.bool (aK x.js x.g))/\Below w.heap.size w w':=by
 have HX:=ah hx;have hM:=dX hx.may;have PW:=ah hx.may;have hni:x.ni<=256:=eX hx.may;have LL:x.s<=2048:=by omega
 have hg4:x.g<=4:=by omega
 have zH:x.i<=64:=by omega
 have hown:x.own<=x.s:=by unfold Im.own;omega
 have hT:(x.i:Int).tdiv 4=((x.i/4:Nat):Int):=by rw[Int.tdiv_eq_ediv_of_nonneg (by omega)];omega
 obtain⟨T,hTe⟩:=aa (x.i/4);have EF:Hd (x.own=2+T):=by show _=_;unfold Im.own;rw[hTe]
 have hTs:2+T<=x.s:=by have:=EF.Z;omega
 have hT9:T<=16:=by omega
 rw[<-hTe] at hT;have pX:=ah h.low;have Ei:=ah TI;have HK3:=ah hk3;have HOW:=ah hown;have c6:w.cell? ⟨p,6,none⟩=some (.int .i64 (x.g:Int)):=h.i.k.a.cell (i:=6) rfl;have dt:Hd (P7 w p b off cap x db eD dc r ci ay pt Q w):=⟨⟨h,Below.refl _ _⟩,hd⟩;have hzd:=ou;clear h hx hM TI hd hk3 hTe hown;go_enter Tryz.func123,Tryz.ntmps123;go_wp2_with fail;clear c6;go_loopw [3,4,5,6,7,8] (λv _ _ _ _ _ wr=>∃k:Nat,k<=x.g/\v= .int .i64 (k:Int)/\(∀γ,γ<k->x.js γ=true)/\P7 w p b off cap x db eD dc r ci ay pt Q wr) (λv _ _ _ _ _ _=>x.g-(intOf v).toNat)
 case atStart=>exact⟨0,Nat.zero_le _,rfl,λq h=>by omega,dt.Z⟩
 clear dt;obtain⟨k,hk,rfl,hP,st⟩:=hrel;have lW:=ah hP;have ST:=ah st;have c6:wr.cell? ⟨p,6,none⟩=some (.int .i64 (x.g:Int)):=st.k.k.i.k.a.cell (i:=6) rfl;clear hP st
 by_cases hlt:k<x.g
 ·have hlt':(k:Int)<(x.g:Int):=by omega
  have cY:Hd (x.js k=false->aK x.js x.g=false):=λh=>bR hlt h
  have zC:Hd (x.js k=true->∀γ,γ<k+1->x.js γ=true):=λhc γ hγ=>by
   rcases Nat.lt_succ_iff_lt_or_eq.1 hγ with h|h
   ·exact lW.Z γ h
   rw[h];exact hc
  have OW:Hd (x.free k=((aL (λn=> !bt (x.L (x.st k)) (x.own+n)) (x.s-x.own):Nat):Int)):=Im.Kh (HK3.Z k hlt) HOW.Z;have SZ:Hd (x.yT k=((aL (λn=> !bt (x.L (x.st k+1)) n) x.i:Nat):Int)):=Im.GL k;go_wp2_with fail;refine(gq HX.Z p b off cap _ _ ay pt k 0 hlt (by decide) wr ST.Z.k.k.i.k).mono ?_;rintro e w1 ⟨q0,rfl,hq0,RE,hb1⟩;have bh:=ah (ST.Z.below Ei.Z hb1);have SM:Hd (aE w1 q0 4 1 2048 (kH (bt (x.L (x.st k))))):=RE;clear ST c6 hb1 RE hq0;go_wp2_with fail;refine(gq HX.Z p b off cap _ _ ay pt k 1 hlt (by decide) w1 bh.Z.k.k.i.k).mono ?_;rintro e w2 ⟨q1,rfl,hq1,tr,hb2⟩;have bW:=ah (bh.Z.below Ei.Z hb2);have N9:=SM.Z.below hb2;have iy:Hd (jR w p b off cap x db eD dc r ci ay pt Q (x.st k) q0 q1 w2.heap.size 0 0 0 (w2.alloc (.cells #[.int .i64 0,.int .i64 0,.int .i64 0] 67))):=
   ⟨bW.Z.below Ei.Z (ag.alloc af _),N9.below (ag.alloc af _),aE.below tr (ag.alloc af _),At.new _ _ _,Nat.ne_of_lt N9.lt,Nat.ne_of_lt (aE.lt tr),bW.Z.k.bel.size⟩
  have c8:(w2.alloc (.cells #[.int .i64 0,.int .i64 0,.int .i64 0] 67)).cell? ⟨p,8,none⟩=some (.int .i64 (x.i:Int)):=iy.Z.s.k.k.i.k.a.cell (i:=8) rfl;obtain⟨S,hS⟩:=aa (x.st k);rw[<-hS] at iy OW SZ;clear bh bW SM N9 hb2 tr hq1 hS;obtain⟨G,hG⟩:=aa w2.heap.size;rw[<-hG] at iy;go_wp2_with fail;rw[<-hG];clear hG c8;go_loopw [7] (λv wr=>∃J:Nat,2+T<=J/\J<=x.s/\v= .int .i64 (J:Int)/\jR w p b off cap x db eD dc r ci ay pt Q S q0 q1 G ((aL (λn=> !bt (x.L S) (x.own+n)) (J-x.own):Nat):Int) 0 0 wr) (λv _=>x.s-(intOf v).toNat)
  case atStart=>exact⟨2+T,Nat.le_refl _,hTs,int_eq (by omega),by rw[show 2+T-x.own=0 by have:=EF.Z;omega];exact iy.Z⟩
  clear iy;obtain⟨J,hJ1,hJ2,rfl,st⟩:=hrel;have ST:=ah st;have c7:wr.cell? ⟨p,7,none⟩=some (.int .i64 (x.s:Int)):=st.s.k.k.i.k.a.cell (i:=7) rfl;clear st
  by_cases hJ:J<x.s
  ·have hJ':(J:Int)<(x.s:Int):=by omega
   have hJ8:(J:Int)<2048:=by omega
   have J0:(0:Int)<=(J:Int):=by omega
   have cB:=gb ST.Z.a (show J<2048 by omega);obtain⟨cn,hcn⟩:=aa (aL (λn=> !bt (x.L S) (x.own+n)) (J-x.own));have Rt:cn<=2048:=by rw[hcn];have:=iw (λn=> !bt (x.L S) (x.own+n)) (J-x.own);omega
   have pJ:Hd (aL (λn=> !bt (x.L S) (x.own+n)) (J+1-x.own)=cn+(!bt (x.L S) J).toNat):=by
    show _=_;have h1:=EF.Z;rw[show J+1-x.own=(J-x.own)+1 by omega,ek,<-hcn,show x.own+(J-x.own)=J by omega]
   rw[<-hcn] at ST;obtain⟨B,hB⟩:=aa (bt (x.L S) J);rw[<-hB] at cB pJ;have cG0:=ST.Z.g.cell (i:=0) (v:=.int .i64 (cn:Int)) rfl;have fG0:wr.frozen? ⟨G,0,none⟩=false:=an ST.Z.g 0;have cn0:(0:Int)<=(cn:Int):=by omega
   clear hcn hB;cases B with
   |false=>
    have fK:Hd (jR w p b off cap x db eD dc r ci ay pt Q S q0 q1 G ((aL (λn=> !bt (x.L S) (x.own+n)) (J+1-x.own):Nat):Int) 0 0 (wr.setCell ⟨G,0,none⟩ (.int .i64 ((cn:Int)+1)))):=by
     rw[pJ.Z];exact ST.Z.set Ei.Z pX.Z 0 _ rfl
    clear ST pJ;go_wp2_with fail;go_roundw
    case rel=>(try((repeat apply Exists.intro);refine⟨?_,rfl⟩));exact⟨J+1,by omega,by omega,by first|rfl|go_num,fK.Z⟩
    simp[intOf]<;>omega
   |true=>
    have fK:Hd (jR w p b off cap x db eD dc r ci ay pt Q S q0 q1 G ((aL (λn=> !bt (x.L S) (x.own+n)) (J+1-x.own):Nat):Int) 0 0 wr):=by
     rw[pJ.Z];exact ST.Z
    clear ST pJ;go_wp2_with fail;go_roundw
    case rel=>(try((repeat apply Exists.intro);refine⟨?_,rfl⟩));exact⟨J+1,by omega,by omega,by first|rfl|go_num,fK.Z⟩
    simp[intOf]<;>omega
  obtain rfl:J=x.s:=by omega
  obtain⟨F,hF⟩:=aa (((aL (λn=> !bt (x.L S) (x.own+n)) (x.s-x.own):Nat):Int):Int);have HF:Hd (F=x.free k):=hF.trans OW.Z.symm;rw[<-hF] at ST;clear hF OW;go_wp2_with fail;clear c7;go_loopw [8] (λv wr=>∃d:Nat,d<=x.i/\v= .int .i64 (d:Int)/\jR w p b off cap x db eD dc r ci ay pt Q S q0 q1 G F ((aL (λn=> !bt (x.L (S+1)) n) d:Nat):Int) ((aL (λb=>(x.ino (k*x.i+b+1)).kind==2) d:Nat):Int) wr) (λv _=>x.i-(intOf v).toNat)
  case atStart=>exact⟨0,Nat.zero_le _,rfl,ST.Z⟩
  clear ST;obtain⟨d,hd,rfl,st⟩:=hrel;have ST:=ah st;have c8:wr.cell? ⟨p,8,none⟩=some (.int .i64 (x.i:Int)):=st.s.k.k.i.k.a.cell (i:=8) rfl;clear st
  by_cases hdi:d<x.i
  ·have Ww:(d:Int)<(x.i:Int):=by omega
   have d0:(0:Int)<=(d:Int):=by omega
   have hd8:(d:Int)<2048:=by omega
   have cB:=gb ST.Z.c (show d<2048 by omega);have hkn:k*x.i+d+1<x.ni+1:=by
    have h1:=Nat.mul_le_mul_right x.i (show k+1<=x.g from hlt);rw[Nat.succ_mul] at h1;unfold Im.ni;omega
   obtain⟨ce,hce⟩:=aa (aL (λn=> !bt (x.L (S+1)) n) d);have WA:ce<=d:=by rw[hce];exact iw _ _
   have zN:Hd (aL (λn=> !bt (x.L (S+1)) n) (d+1)=ce+(!bt (x.L (S+1)) d).toNat):=by show _=_;rw[ek,<-hce]
   obtain⟨cn,hcn⟩:=aa (aL (λb=>(x.ino (k*x.i+b+1)).kind==2) d);have Rt:cn<=d:=by rw[hcn];exact iw _ _
   obtain⟨t,ht⟩:=aa (k*x.i+d+1);have pJ:Hd (aL (λb=>(x.ino (k*x.i+b+1)).kind==2) (d+1)=cn+((x.ino t).kind==2).toNat):=by show _=_;rw[ek,<-hcn,ht]
   have SQ:Hd (∀W,Calls Tryz.prog 108 #[bV x.g x.s x.i x.j,.int .i64 (k:Int),.int .i64 (d:Int)] W λe w'=>e= .returned (.int .i64 ((t:Nat):Int))/\Below W.heap.size W w'):=λW=>by
    rw[ht,show k*x.i+d+1=1+k*x.i+d by omega];exact jZ x.g x.s x.i x.j k d PW.Z hlt hdi hg4 zH W
   rw[<-ht] at hkn;rw[<-hce,<-hcn] at ST;obtain⟨B,hB⟩:=aa (bt (x.L (S+1)) d);rw[<-hB] at cB zN;clear ht hcn hce hB;have Wc:(t:Int)<(x.ni:Int)+1:=by omega
   have t0:(0:Int)<=(t:Int):=by omega
   obtain⟨kd,fV⟩:=aa ((x.ino t).kind);have Cr:Hd (∀W,oq w p b off cap x (.slice (some ⟨db,eD,none⟩) x.g dc) r ci ay pt Q W->W.cell? ⟨r,t*16,none⟩=some (.int .u8 kd)):=λW h=>by rw[fV];exact h.k.i.ino (t:=t) hkn 0 rfl
   rw[<-fV] at pJ;have Xz:=ST.Z.g.cell (i:=1) (v:=.int .i64 (ce:Int)) rfl;have Xs:wr.frozen? ⟨G,1,none⟩=false:=an ST.Z.g 1;have ce0:(0:Int)<=(ce:Int):=by omega
   have cn0:(0:Int)<=(cn:Int):=by omega
   have WB:ce<=64:=by omega
   have Wz:cn<=64:=by omega
   obtain⟨E,hE⟩:=aa (((aL (λn=> !bt (x.L (S+1)) n) (d+1):Nat):Int):Int);have HE:=ah hE;clear fV hE;cases B
   case' false=>
    have bW:Hd (jR w p b off cap x db eD dc r ci ay pt Q S q0 q1 G F E (cn:Int) (wr.setCell ⟨G,1,none⟩ (.int .i64 ((ce:Int)+1)))):=by
     rw[HE.Z,zN.Z];exact ST.Z.set Ei.Z pX.Z 1 _ rfl
    clear ST;go_wp2_with fail
   case' true=>
    have bW:Hd (jR w p b off cap x db eD dc r ci ay pt Q S q0 q1 G F E (cn:Int) wr):=by
     rw[HE.Z,zN.Z];exact ST.Z
    clear ST;go_wp2_with fail
   all_goals
    clear c8 cB Xz Xs zN ce0 WB WA;refine ar (jR w p b off cap x db eD dc r ci ay pt Q S q0 q1 G F E (cn:Int)) (bW.Z.below Ei.Z ag.drew) ?_;clear bW;intro hne;have Gw:∀z:a9 (jR w p b off cap x db eD dc r ci ay pt Q S q0 q1 G F E (cn:Int)),z.W.cell? ⟨p,11,none⟩=some (.slice (some ⟨r,0,none⟩) (x.ni+1) ci):=λz=>z.h.s.k.k.i.k.a.cell (i:=11) rfl
    have mO:∀z:a9 (jR w p b off cap x db eD dc r ci ay pt Q S q0 q1 G F E (cn:Int)),z.W.cell? ⟨r,t*16,none⟩=some (.int .u8 kd):=λz=>Cr.Z _ z.h.s.k
    repeat go_big_quiet_step (fail)
    refine aO rfl 23 (.tmp 73) rfl p 6 rfl (ai x.g x.s x.i x.j).toList _ (λW h=>h.s.k.k.i.k.lT) Tryz.underlying23 rfl (by kernel_rfl) ?_;refine aj ?_
    repeat go_big_quiet_step (fail)
    go_big_quiet_want
    go_big_quiet_op
    refine⟨_,λs=>aN s (λW hW=>(SQ.Z W).mono λe w' h=>⟨h.1,hW.below Ei.Z h.2⟩),?_⟩
    go_big_quiet_on
    repeat go_big_quiet_step (fail)
    refine wpQuiet_nil ?_;intro w9 GF;have iy:=ah GF.Z;clear GF hne Gw mO;have cG2:=iy.Z.g.cell (i:=2) (v:=.int .i64 (cn:Int)) rfl;have fG2:w9.frozen? ⟨G,2,none⟩=false:=an iy.Z.g 2
    by_cases hk2:kd=2
    ·have q2:(kd==2)=true:=by simp[hk2]
     have fK:Hd (jR w p b off cap x db eD dc r ci ay pt Q S q0 q1 G F ((aL (λn=> !bt (x.L (S+1)) n) (d+1):Nat):Int) ((aL (λb=>(x.ino (k*x.i+b+1)).kind==2) (d+1):Nat):Int) (w9.setCell ⟨G,2,none⟩ (.int .i64 ((cn:Int)+1)))):=by
      rw[pJ.Z,q2,<-HE.Z];exact iy.Z.set Ei.Z pX.Z 2 _ rfl
     clear hk2 iy;go_wp2_with fail;go_roundw
     case rel=>(try((repeat apply Exists.intro);refine⟨?_,rfl⟩));exact⟨d+1,by omega,by first|rfl|go_num,fK.Z⟩
     simp[intOf]<;>omega
    have q2:(kd==2)=false:=by simp[hk2]
    have fK:Hd (jR w p b off cap x db eD dc r ci ay pt Q S q0 q1 G F ((aL (λn=> !bt (x.L (S+1)) n) (d+1):Nat):Int) ((aL (λb=>(x.ino (k*x.i+b+1)).kind==2) (d+1):Nat):Int) w9):=by
     rw[pJ.Z,q2,<-HE.Z];exact iy.Z
    clear hk2 iy;go_wp2_with fail;go_roundw
    case rel=>(try((repeat apply Exists.intro);refine⟨?_,rfl⟩));exact⟨d+1,by omega,by first|rfl|go_num,fK.Z⟩
    simp[intOf]<;>omega
  obtain rfl:d=x.i:=by omega
  obtain⟨E,hE⟩:=aa (((aL (λn=> !bt (x.L (S+1)) n) x.i:Nat):Int):Int);obtain⟨N,hN⟩:=aa (((aL (λb=>(x.ino (k*x.i+b+1)).kind==2) x.i:Nat):Int):Int);have tl:∀W,(binOp .neq 67 (.agg #[.int .i64 (rB (x.L 1) k),.int .i64 (rI (x.L 1) k),.int .i64 (rD (x.L 1) k)]) (.agg #[.int .i64 F,.int .i64 E,.int .i64 N])).run Tryz.prog W= .ok (.bool (!GV (rB (x.L 1) k) (rI (x.L 1) k) (rD (x.L 1) k) F E N)) W:=λW=>vr _ _ _ _ _ _ W
  have iT:Hd (x.js k=GV (rB (x.L 1) k) (rI (x.L 1) k) (rD (x.L 1) k) F E N):=by
   have e1:E=x.yT k:=hE.trans SZ.Z.symm;have e2:N=((x.Qv k:Nat):Int):=hN;show _=_;rw[HF.Z,e1,e2];apply fZ;rw[Kn];unfold Im.js;rw[Bool.and_eq_true,Bool.and_eq_true,beq_iff_eq,beq_iff_eq,beq_iff_eq];constructor<;>(rintro⟨h1,h2,h3⟩;exact⟨h1.symm,h2.symm,h3.symm⟩)
  have k0:(0:Int)<=(k:Int):=by omega
  rw[<-hN,<-hE] at ST;clear hN hE;obtain⟨c,hc⟩:=aa (GV (rB (x.L 1) k) (rI (x.L 1) k) (rD (x.L 1) k) F E N);rw[<-hc] at tl iT;clear hc;go_wp2_with fail;clear c8;refine ar (jR w p b off cap x db eD dc r ci ay pt Q S q0 q1 G F E N) (ST.Z.below Ei.Z ag.drew) ?_;clear ST;intro hne;have NW:∀z:a9 (jR w p b off cap x db eD dc r ci ay pt Q S q0 q1 G F E N),z.W.cell? ⟨p,10,none⟩=some (.slice (some ⟨db,eD,none⟩) x.g dc):=λz=>z.h.s.k.k.i.k.a.cell (i:=10) rfl
  repeat go_big_quiet_step (fail)
  refine aO rfl 67 (.tmp 91) rfl db (eD+k*3) rfl [.int .i64 (rB (x.L 1) k),.int .i64 (rI (x.L 1) k),.int .i64 (rD (x.L 1) k)] _ (λW h=>aM.range h.s.d k hlt) Tryz.underlying67 rfl (by kernel_rfl) ?_;refine aj ?_;refine aO rfl 67 (.tmp 6) rfl G 0 rfl [.int .i64 F,.int .i64 E,.int .i64 N] _ (λW h=>h.g.range) Tryz.underlying67 rfl (by kernel_rfl) ?_;refine aj ?_
  repeat go_big_quiet_step (fail)
  refine wpQuiet_nil ?_;intro w9 GF;have iy:=ah GF.Z;clear GF hne NW tl;cases c with
  |true=>
   have Bp:=ah (zC.Z iT.Z);go_wp2_with fail;go_roundw
   case rel=>(try((repeat apply Exists.intro);refine⟨?_,rfl⟩));exact⟨k+1,by omega,by first|rfl|go_num,Bp.Z,iy.Z.s⟩
   simp[intOf]<;>omega
  |false=>
   go_wp2_with fail;go_ret;exact⟨by rw[cY.Z iT.Z];rfl,iy.Z.s.k.bel⟩
 obtain rfl:k=x.g:=by omega
 have eW:Hd (aK x.js x.g=true):=(aY _ _).2 lW.Z;go_wp2_with fail;go_ret;exact⟨by rw[eW.Z];rfl,ST.Z.k.bel⟩
end Go.Proofs.YtphamecphmbipaaGreatDoor
