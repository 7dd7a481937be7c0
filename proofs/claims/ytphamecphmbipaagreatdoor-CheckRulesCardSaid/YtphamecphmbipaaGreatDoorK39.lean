/- Texts of this claim, merged. -/
import Derived.Test.YtphamecphmbipaaGreatDoorK37
import Derived.Test.YtphamecphmbipaaGreatDoorK38
set_option linter.unusedVariables false
set_option maxRecDepth 100000
set_option maxHeartbeats 16000000

namespace Go.Proofs.YtphamecphmbipaaGreatDoor
open Go.RowKit
open Lib (hid)
variable {x:Im} {C0 k v:Nat} {P:Prop} {m:Bool}
def lr(x:Im)(u:Nat->List Nat)(k:Nat)(c:Nat->Bool):Prop:=∀p,p<=k->c p=true->(x.ino p).kind=2->∀d∈u p,c d=true
structure uF(x:Im)(u:Nat->List Nat)(C0:Nat)(P:Prop)(c:Nat->Bool)(m:Bool):Prop where
 one:c 1=true
 OI:∀p,c p=true->Im.LL x u p
 ge:C0<=aE c (x.ni+1)
 gt:m=true->C0<aE c (x.ni+1)
 cl:m=false->P
theorem uF.to{u:Nat->List Nat}{P':Prop}{c:Nat->Bool}(h:uF x u C0 P c m)(hp:P->P'):uF x u C0 P' c m:=⟨h.one,h.OI,h.ge,h.gt,λe=>hp (h.cl e)⟩
theorem uF.mark{u:Nat->List Nat}{c:Nat->Bool}(h:uF x u C0 P c m)(P':Prop){d:Nat}(hd:d<x.ni+1)(hc:c d=false)(hr:Im.LL x u d):uF x u C0 P' (af c d true) true:=by
 have h1:=fH (p:=c) hd hc;have h2:=h.ge;refine⟨?_,λp hp=> ?_,by omega,λ_=>by omega,λe=>by cases e⟩
 ·unfold af;split
  ·rfl
  exact h.one
 unfold af at hp;split at hp
 ·rename_i e;rw[e];exact hr
 exact h.OI p hp
theorem uF.start{u:Nat->List Nat}{c:Nat->Bool}(h:uF x u C0 P c m):uF x u (aE c (x.ni+1)) (lr x u 0 c) c false:=
 ⟨h.one,h.OI,Nat.le_refl _,(λe=>by cases e),λ_ p hp _ hk=>by have:=(Im.vI (u:=u) hk).1;omega⟩
theorem uF.all{u:Nat->List Nat}{c:Nat->Bool}(h:uF x u C0 P c m):uF x u 0 P c m:=⟨h.one,h.OI,Nat.zero_le _,λe=>by have:=h.gt e;omega,h.cl⟩
theorem uF.none{u:Nat->List Nat}(hn:1<=x.ni)(P:Prop):uF x u 0 P (af (λ_=>false) 1 true) true:=by
 refine⟨rfl,λp hp=> ?_,Nat.zero_le _,λ_=> ?_,λe=>by cases e⟩
 ·unfold af at hp
  split at hp
  ·rename_i e;rw[e];exact .one
  cases hp
 have:=fH (p:=λ_=>false) (n:=x.ni+1) (k:=1) (by omega) rfl;omega
theorem lr.skip{u:Nat->List Nat}{c:Nat->Bool}(h:lr x u k c)(hn:¬(c (k+1)=true/\(x.ino (k+1)).kind=2)):lr x u (k+1) c:=λp hp hc hk=>by
 rcases Nat.lt_succ_iff_lt_or_eq.1 (Nat.lt_succ_of_le hp) with h1|h1
 ·exact h p (by omega) hc hk
 subst h1;exact absurd ⟨hc,hk⟩ hn
theorem lr.next{u:Nat->List Nat}{c:Nat->Bool}(h:lr x u k c)(hn:∀d∈u (k+1),c d=true):lr x u (k+1) c:=λp hp hc hk=>by
 rcases Nat.lt_succ_iff_lt_or_eq.1 (Nat.lt_succ_of_le hp) with h1|h1
 ·exact h p (by omega) hc hk
 subst h1;exact hn
structure GU(w:World)(p b off cap:Nat)(x:Im)(ds:Value)(r ci:Nat)(ak pt:Value)(Q:List Im.Pt)(g:Nat)(c:Nat->Bool)(W:World):Prop where
 k:nX w p b off cap x ds r ci ak pt Q W
 o:az W g 4 1 (x.ni+1) (kr c)
structure RU(w:World)(p b off cap:Nat)(x:Im)(ds:Value)(r ci:Nat)(ak pt:Value)(Q:List Im.Pt)(g:Nat)(a:Option Addr)(l:List (Nat×ByteArray))(c:Nat->Bool)(W:World):Prop where
 s:GU w p b off cap x ds r ci ak pt Q g c W
 d:l.length=0\/∃q,a=some ⟨q,0,none⟩/\q≠g/\q<W.heap.size/\∀(j:Nat) (e:Nat×ByteArray),l[j]? =some e->W.cell? ⟨q,j*2,none⟩=some (.int .u32 (e.1:Int))
section
variable {w:World} {p b off cap:Nat} {x:Im} {ds:Value} {r ci:Nat} {ak pt:Value} {Q:List Im.Pt} {g:Nat} {a:Option Addr} {l:List (Nat×ByteArray)} {c:Nat->Bool} {W W':World}
theorem GU.below(h:GU w p b off cap x ds r ci ak pt Q g c W)(hb:Below W.heap.size W W'):GU w p b off cap x ds r ci ak pt Q g c W':=⟨h.k.below hb,h.o.below hb⟩
theorem GU.mark(h:GU w p b off cap x ds r ci ak pt Q g c W)(hv:v<x.ni+1)(hg:w.heap.size<=g)(hl:Low w p b r Q pt):GU w p b off cap x ds r ci ak pt Q g (af c v true) (W.setCell ⟨g,v,none⟩ (.bool true)):=
 have ho:an g W (W.setCell ⟨g,v,none⟩ (.bool true)):=an.setCell W ⟨g,v,none⟩ _
 ⟨h.k.only ho hg hl,wA h.o hv true⟩
theorem RU.mark(h:RU w p b off cap x ds r ci ak pt Q g a l c W)(hv:v<x.ni+1)(hg:w.heap.size<=g)(hl:Low w p b r Q pt):RU w p b off cap x ds r ci ak pt Q g a l (af c v true) (W.setCell ⟨g,v,none⟩ (.bool true)):=by
 have ho:an g W (W.setCell ⟨g,v,none⟩ (.bool true)):=an.setCell W ⟨g,v,none⟩ _;refine⟨h.s.mark hv hg hl,?_⟩;rcases h.d with h0|⟨q,e,hq,hs,hd⟩
 ·exact .inl h0
 exact .inr ⟨q,e,hq,by rw[ho.size];exact hs,λj e' he=>(ho.cell (p:=⟨q,j*2,none⟩) hq).trans (hd j e' he)⟩
end
def N1:Value->Nat
 | .bool true=>1
 |_=>0
theorem vj(hx:x.Ok)(ko:∀t,1<=t->t<=x.ni->(x.ino t).ki)(p b off cap:Nat)(ds:Value)(r ci:Nat)(ak pt:Value)(Q:List Im.Pt)(hQ:RR x Q)(u:Nat->List Nat)(hU:Tz x u)(tW:1<=x.ni)(w:World)(h:wT p b off cap x ds r ci ak pt Q w):
  Calls Tryz.prog 122 #[.pointer (some ⟨p,0,none⟩)] w λe w'=>e= .returned (.bool (aD (x.jd (x.reach u)) (x.ni+1)))/\Below w.heap.size w w':=by
 have hni:x.ni<=256:=eK hx.may;have zt:Hid (∀t,1<=t->t<=x.ni->(x.ino t).kind=2->∀W,wT p b off cap x ds r ci ak pt Q W->Calls Tryz.prog 154 #[.pointer (some ⟨p,0,none⟩),.int .i64 (t:Int)] W λe w'=>TA W x t e w'):=λt h1 h2 hk W hW=>kI hx ko p b off cap ds r ci ak pt Q hQ.len t h1 h2 (hQ.blk t h1 h2 hk) (hQ.lt t h1 h2 hk) W hW
 have HU:=hid hU;have pH:=hid h.low;have TO:Hid (∀c:Nat->Bool,uF x u 0 (lr x u x.ni c) c false->aD (x.jd (x.reach u)) (x.ni+1)=aD (λt=> !((x.ino (t+1)).kind==2&& !c (t+1))) x.ni):=λc hm=>Im.Ul (λp d hd=>Nat.lt_succ_of_le ((hU.bd p).1 d hd)) tW hU.kd hm.one hm.OI (hm.cl rfl)
 have c11:w.cell? ⟨p,11,none⟩=some (.slice (some ⟨r,0,none⟩) (x.ni+1) ci):=h.i.k.a.cell (i:=11) rfl;obtain⟨g,hg⟩:∃g,g=w.heap.size:=⟨_,rfl⟩;have hmk:(Instr.makeSlice 132 (.int .i64 ((x.ni:Int)+1)) (.int .i64 ((x.ni:Int)+1))).run Tryz.prog w= .ok (.slice (some ⟨g,0,none⟩) (x.ni+1) (x.ni+1)) (w.alloc (.cells (madeCells #[.bool false] ((x.ni+1)*1)) 4)):=by
  rw[hg];exact m9 (x.ni+1) (by omega) w
 obtain⟨W1,hW1⟩:∃W1,W1=w.alloc (.cells (madeCells #[.bool false] ((x.ni+1)*1)) 4):=⟨_,rfl⟩;have hb1:Below w.heap.size w W1:=by rw[hW1];exact(Below.refl _ _).alloc (Nat.le_refl _) _
 have hr1:az W1 g 4 1 (x.ni+1) (kr λ_=>false):=by
  rw[hW1,hg];exact(az.made (m:=1) w #[.bool false] rfl (by omega) (x.ni+1) _)
 have kf:w.heap.size<=g:=by omega
 have kS:GU w p b off cap x ds r ci ak pt Q g (λ_=>false) W1:=⟨⟨h.below hb1,hb1⟩,hr1⟩;have cM1:=fJ kS.o (show 1<x.ni+1 by omega);have fM1:=kS.o.soft 1;have aV:=hid (kS.mark (v:=1) (by omega) kf pH.out);have Ps:Hid (uF x u 0 (lr x u x.ni (af (λ_=>false) 1 true)) (af (λ_=>false) 1 true) true):=uF.none tW _;have sH:=hid kf;have Ux:(0:Int)<=(x.ni:Int)+1:=by omega
 have n1:(1:Int)<(x.ni:Int)+1:=by omega
 rw[<-hW1] at hmk;clear h hb1 hr1 hW1 hx hg kf ko hQ hU kS;go_enter Tryz.func122,Tryz.ntmps122;go_wp2_with fail;clear c11 hmk cM1 fM1;go_loopw [4,5,6,7,8] (λv _ _ _ _ wr=>∃(m:Bool) (c:Nat->Bool),v= .bool m/\uF x u 0 (lr x u x.ni c) c m/\GU w p b off cap x ds r ci ak pt Q g c wr) (λv _ _ _ _ wr=>2*yG wr g (x.ni+1)+N1 v)
 case atStart=>exact⟨true,_,rfl,Ps.out,aV.out⟩
 clear aV Ps;obtain⟨m,c,rfl,hm,st⟩:=hrel;cases m with
 |true=>
  have LV:=hid hm.start;have HF0:=hid (qd st.o);obtain⟨F0,WB⟩:∃F,F=yG wr g (x.ni+1):=⟨_,rfl⟩;obtain⟨C0,NN⟩:∃C,C=aE c (x.ni+1):=⟨_,rfl⟩;rw[<-WB,<-NN] at HF0;rw[<-NN] at LV;have Ot:=hid WB;have ST:=hid st;clear hm st WB NN;go_wp2_with fail;go_loopw [4,5,6,7,8] (λv z _ _ _ wr=>∃(k:Nat) (m:Bool) (c:Nat->Bool),k<=x.ni/\v= .bool m/\z= .int .i64 ((k:Int)+1)/\uF x u C0 (lr x u k c) c m/\GU w p b off cap x ds r ci ak pt Q g c wr) (λ_ z _ _ _ _=>x.ni+1-(intOf z).toNat)
  case atStart=>exact⟨0,false,c,Nat.zero_le _,rfl,rfl,LV.out,ST.out⟩
  clear ST LV;obtain⟨k,m,c,hk,rfl,rfl,hm,st⟩:=hrel;have HM:=hid hm;have ST:=hid st;have c11:wr.cell? ⟨p,11,none⟩=some (.slice (some ⟨r,0,none⟩) (x.ni+1) ci):=st.k.k.i.k.a.cell (i:=11) rfl;clear hm st
  by_cases hlt:k<x.ni
  ·have hlt':(k:Int)+1<(x.ni:Int)+1:=by omega
   have k0:(0:Int)<=(k:Int)+1:=by omega
   have cK:wr.cell? ⟨r,(k+1)*16,none⟩=some (.int .u8 (x.ino (k+1)).kind):=ST.out.k.k.i.ino (t:=k+1) (by omega) 0 rfl;have cM:=fJ ST.out.o (show k+1<x.ni+1 by omega)
   by_cases mE:c (k+1)=true/\(x.ino (k+1)).kind=2
   ·obtain⟨hc1,hk2⟩:=mE
    have q0:((x.ino (k+1)).kind !=2)=false:=by simp[hk2]
    rw[hc1] at cM;have H7:=hid (zt.out (k+1) (by omega) (by omega) hk2);have Xw:=hid (HU.out.sl (k+1) (by omega) (by omega) hk2);have iX:=hid hc1;have HRN:Hid (∀d,d∈u (k+1)->Im.LL x u d):=λd hd=> .next (k+1) d (HM.out.OI _ hc1) hk2 hd
    clear hk2 hc1;generalize (x.ino (k+1)).kind=kd at*;go_wp2_with fail;refine(H7.out wr ST.out.k.k).mono ?_;rintro e w1 ⟨hb1,hC⟩;have aV:=hid (ST.out.below hb1);have LR:Hid (g<wr.heap.size/\wr.heap.size<=w1.heap.size):=⟨ST.out.o.lt,hb1.size⟩;obtain⟨l,a,cc,rfl,Jm,ho⟩:∃l a c,e= .returned (.tuple #[.slice a l.length c,.bool true])/\u (k+1)=l.map (λe=>e.1)/\w1.ownsRow wr.heap.size 90 2 (.slice a l.length c) l.length (lP l):=by
     obtain⟨l',yo,hl2⟩:=Xw.out;rcases hC with⟨hs,_⟩|⟨l,a,c,hs,he,ho⟩
     ·rw[yo] at hs;cases hs
     rw[yo] at hs;injection hs with hs;subst hs;exact⟨l',a,c,he,hl2,ho⟩
    have cf:Hid (RU w p b off cap x ds r ci ak pt Q g a l c w1):=⟨aV.out,by
     by_cases h0:l.length=0
     ·exact .inl h0
     obtain⟨q,cg,hq⟩:=jq ho (by omega);injection hq with hq1 _ _
     subst hq1;have sZ:=World.ownsRow.lt ho q rfl;refine .inr ⟨q,rfl,by have:=LR.out.1;omega,sZ.2,λj e he=> ?_⟩;have k1:=ho.cells (g:=q) rfl _ _ (pM he).1;rw[bh,Nat.zero_add] at k1;exact k1⟩
    have Ob:=hid Jm;have Hi:l.length<=600000:=by have:=(HU.out.bd (k+1)).2;rw[Jm,List.length_map] at this;exact this
    have L2:Hid (∀(j:Nat) (e:Nat×ByteArray),l[j]? =some e->e.1<=x.ni/\e.1∈u (k+1)):=λj e he=>by
     have:e.1∈u (k+1):=by rw[Ob.out];exact List.mem_map.2 ⟨e,List.mem_of_getElem? he,rfl⟩
     exact⟨(HU.out.bd (k+1)).1 e.1 this,this⟩
    obtain⟨n,hn⟩:∃n,n=l.length:=⟨_,rfl⟩;have HN:=hid hn;rw[<-hn] at Hi ⊢;have uG:=hid (HM.out.to (P':=lr x u k c/\∀d∈(u (k+1)).take 0,c d=true) λh=>⟨h,λd hd=>by cases hd⟩);clear aV ho Jm hC hb1 ST c11 cK cM hn HM;go_wp2_with fail;go_loopw [4,8] (λv z wr=>∃(j:Nat) (m:Bool) (c:Nat->Bool),j<=n/\v= .bool m/\z= .int .i64 (j:Int)/\uF x u C0 (lr x u k c/\∀d∈(u (k+1)).take j,c d=true) c m/\c (k+1)=true/\RU w p b off cap x ds r ci ak pt Q g a l c wr) (λ_ z _=>n-(intOf z).toNat)
    case atStart=>exact⟨0,m,c,Nat.zero_le _,rfl,rfl,uG.out,iX.out,cf.out⟩
    clear cf uG iX;obtain⟨j,m,c,hj,rfl,rfl,hm,hc1,st⟩:=hrel;have HM:=hid hm;have iX:=hid hc1;have ST:=hid st;clear hm hc1 st
    by_cases hjn:j<n
    ·have QO:(j:Int)<(n:Int):=by omega
     have j0:(0:Int)<=(j:Int):=by omega
     obtain⟨q,Ge,Qx⟩:∃q,a=some ⟨q,0,none⟩/\q≠g/\∀(j:Nat) (e:Nat×ByteArray),l[j]? =some e->wr.cell? ⟨q,j*2,none⟩=some (.int .u32 (e.1:Int)):=by
      rcases ST.out.d with h|⟨q,e,hq,_,hd⟩
      ·have:=HN.out;omega
      exact⟨q,e,hq,hd⟩
     subst Ge;obtain⟨e,he⟩:∃e,l[j]? =some e:=⟨_,List.getElem?_eq_getElem (by rw[<-HN.out];exact hjn)⟩;have cD:=Qx.2 j e he;have QW:=(L2.out j e he).1;have HDM:Hid (e.1∈u (k+1)):=(L2.out j e he).2;have Oc:Hid (∀d',d'∈(u (k+1)).take (j+1)->d'∈(u (k+1)).take j\/d'=e.1):=λd' h'=>by
      have tX:(u (k+1))[j]? =some e.1:=by rw[Ob.out,List.getElem?_map,he];rfl
      rw[List.take_add_one,tX,List.mem_append] at h';rcases h' with h'|h'
      ·exact .inl h'
      exact .inr (by simpa using h')
     obtain⟨d,hd⟩:∃d,d=e.1:=⟨_,rfl⟩;rw[<-hd] at cD QW HDM Oc;have lY:d<x.ni+1:=by omega
     have F8:(d:Int)<(x.ni:Int)+1:=by omega
     have d0:(0:Int)<=(d:Int):=by omega
     have cM:=fJ ST.out.s.o lY;have fM:=ST.out.s.o.soft d;have SC:=hid lY;clear hd he Qx QW lY;cases rK:c d with
     |true=>
      rw[rK] at cM;have uG:=hid (HM.out.to (P':=lr x u k c/\∀d∈(u (k+1)).take (j+1),c d=true) λh=>⟨h.1,λd' hd'=>by
       rcases Oc.out d' hd' with h1|h1
       ·exact h.2 d' h1
       rw[h1];exact rK⟩)
      clear rK Oc;go_wp2_with fail;go_roundw
      case rel=>(try((repeat apply Exists.intro);refine⟨?_,rfl⟩));exact⟨j+1,m,c,by omega,rfl,by first|rfl|go_num,uG.out,iX.out,ST.out⟩
      simp[intOf]<;>omega
     |false=>
      rw[rK] at cM;have fv:=hid (ST.out.mark SC.out sH.out pH.out);have uG:=hid (HM.out.mark (lr x u k (af c d true)/\∀d'∈(u (k+1)).take (j+1),af c d true d'=true) SC.out rK (HRN.out d HDM.out));have gM:Hid (af c d true (k+1)=true):=by
       show _=_;unfold af;split
       ·rfl
       exact iX.out
      clear rK Oc;go_wp2_with fail;go_roundw
      case rel=>(try((repeat apply Exists.intro);refine⟨?_,rfl⟩));exact⟨j+1,true,af c d true,by omega,rfl,by first|rfl|go_num,uG.out,gM.out,fv.out⟩
      simp[intOf]<;>omega
    obtain rfl:j=n:=by omega
    have uG:=hid (HM.out.to (P':=lr x u (k+1) c) λh=>h.1.next (by
     have e:(u (k+1)).take j=u (k+1):=by rw[Ob.out,HN.out];exact List.take_of_length_le (by rw[List.length_map];exact Nat.le_refl _)
     have:=h.2;rwa[e] at this))
    go_wp2_with fail;go_roundw
    case rel=>(try((repeat apply Exists.intro);refine⟨?_,rfl⟩));exact⟨k+1,m,c,by omega,rfl,by first|rfl|go_num,uG.out,ST.out.s⟩
    simp[intOf]<;>omega
   have uG:=hid (HM.out.to (P':=lr x u (k+1) c) λh=>h.skip mE);obtain⟨C,hC⟩:∃C,C=c (k+1):=⟨_,rfl⟩;obtain⟨D,hD⟩:∃D,D=((x.ino (k+1)).kind !=2):=⟨_,rfl⟩;have HCD:Hid (C=true->D=false->False):=λh1 h2=>mE ⟨by rw[<-hC];exact h1,by rw[h2] at hD;simpa using hD.symm⟩
   have q0:=hD.symm;rw[<-hC] at cM;clear mE hC hD;generalize (x.ino (k+1)).kind=kd at*;cases C<;>cases D
   all_goals
    first
    |exact(HCD.out rfl rfl).elim
    |(go_wp2_with fail
      go_roundw
      case rel=>(try((repeat apply Exists.intro);refine⟨?_,rfl⟩));exact⟨k+1,m,c,by omega,rfl,by first|rfl|go_num,uG.out,ST.out⟩
      simp[intOf]<;>omega)
  obtain rfl:k=x.ni:=by omega
  have uG:=hid HM.out.all;have HME:Hid (2*yG wr g (x.ni+1)+N1 (.bool m)<2*F0+N1 (.bool true)):=by
   have h1:=qd ST.out.o;have h2:=HF0.out;have h3:=HM.out.ge;have h4:=HM.out.gt;show _<2*F0+1;cases m with
   |true=>have:=h4 rfl;show 2*_+1<_;omega
   |false=>show 2*_+0<_;omega
  go_wp2_with fail;go_roundw
  case rel=>(try((repeat apply Exists.intro);refine⟨?_,rfl⟩));exact⟨m,c,rfl,uG.out,ST.out⟩
  rw[<-Ot.out];exact HME.out
 |false=>
  have HRR:=hid (TO.out c hm);have ST:=hid st;clear hm st;go_wp2_with fail;go_loopw [9] (λv wr=>∃k:Nat,k<=x.ni/\v= .int .i64 ((k:Int)+1)/\(∀t,t<k->(!((x.ino (t+1)).kind==2&& !c (t+1)))=true)/\GU w p b off cap x ds r ci ak pt Q g c wr) (λv _=>x.ni+1-(intOf v).toNat)
  case atStart=>exact⟨0,Nat.zero_le _,rfl,λj h=>by omega,ST.out⟩
  clear ST;obtain⟨k,hk,rfl,hP,st⟩:=hrel;have HP:=hid hP;have ST:=hid st;have c11:wr.cell? ⟨p,11,none⟩=some (.slice (some ⟨r,0,none⟩) (x.ni+1) ci):=st.k.k.i.k.a.cell (i:=11) rfl;clear hP st
  by_cases hlt:k<x.ni
  ·have hlt':(k:Int)+1<(x.ni:Int)+1:=by omega
   have k0:(0:Int)<=(k:Int)+1:=by omega
   have cK:wr.cell? ⟨r,(k+1)*16,none⟩=some (.int .u8 (x.ino (k+1)).kind):=ST.out.k.k.i.ino (t:=k+1) (by omega) 0 rfl;have cM:=fJ ST.out.o (show k+1<x.ni+1 by omega);have ct:Hid ((!((x.ino (k+1)).kind==2&& !c (k+1)))=false->aD (x.jd (x.reach u)) (x.ni+1)=false):=λh=>by
    rw[HRR.out];exact bJ (p:=λt=> !((x.ino (t+1)).kind==2&& !c (t+1))) hlt h
   have gi:Hid ((!((x.ino (k+1)).kind==2&& !c (k+1)))=true->∀t,t<k+1->(!((x.ino (t+1)).kind==2&& !c (t+1)))=true):=λh j hj=>by
    rcases Nat.lt_succ_iff_lt_or_eq.1 hj with h1|h1
    ·exact HP.out j h1
    rw[h1];exact h
   obtain⟨C,hC⟩:∃C,C=c (k+1):=⟨_,rfl⟩;obtain⟨D,hD⟩:∃D,D=((x.ino (k+1)).kind==2):=⟨_,rfl⟩;have q0:=hD.symm;rw[<-hC] at cM;rw[<-hC,<-hD] at ct gi;clear hC hD;generalize (x.ino (k+1)).kind=kd at*;cases C<;>cases D
   all_goals
    go_wp2_with fail
    first
    |(go_roundw
      case rel=>(try((repeat apply Exists.intro);refine⟨?_,rfl⟩));exact⟨k+1,by omega,by go_num,gi.out rfl,ST.out⟩
      simp[intOf];omega)
    |(go_ret
      exact⟨by rw[ct.out rfl];rfl,ST.out.k.bel⟩)
  obtain rfl:k=x.ni:=by omega
  have eJ:Hid (aD (x.jd (x.reach u)) (x.ni+1)=true):=by show _=_;rw[HRR.out];exact(aP (λt=> !((x.ino (t+1)).kind==2&& !c (t+1))) _).2 HP.out
  go_wp2_with fail;go_ret;exact⟨by rw[eJ.out];rfl,ST.out.k.bel⟩
structure PD(w:World)(p b off cap:Nat)(x:Im)(db ef dc:Nat)(r ci:Nat)(ak pt:Value)(Q:List Im.Pt)(W:World):Prop where
 k:nX w p b off cap x (.slice (some ⟨db,ef,none⟩) x.g dc) r ci ak pt Q W
 d:aF W db ef 3 x.g (df (rB (x.L 1)) (rI (x.L 1)) (rD (x.L 1)))
structure jC(w:World)(p b off cap:Nat)(x:Im)(db ef dc:Nat)(r ci:Nat)(ak pt:Value)(Q:List Im.Pt)(S q0 q1 G:Nat)(u v n:Int)(W:World):Prop where
 s:PD w p b off cap x db ef dc r ci ak pt Q W
 a:az W q0 4 1 2048 (kr (bt (x.L S)))
 c:az W q1 4 1 2048 (kr (bt (x.L (S+1))))
 g:At W G 67 #[.int .i64 u,.int .i64 v,.int .i64 n]
 h0:q0≠G
 h1:q1≠G
 lo:w.heap.size<=G
section
variable {w:World} {p b off cap:Nat} {x:Im} {db ef dc:Nat} {r ci:Nat} {ak pt:Value} {Q:List Im.Pt} {S q0 q1 G:Nat} {u v n:Int} {W W':World}
theorem PD.below(h:PD w p b off cap x db ef dc r ci ak pt Q W)(hd:db<w.heap.size)(hb:Below W.heap.size W W'):PD w p b off cap x db ef dc r ci ak pt Q W':=⟨h.k.below hb,aF.below h.d hb (Nat.lt_of_lt_of_le hd h.k.bel.size)⟩
theorem jC.below(h:jC w p b off cap x db ef dc r ci ak pt Q S q0 q1 G u v n W)(hd:db<w.heap.size)(hb:Below W.heap.size W W'):jC w p b off cap x db ef dc r ci ak pt Q S q0 q1 G u v n W':=
 ⟨h.s.below hd hb,h.a.below hb,h.c.below hb,h.g.below hb h.g.lt,h.h0,h.h1,h.lo⟩
theorem jC.set(h:jC w p b off cap x db ef dc r ci ak pt Q S q0 q1 G u v n W)(hd:db<w.heap.size)(hl:Low w p b r Q pt)(i:Nat)(z:Value){u' v' n':Int}(he:(#[.int .i64 u,.int .i64 v,.int .i64 n]:Array Value).setIfInBounds i z= #[.int .i64 u',.int .i64 v',.int .i64 n']):
  jC w p b off cap x db ef dc r ci ak pt Q S q0 q1 G u' v' n' (W.setCell ⟨G,i,none⟩ z):=by
 have ho:an G W (W.setCell ⟨G,i,none⟩ z):=an.setCell W ⟨G,i,none⟩ z;have hlo:=h.lo;refine⟨⟨h.s.k.only ho hlo hl,aF.only h.s.d ho (by omega)⟩,h.a.only ho h.h0,h.c.only ho h.h1,?_,h.h0,h.h1,hlo⟩;have:=h.g.xw i z;rw[he] at this;exact this
end
theorem vi(hx:x.Ok)(p b off cap:Nat)(db ef dc:Nat)(r ci:Nat)(ak pt:Value)(Q:List Im.Pt)(hk3:∀k,k<x.g->x.qi k=true)(w:World)(Tf:db<w.heap.size)(hd:aF w db ef 3 x.g (df (rB (x.L 1)) (rI (x.L 1)) (rD (x.L 1))))
  (h:wT p b off cap x (.slice (some ⟨db,ef,none⟩) x.g dc) r ci ak pt Q w):
  Calls Tryz.prog 123 #[.pointer (some ⟨p,0,none⟩)] w λe w'=>e= .returned (.bool (aD x.jc x.g))/\Below w.heap.size w w':=by
 have HX:=hid hx;have hM:=dL hx.may;have Pq:=hid hx.may;have hni:x.ni<=256:=eK hx.may;have Li:x.s<=2048:=by omega
 have hg4:x.g<=4:=by omega
 have zm:x.i<=64:=by omega
 have hown:x.own<=x.s:=by unfold Im.own;omega
 have hT:(x.i:Int).tdiv 4=((x.i/4:Nat):Int):=by rw[Int.tdiv_eq_ediv_of_nonneg (by omega)];omega
 obtain⟨T,hTe⟩:∃T,T=x.i/4:=⟨_,rfl⟩;have En:Hid (x.own=2+T):=by show _=_;unfold Im.own;rw[hTe]
 have hTs:2+T<=x.s:=by have:=En.out;omega
 have hT9:T<=16:=by omega
 rw[<-hTe] at hT;have pH:=hid h.low;have D1:=hid Tf;have HK3:=hid hk3;have HOW:=hid hown;have c6:w.cell? ⟨p,6,none⟩=some (.int .i64 (x.g:Int)):=h.i.k.a.cell (i:=6) rfl;have cX:Hid (PD w p b off cap x db ef dc r ci ak pt Q w):=⟨⟨h,Below.refl _ _⟩,hd⟩;have hzd:=nZ;clear h hx hM Tf hd hk3 hTe hown;go_enter Tryz.func123,Tryz.ntmps123;go_wp2_with fail;clear c6;go_loopw [3,4,5,6,7,8] (λv _ _ _ _ _ wr=>∃k:Nat,k<=x.g/\v= .int .i64 (k:Int)/\(∀γ,γ<k->x.jc γ=true)/\PD w p b off cap x db ef dc r ci ak pt Q wr) (λv _ _ _ _ _ _=>x.g-(intOf v).toNat)
 case atStart=>exact⟨0,Nat.zero_le _,rfl,λq h=>by omega,cX.out⟩
 clear cX;obtain⟨k,hk,rfl,hP,st⟩:=hrel;have lL:=hid hP;have ST:=hid st;have c6:wr.cell? ⟨p,6,none⟩=some (.int .i64 (x.g:Int)):=st.k.k.i.k.a.cell (i:=6) rfl;clear hP st
 by_cases hlt:k<x.g
 ·have hlt':(k:Int)<(x.g:Int):=by omega
  have ct:Hid (x.jc k=false->aD x.jc x.g=false):=λh=>bJ hlt h
  have zh:Hid (x.jc k=true->∀γ,γ<k+1->x.jc γ=true):=λhc γ hγ=>by
   rcases Nat.lt_succ_iff_lt_or_eq.1 hγ with h|h
   ·exact lL.out γ h
   rw[h];exact hc
  have Oo:Hid (x.free k=((aE (λn=> !bt (x.L (x.st k)) (x.own+n)) (x.s-x.own):Nat):Int)):=Im.JR (HK3.out k hlt) HOW.out;have Sw:Hid (x.yB k=((aE (λn=> !bt (x.L (x.st k+1)) n) x.i:Nat):Int)):=Im.Gp k;go_wp2_with fail;refine(fW HX.out p b off cap _ _ ak pt k 0 hlt (by decide) wr ST.out.k.k.i.k).mono ?_;rintro e w1 ⟨q0,rfl,hq0,Q9,hb1⟩;have aV:=hid (ST.out.below D1.out hb1);have Sj:Hid (az w1 q0 4 1 2048 (kr (bt (x.L (x.st k))))):=Q9;clear ST c6 hb1 Q9 hq0;go_wp2_with fail;refine(fW HX.out p b off cap _ _ ak pt k 1 hlt (by decide) w1 aV.out.k.k.i.k).mono ?_;rintro e w2 ⟨q1,rfl,hq1,s6,hb2⟩;have cf:=hid (aV.out.below D1.out hb2);have NH:=Sj.out.below hb2;have gX:Hid (jC w p b off cap x db ef dc r ci ak pt Q (x.st k) q0 q1 w2.heap.size 0 0 0 (w2.alloc (.cells #[.int .i64 0,.int .i64 0,.int .i64 0] 67))):=
   ⟨cf.out.below D1.out ((Below.refl _ _).alloc (Nat.le_refl _) _),NH.below ((Below.refl _ _).alloc (Nat.le_refl _) _),az.below s6 ((Below.refl _ _).alloc (Nat.le_refl _) _),At.new _ _ _,Nat.ne_of_lt NH.lt,Nat.ne_of_lt (az.lt s6),cf.out.k.bel.size⟩
  have c8:(w2.alloc (.cells #[.int .i64 0,.int .i64 0,.int .i64 0] 67)).cell? ⟨p,8,none⟩=some (.int .i64 (x.i:Int)):=gX.out.s.k.k.i.k.a.cell (i:=8) rfl;obtain⟨S,hS⟩:∃S,S=x.st k:=⟨_,rfl⟩;rw[<-hS] at gX Oo Sw;clear aV cf Sj NH hb2 s6 hq1 hS;obtain⟨G,hG⟩:∃G,G=w2.heap.size:=⟨_,rfl⟩;rw[<-hG] at gX;go_wp2_with fail;rw[<-hG];clear hG c8;go_loopw [7] (λv wr=>∃J:Nat,2+T<=J/\J<=x.s/\v= .int .i64 (J:Int)/\jC w p b off cap x db ef dc r ci ak pt Q S q0 q1 G ((aE (λn=> !bt (x.L S) (x.own+n)) (J-x.own):Nat):Int) 0 0 wr) (λv _=>x.s-(intOf v).toNat)
  case atStart=>exact⟨2+T,Nat.le_refl _,hTs,int_eq (by omega),by rw[show 2+T-x.own=0 by have:=En.out;omega];exact gX.out⟩
  clear gX;obtain⟨J,hJ1,hJ2,rfl,st⟩:=hrel;have ST:=hid st;have c7:wr.cell? ⟨p,7,none⟩=some (.int .i64 (x.s:Int)):=st.s.k.k.i.k.a.cell (i:=7) rfl;clear st
  by_cases hJ:J<x.s
  ·have hJ':(J:Int)<(x.s:Int):=by omega
   have hJ8:(J:Int)<2048:=by omega
   have J0:(0:Int)<=(J:Int):=by omega
   have cB:=fJ ST.out.a (show J<2048 by omega);obtain⟨cn,hcn⟩:∃cn,cn=aE (λn=> !bt (x.L S) (x.own+n)) (J-x.own):=⟨_,rfl⟩;have QZ:cn<=2048:=by rw[hcn];have:=gW (λn=> !bt (x.L S) (x.own+n)) (J-x.own);omega
   have pk:Hid (aE (λn=> !bt (x.L S) (x.own+n)) (J+1-x.own)=cn+(!bt (x.L S) J).toNat):=by
    show _=_;have h1:=En.out;rw[show J+1-x.own=(J-x.own)+1 by omega,dU,<-hcn,show x.own+(J-x.own)=J by omega]
   rw[<-hcn] at ST;obtain⟨B,hB⟩:∃B,B=bt (x.L S) J:=⟨_,rfl⟩;rw[<-hB] at cB pk;have cG0:=ST.out.g.cell (i:=0) (v:=.int .i64 (cn:Int)) rfl;have ZY:wr.frozen? ⟨G,0,none⟩=false:=ag ST.out.g 0;have cn0:(0:Int)<=(cn:Int):=by omega
   clear hcn hB;cases B with
   |false=>
    have fv:Hid (jC w p b off cap x db ef dc r ci ak pt Q S q0 q1 G ((aE (λn=> !bt (x.L S) (x.own+n)) (J+1-x.own):Nat):Int) 0 0 (wr.setCell ⟨G,0,none⟩ (.int .i64 ((cn:Int)+1)))):=by
     rw[pk.out];exact ST.out.set D1.out pH.out 0 _ rfl
    clear ST pk;go_wp2_with fail;go_roundw
    case rel=>(try((repeat apply Exists.intro);refine⟨?_,rfl⟩));exact⟨J+1,by omega,by omega,by first|rfl|go_num,fv.out⟩
    simp[intOf]<;>omega
   |true=>
    have fv:Hid (jC w p b off cap x db ef dc r ci ak pt Q S q0 q1 G ((aE (λn=> !bt (x.L S) (x.own+n)) (J+1-x.own):Nat):Int) 0 0 wr):=by
     rw[pk.out];exact ST.out
    clear ST pk;go_wp2_with fail;go_roundw
    case rel=>(try((repeat apply Exists.intro);refine⟨?_,rfl⟩));exact⟨J+1,by omega,by omega,by first|rfl|go_num,fv.out⟩
    simp[intOf]<;>omega
  obtain rfl:J=x.s:=by omega
  obtain⟨F,hF⟩:∃F:Int,F=((aE (λn=> !bt (x.L S) (x.own+n)) (x.s-x.own):Nat):Int):=⟨_,rfl⟩;have HF:Hid (F=x.free k):=hF.trans Oo.out.symm;rw[<-hF] at ST;clear hF Oo;go_wp2_with fail;clear c7;go_loopw [8] (λv wr=>∃d:Nat,d<=x.i/\v= .int .i64 (d:Int)/\jC w p b off cap x db ef dc r ci ak pt Q S q0 q1 G F ((aE (λn=> !bt (x.L (S+1)) n) d:Nat):Int) ((aE (λb=>(x.ino (k*x.i+b+1)).kind==2) d:Nat):Int) wr) (λv _=>x.i-(intOf v).toNat)
  case atStart=>exact⟨0,Nat.zero_le _,rfl,ST.out⟩
  clear ST;obtain⟨d,hd,rfl,st⟩:=hrel;have ST:=hid st;have c8:wr.cell? ⟨p,8,none⟩=some (.int .i64 (x.i:Int)):=st.s.k.k.i.k.a.cell (i:=8) rfl;clear st
  by_cases hdi:d<x.i
  ·have VU:(d:Int)<(x.i:Int):=by omega
   have d0:(0:Int)<=(d:Int):=by omega
   have hd8:(d:Int)<2048:=by omega
   have cB:=fJ ST.out.c (show d<2048 by omega);have hkn:k*x.i+d+1<x.ni+1:=by
    have h1:=Nat.mul_le_mul_right x.i (show k+1<=x.g from hlt);rw[Nat.succ_mul] at h1;unfold Im.ni;omega
   obtain⟨ce,hce⟩:∃ce,ce=aE (λn=> !bt (x.L (S+1)) n) d:=⟨_,rfl⟩;have V0:ce<=d:=by rw[hce];exact gW _ _
   have zu:Hid (aE (λn=> !bt (x.L (S+1)) n) (d+1)=ce+(!bt (x.L (S+1)) d).toNat):=by show _=_;rw[dU,<-hce]
   obtain⟨cn,hcn⟩:∃cn,cn=aE (λb=>(x.ino (k*x.i+b+1)).kind==2) d:=⟨_,rfl⟩;have QZ:cn<=d:=by rw[hcn];exact gW _ _
   obtain⟨t,ht⟩:∃t,t=k*x.i+d+1:=⟨_,rfl⟩;have pk:Hid (aE (λb=>(x.ino (k*x.i+b+1)).kind==2) (d+1)=cn+((x.ino t).kind==2).toNat):=by show _=_;rw[dU,<-hcn,ht]
   have Sn:Hid (∀W,Calls Tryz.prog 108 #[bN x.g x.s x.i x.j,.int .i64 (k:Int),.int .i64 (d:Int)] W λe w'=>e= .returned (.int .i64 ((t:Nat):Int))/\Below W.heap.size W w'):=λW=>by
    rw[ht,show k*x.i+d+1=1+k*x.i+d by omega];exact jN x.g x.s x.i x.j k d Pq.out hlt hdi hg4 zm W
   rw[<-ht] at hkn;rw[<-hce,<-hcn] at ST;obtain⟨B,hB⟩:∃B,B=bt (x.L (S+1)) d:=⟨_,rfl⟩;rw[<-hB] at cB zu;clear ht hcn hce hB;have Vw:(t:Int)<(x.ni:Int)+1:=by omega
   have t0:(0:Int)<=(t:Int):=by omega
   obtain⟨kd,fE⟩:∃kd,kd=(x.ino t).kind:=⟨_,rfl⟩;have Ca:Hid (∀W,nX w p b off cap x (.slice (some ⟨db,ef,none⟩) x.g dc) r ci ak pt Q W->W.cell? ⟨r,t*16,none⟩=some (.int .u8 kd)):=λW h=>by rw[fE];exact h.k.i.ino (t:=t) hkn 0 rfl
   rw[<-fE] at pk;have WT:=ST.out.g.cell (i:=1) (v:=.int .i64 (ce:Int)) rfl;have WM:wr.frozen? ⟨G,1,none⟩=false:=ag ST.out.g 1;have ce0:(0:Int)<=(ce:Int):=by omega
   have cn0:(0:Int)<=(cn:Int):=by omega
   have V1:ce<=64:=by omega
   have VY:cn<=64:=by omega
   obtain⟨E,hE⟩:∃E:Int,E=((aE (λn=> !bt (x.L (S+1)) n) (d+1):Nat):Int):=⟨_,rfl⟩;have HE:=hid hE;clear fE hE;cases B
   case' false=>
    have cf:Hid (jC w p b off cap x db ef dc r ci ak pt Q S q0 q1 G F E (cn:Int) (wr.setCell ⟨G,1,none⟩ (.int .i64 ((ce:Int)+1)))):=by
     rw[HE.out,zu.out];exact ST.out.set D1.out pH.out 1 _ rfl
    clear ST;go_wp2_with fail
   case' true=>
    have cf:Hid (jC w p b off cap x db ef dc r ci ak pt Q S q0 q1 G F E (cn:Int) wr):=by
     rw[HE.out,zu.out];exact ST.out
    clear ST;go_wp2_with fail
   all_goals
    clear c8 cB WT WM zu ce0 V1 V0;refine ai (jC w p b off cap x db ef dc r ci ak pt Q S q0 q1 G F E (cn:Int)) (by kernel_rfl) (by kernel_rfl) (cf.out.below D1.out (Below.refl _ _).drew) ?_;clear cf;intro hne;have F9:∀z:aT (jC w p b off cap x db ef dc r ci ak pt Q S q0 q1 G F E (cn:Int)),z.W.cell? ⟨p,11,none⟩=some (.slice (some ⟨r,0,none⟩) (x.ni+1) ci):=λz=>z.h.s.k.k.i.k.a.cell (i:=11) rfl
    have mE:∀z:aT (jC w p b off cap x db ef dc r ci ak pt Q S q0 q1 G F E (cn:Int)),z.W.cell? ⟨r,t*16,none⟩=some (.int .u8 kd):=λz=>Ca.out _ z.h.s.k
    repeat go_big_quiet_step (fail)
    refine aH rfl 23 (.tmp 73) rfl p 6 rfl (aa x.g x.s x.i x.j).toList _ (λW h=>h.s.k.k.i.k.lH) Tryz.underlying23 rfl (by kernel_rfl) ?_;refine ae ?_
    repeat go_big_quiet_step (fail)
    go_big_quiet_want
    go_big_quiet_op
    refine⟨_,λs=>aG s (λW hW=>(Sn.out W).mono λe w' h=>⟨h.1,hW.below D1.out h.2⟩),?_⟩
    go_big_quiet_on
    repeat go_big_quiet_step (fail)
    refine wpQuiet_nil ?_;intro w9 Gi;have gX:=hid Gi.out;clear Gi hne F9 mE;have cG2:=gX.out.g.cell (i:=2) (v:=.int .i64 (cn:Int)) rfl;have fG2:w9.frozen? ⟨G,2,none⟩=false:=ag gX.out.g 2
    by_cases hk2:kd=2
    ·have q2:(kd==2)=true:=by simp[hk2]
     have fv:Hid (jC w p b off cap x db ef dc r ci ak pt Q S q0 q1 G F ((aE (λn=> !bt (x.L (S+1)) n) (d+1):Nat):Int) ((aE (λb=>(x.ino (k*x.i+b+1)).kind==2) (d+1):Nat):Int) (w9.setCell ⟨G,2,none⟩ (.int .i64 ((cn:Int)+1)))):=by
      rw[pk.out,q2,<-HE.out];exact gX.out.set D1.out pH.out 2 _ rfl
     clear hk2 gX;go_wp2_with fail;go_roundw
     case rel=>(try((repeat apply Exists.intro);refine⟨?_,rfl⟩));exact⟨d+1,by omega,by first|rfl|go_num,fv.out⟩
     simp[intOf]<;>omega
    have q2:(kd==2)=false:=by simp[hk2]
    have fv:Hid (jC w p b off cap x db ef dc r ci ak pt Q S q0 q1 G F ((aE (λn=> !bt (x.L (S+1)) n) (d+1):Nat):Int) ((aE (λb=>(x.ino (k*x.i+b+1)).kind==2) (d+1):Nat):Int) w9):=by
     rw[pk.out,q2,<-HE.out];exact gX.out
    clear hk2 gX;go_wp2_with fail;go_roundw
    case rel=>(try((repeat apply Exists.intro);refine⟨?_,rfl⟩));exact⟨d+1,by omega,by first|rfl|go_num,fv.out⟩
    simp[intOf]<;>omega
  obtain rfl:d=x.i:=by omega
  obtain⟨E,hE⟩:∃E:Int,E=((aE (λn=> !bt (x.L (S+1)) n) x.i:Nat):Int):=⟨_,rfl⟩;obtain⟨N,hN⟩:∃N:Int,N=((aE (λb=>(x.ino (k*x.i+b+1)).kind==2) x.i:Nat):Int):=⟨_,rfl⟩;have sZ:∀W,(binOp .neq 67 (.agg #[.int .i64 (rB (x.L 1) k),.int .i64 (rI (x.L 1) k),.int .i64 (rD (x.L 1) k)]) (.agg #[.int .i64 F,.int .i64 E,.int .i64 N])).run Tryz.prog W= .ok (.bool (!Gw (rB (x.L 1) k) (rI (x.L 1) k) (rD (x.L 1) k) F E N)) W:=λW=>uZ _ _ _ _ _ _ W
  have iE:Hid (x.jc k=Gw (rB (x.L 1) k) (rI (x.L 1) k) (rD (x.L 1) k) F E N):=by
   have e1:E=x.yB k:=hE.trans Sw.out.symm;have e2:N=((x.P3 k:Nat):Int):=hN;show _=_;rw[HF.out,e1,e2];apply fI;rw[JX];unfold Im.jc;rw[Bool.and_eq_true,Bool.and_eq_true,beq_iff_eq,beq_iff_eq,beq_iff_eq];constructor<;>(rintro⟨h1,h2,h3⟩;exact⟨h1.symm,h2.symm,h3.symm⟩)
  have k0:(0:Int)<=(k:Int):=by omega
  rw[<-hN,<-hE] at ST;clear hN hE;obtain⟨c,hc⟩:∃c,c=Gw (rB (x.L 1) k) (rI (x.L 1) k) (rD (x.L 1) k) F E N:=⟨_,rfl⟩;rw[<-hc] at sZ iE;clear hc;go_wp2_with fail;clear c8;refine ai (jC w p b off cap x db ef dc r ci ak pt Q S q0 q1 G F E N) (by kernel_rfl) (by kernel_rfl) (ST.out.below D1.out (Below.refl _ _).drew) ?_;clear ST;intro hne;have Nu:∀z:aT (jC w p b off cap x db ef dc r ci ak pt Q S q0 q1 G F E N),z.W.cell? ⟨p,10,none⟩=some (.slice (some ⟨db,ef,none⟩) x.g dc):=λz=>z.h.s.k.k.i.k.a.cell (i:=10) rfl
  repeat go_big_quiet_step (fail)
  refine aH rfl 67 (.tmp 91) rfl db (ef+k*3) rfl [.int .i64 (rB (x.L 1) k),.int .i64 (rI (x.L 1) k),.int .i64 (rD (x.L 1) k)] _ (λW h=>aF.range h.s.d k hlt) Tryz.underlying67 rfl (by kernel_rfl) ?_;refine ae ?_;refine aH rfl 67 (.tmp 6) rfl G 0 rfl [.int .i64 F,.int .i64 E,.int .i64 N] _ (λW h=>h.g.range) Tryz.underlying67 rfl (by kernel_rfl) ?_;refine ae ?_
  repeat go_big_quiet_step (fail)
  refine wpQuiet_nil ?_;intro w9 Gi;have gX:=hid Gi.out;clear Gi hne Nu sZ;cases c with
  |true=>
   have Ba:=hid (zh.out iE.out);go_wp2_with fail;go_roundw
   case rel=>(try((repeat apply Exists.intro);refine⟨?_,rfl⟩));exact⟨k+1,by omega,by first|rfl|go_num,Ba.out,gX.out.s⟩
   simp[intOf]<;>omega
  |false=>
   go_wp2_with fail;go_ret;exact⟨by rw[ct.out iE.out];rfl,gX.out.s.k.bel⟩
 obtain rfl:k=x.g:=by omega
 have eJ:Hid (aD x.jc x.g=true):=(aP _ _).2 lL.out;go_wp2_with fail;go_ret;exact⟨by rw[eJ.out];rfl,ST.out.k.bel⟩
end Go.Proofs.YtphamecphmbipaaGreatDoor
