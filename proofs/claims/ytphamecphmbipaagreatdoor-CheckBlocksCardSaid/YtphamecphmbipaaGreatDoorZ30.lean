/- Texts of this claim, merged. -/
import Derived.Test.YtphamecphmbipaaGreatDoorZ29
set_option linter.unusedVariables false
namespace Go.Proofs.YtphamecphmbipaaGreatDoor
open Go.RowKit
variable {k t p a d:Nat} {w:World} {x:Im} {l:List (Nat×ByteArray)}
namespace Im
variable {x:Im}
theorem Fa{z:Nat->Int}{r r':List (List UInt8)×List Nat}(h:x.g7 z k r=some r')(hb:∀d∈r.2,d<=x.ni):(∀d∈r'.2,d<=x.ni)/\r'.2.length<=r.2.length+1:=by
 unfold g7 at h;split at h
 ·injection h with h;subst h;exact⟨hb,by omega⟩
 split at h
 ·rename_i hc
  injection h with h;subst h
  refine⟨λd hd=> ?_,by simp⟩;rcases List.mem_append.1 hd with hd|hd
  ·exact hb d hd
  rw[List.mem_singleton.1 hd];exact hc.2.1
 cases h
theorem Kp{r:List (List UInt8)×List Nat}(h:x.iu t=some r):(∀d∈r.2,d<=x.ni)/\r.2.length<=(x.ino t).size.toNat/256*8:=by
 unfold iu at h;refine iC (P:=λk r=>(∀d∈r.2,d<=x.ni)/\r.2.length<=k*8) h ⟨λd hd=>(by cases hd),Nat.le_refl _⟩ λk a b hk ha hb=> ?_
 unfold jN at hb;split at hb
 ·have:=iC (P:=λj r=>(∀d∈r.2,d<=x.ni)/\r.2.length<=a.2.length+j) hb ⟨ha.1,Nat.le_refl _⟩ λj a' b' _ ha' hb'=>by
   have h2:=Fa hb' ha'.1;exact⟨h2.1,by omega⟩
  exact⟨this.1,by omega⟩
 cases hb
theorem B4{u:Nat->List Nat}(hM:∀t,1<=t->t<=x.ni->(x.ino t).kz)(h:x.mR=some u)(t:Nat):(∀d∈u t,d<=x.ni)/\(u t).length<=600000:=by
 refine iC (P:=λ_ u=>∀t,(∀d∈u t,d<=x.ni)/\(u t).length<=600000) h (λ_=>⟨λd hd=>(by cases hd),Nat.zero_le _⟩) (λk a b hk ha hb=> ?_) t;split at hb
 ·cases hd:x.iu (k+1) with
  |none=>rw[hd] at hb;cases hb
  |some r=>
   rw[hd] at hb;injection hb with hb
   subst hb;intro t;show(∀d∈ak a (k+1) r.2 t,d<=x.ni)/\(ak a (k+1) r.2 t).length<=600000
   by_cases e:t=k+1
   ·have h2:=Kp hd
    have h3:=(aS.mK (hM (k+1) (by omega) (by omega))).1;rw[show ak a (k+1) r.2 t=r.2 by unfold ak;rw[if_pos e]];exact⟨h2.1,by omega⟩
   rw[show ak a (k+1) r.2 t=a t by unfold ak;rw[if_neg e]];exact ha t
 injection hb with hb;exact hb▸ha
theorem vR(a b:Nat):(a==b)=((a:Int)==(b:Int)):=by
 rw[Bool.eq_iff_iff,beq_iff_eq,beq_iff_eq];omega
theorem wK{u:Nat->List Nat}(h:∀t,(u t).length<=600000)(t:Nat):∀n,cnt u t n<=n*600000
 |0=>Nat.le_refl _
 |n+1=>by
  have h1:=wK h t n;have h2:(u n).count t<=(u n).length:=List.count_le_length;have h3:=h n;rw[cnt];omega
end Im
structure zE(w:World)(p b off:Nat)(x:Im)(cs:Array Value)(q g:Nat)(c:Nat->Nat)(W:World):Prop where
 s:jz w p b off x cs q W
 o:aE W g 3 1 (x.ni+1) (mG c)
section
variable {w:World} {p b off:Nat} {x:Im} {cs:Array Value} {q g:Nat} {c:Nat->Nat} {W W':World}
theorem zE.below(h:zE w p b off x cs q g c W)(hb:Below W.heap.size W W'):zE w p b off x cs q g c W':=⟨h.s.below hb,h.o.below hb⟩
theorem zE.set(h:zE w p b off x cs q g c W){v:Nat}(hv:v<x.ni+1)(t:Nat)(h1:p≠g)(h2:b≠g)(h3:q≠g)(h4:w.heap.size<=g):zE w p b off x cs q g (ak c v t) (W.setCell ⟨g,v,none⟩ (.int .i64 (t:Int))):=by
 have ho:az g W (W.setCell ⟨g,v,none⟩ (.int .i64 (t:Int))):=az.setCell W ⟨g,v,none⟩ _;refine⟨h.s.only ho h1 h2 h3 h4,?_⟩;have:=h.o.dO (k:=v) (j:=0) hv (by decide) (λi=>rE c i) (.int .i64 (t:Int));rw[Nat.mul_one,Nat.add_zero] at this;refine this.congr λi hi=> ?_
 unfold mG ak
 by_cases e:i=v
 ·rw[if_pos e,if_pos e];rfl
 rw[if_neg e,if_neg e]
end
theorem sU.iU{base ug n:Nat}{u:Nat->List Nat}{cs:Array Value}(h:sU w base ug n u)(hA:At w p 105 cs)(hup:ug≠p):
  ∃(a:Nat->Option Addr) (c:Nat->Nat),∀W,w.grownBy W (some p)->∀t,t<n->W.cell? ⟨ug,t,none⟩=some (.slice (a t) (u t).length (c t))/\cU W (a t) 1 (u t).length (iA (u t)):=by
 obtain⟨a,c,h1,h2⟩:=h;refine⟨a,c,λW hg t ht=>⟨(h1.grown hg (λe=>by injection e with e;exact hup e)).j8 ht rfl,au.row (World.ownsRow.kept (h2 t ht) hg ?_) (ql _)⟩⟩;cases h3:(Value.slice (a t) (u t).length (c t)).ownBlock with
 |none=>exact .inl rfl
 |some r=>exact .inr (λe=>dJ hA (h2 t ht) (by decide) (by rw[h3];exact e))
def oc(w:World)(p b off cap:Nat)(x:Im)(ds ay own un:Value)(q:Nat)(u:Nat->List Nat)(e:Ending)(w':World):Prop:=
 w.grownBy w' (some p)/\pT (aK (λt=>x.gW u (t+1)) x.ni) 10 e/\(aK (λt=>x.gW u (t+1)) x.ni=true->∃sl,At w' p 105 (XC b off cap x ds (.slice (some ⟨q,0,none⟩) (x.ni+1) (x.ni+1)) ay own sl un))
theorem oc.no{b off cap:Nat}{ds ay own un:Value}{q:Nat}{u:Nat->List Nat}{w':World}(h:aK (λt=>x.gW u (t+1)) x.ni=false)(hg:w.grownBy w' (some p)):oc w p b off cap x ds ay own un q u (.panicked (sB 10)) w':=
 ⟨hg,.inr ⟨h,rfl⟩,λe=>by rw[h] at e;cases e⟩
set_option maxRecDepth 100000 in
set_option maxHeartbeats 16000000 in
theorem ze(p b off cap:Nat)(x:Im)(hx:x.Ok)(ds ay own:Value)(q ug base:Nat)(u:Nat->List Nat)(hU:∀t,(∀d∈u t,d<=x.ni)/\(u t).length<=600000)(w:World)(mZ:b≠p)(NF:q≠p)(hup:ug≠p)
  (h:jz w p b off x (XC b off cap x ds (.slice (some ⟨q,0,none⟩) (x.ni+1) (x.ni+1)) ay own (.slice none 0 0) (.slice (some ⟨ug,0,none⟩) (x.ni+1) (x.ni+1))) q w) (hu:sU w base ug (x.ni+1) u):
  Calls Tryz.prog 84 #[.pointer (some ⟨p,0,none⟩)] w λe w'=>oc w p b off cap x ds ay own (.slice (some ⟨ug,0,none⟩) (x.ni+1) (x.ni+1)) q u e w':=by
 have HX:=ah hx;have hni:x.ni<=256:=eX hx.may;have c11:w.cell? ⟨p,11,none⟩=some (.slice (some ⟨q,0,none⟩) (x.ni+1) (x.ni+1)):=h.a.cell (i:=11) rfl;obtain⟨g,hg⟩:=aa w.heap.size;have oR:p≠g:=by rw[hg];exact Nat.ne_of_lt h.a.lt
 have hbg:b≠g:=by rw[hg];exact Nat.ne_of_lt h.bl
 have BT:q≠g:=by rw[hg];exact Nat.ne_of_lt h.r.lt
 have hmk:(Instr.makeSlice 37 (.int .i64 ((x.ni:Int)+1)) (.int .i64 ((x.ni:Int)+1))).run Tryz.prog w= .ok (.slice (some ⟨g,0,none⟩) (x.ni+1) (x.ni+1)) (w.alloc (.cells (madeCells #[.int .i64 0] ((x.ni+1)*1)) 3)):=by
  rw[hg];exact jW (x.ni+1) (by omega) w
 obtain⟨W1,hW1⟩:=aa (w.alloc (.cells (madeCells #[.int .i64 0] ((x.ni+1)*1)) 3));have hb1:Below w.heap.size w W1:=by rw[hW1];exact ag.alloc af _
 have hr1:aE W1 g 3 1 (x.ni+1) (mG λ_=>0):=by
  rw[hW1,hg];exact(aE.made (m:=1) w #[.int .i64 0] rfl (by omega) (x.ni+1) _)
 have h1:=h.below hb1;have bh:Hd (zE w p b off x (XC b off cap x ds (.slice (some ⟨q,0,none⟩) (x.ni+1) (x.ni+1)) ay own (.slice (some ⟨g,0,none⟩) (x.ni+1) (x.ni+1)) (.slice (some ⟨ug,0,none⟩) (x.ni+1) (x.ni+1))) q g (λ_=>0) (W1.setCell ⟨p,14,none⟩ (.slice (some ⟨g,0,none⟩) (x.ni+1) (x.ni+1)))):=
  ⟨h1.I9 14 _ mZ NF,hr1.only (az.setCell W1 ⟨p,14,none⟩ _) (show g≠p fromλe=>oR e.symm)⟩
 have c14:W1.cell? ⟨p,14,none⟩=some (.slice none 0 0):=h1.a.cell (i:=14) rfl;have f14:W1.frozen? ⟨p,14,none⟩=false:=an h1.a 14;have c15:(W1.setCell ⟨p,14,none⟩ (.slice (some ⟨g,0,none⟩) (x.ni+1) (x.ni+1))).cell? ⟨p,15,none⟩=some (.slice (some ⟨ug,0,none⟩) (x.ni+1) (x.ni+1)):=bh.Z.s.a.cell (i:=15) rfl;have kv:w.heap.size<=g:=by omega
 obtain⟨ua,uc,QP⟩:=hu.iU h.a hup;have SA:=ah QP;clear QP;rw[<-hW1] at hmk;obtain⟨cs,hcs⟩:=aa (XC b off cap x ds (.slice (some ⟨q,0,none⟩) (x.ni+1) (x.ni+1)) ay own (.slice (some ⟨g,0,none⟩) (x.ni+1) (x.ni+1)) (.slice (some ⟨ug,0,none⟩) (x.ni+1) (x.ni+1)));have gA:Hd (∀W,At W p 105 cs->W.cell? ⟨p,11,none⟩=some (.slice (some ⟨q,0,none⟩) (x.ni+1) (x.ni+1))/\W.cell? ⟨p,14,none⟩=some (.slice (some ⟨g,0,none⟩) (x.ni+1) (x.ni+1))/\At W p 105 (XC b off cap x ds (.slice (some ⟨q,0,none⟩) (x.ni+1) (x.ni+1)) ay own (.slice (some ⟨g,0,none⟩) (x.ni+1) (x.ni+1)) (.slice (some ⟨ug,0,none⟩) (x.ni+1) (x.ni+1)))):=λW h=>by
  rw[hcs] at h;exact⟨h.cell (i:=11) rfl,h.cell (i:=14) rfl,h⟩
 rw[<-hcs] at bh;have sV:=ah kv;have HU:=ah hU;clear h h1 hb1 hr1 hW1 hx kv hcs hg hu hU;go_enter Tryz.func84,Tryz.ntmps84;go_wp2_with fail;clear c11 hmk c14 f14 c15;go_loopw [21] (λv wr=>∃k:Nat,k<=x.ni+1/\v= .int .i64 (k:Int)/\zE w p b off x cs q g (λt=>Im.cnt u t k) wr) (λv _=>x.ni+1-(intOf v).toNat)
 case atStart=>exact⟨0,Nat.zero_le _,rfl,bh.Z⟩
 clear bh;obtain⟨k,hk,rfl,st⟩:=hrel;have ST:=ah st;clear st
 by_cases hlt:k<x.ni+1
 ·have hlt':(k:Int)<(x.ni:Int)+1:=by omega
  have k0:(0:Int)<=(k:Int):=by omega
  obtain⟨cu,_⟩:=SA.Z _ ST.Z.s.gr k hlt;have hlen:=(HU.Z k).2;obtain⟨n,hn⟩:=aa ((u k).length);have HN:=ah hn;obtain⟨a,ha⟩:=aa (ua k);obtain⟨c,hc⟩:=aa (uc k);have PU:Hd (∀W,w.grownBy W (some p)->cU W a 1 n (iA (u k))):=λW hW=>by rw[ha,hn];exact(SA.Z W hW k hlt).2
  rw[<-hn] at hlen;rw[<-hn,<-ha,<-hc] at cu;clear hn ha hc;go_wp2_with fail;clear cu;go_loopw [27] (λv wr=>∃j:Nat,j<=n/\v= .int .i64 (j:Int)/\zE w p b off x cs q g (λt=>Im.cnt u t k+((u k).take j).count t) wr) (λv _=>n-(intOf v).toNat)
  case atStart=>exact⟨0,Nat.zero_le _,rfl,by simpa using ST.Z⟩
  clear ST;obtain⟨j,hj,rfl,st⟩:=hrel;have ST:=ah st;clear st
  by_cases hjn:j<n
  ·have hj':(j:Int)<(n:Int):=by omega
   have j0:(0:Int)<=(j:Int):=by omega
   obtain⟨b',off',GB,lQ⟩:∃b' off',a=some ⟨b',off',none⟩/\aM wr b' off' 1 n (iA (u k)):=by
    rcases PU.Z _ ST.Z.s.gr with h|h
    ·omega
    exact h
   subst GB;obtain⟨d,hd⟩:=aa ((u k).getD j 0);have cd:wr.cell? ⟨b',off'+j,none⟩=some (.int .i64 (d:Int)):=by
    have:=lQ j hjn 0 (.int .i64 (((u k).getD j 0:Nat):Int)) rfl;rw[<-hd,Nat.mul_one,Nat.add_zero] at this;exact this
   have ur:(u k)[j]? =some d:=by
    rw[hd,List.getD_eq_getElem?_getD,List.getElem?_eq_getElem (by rw[<-HN.Z];exact hjn)];rfl
   have mo:d<=x.ni:=(HU.Z k).1 d (List.mem_of_getElem? ur);have Gv:(d:Int)<(x.ni:Int)+1:=by omega
   have d0:(0:Int)<=(d:Int):=by omega
   obtain⟨cv,hcv⟩:=aa (Im.cnt u d k+((u k).take j).count d);have cC:=ST.Z.o.j8 (show d<x.ni+1 by omega) (v:=.int .i64 (cv:Int)) (by rw[hcv];rfl);have Wx:(cv:Int)<=1000000000:=by
    have h1:=Im.wK (λt=>(HU.Z t).2) d k;have h2:((u k).take j).count d<=((u k).take j).length:=List.count_le_length;have h3:((u k).take j).length<=(u k).length:=by rw[List.length_take];omega
    have h4:=(HU.Z k).2;omega
   have cv0:(0:Int)<=(cv:Int):=by omega
   have fC:=ST.Z.o.soft d;obtain⟨c14,_⟩:=(gA.Z _ ST.Z.s.a).2;have fK:=ST.Z.set (v:=d) (by omega) (cv+1) oR hbg BT sV.Z;rw[show((cv+1:Nat):Int)=(cv:Int)+1 by omega] at fK;have hfun:ak (λt=>Im.cnt u t k+((u k).take j).count t) d (cv+1)=λt=>Im.cnt u t k+((u k).take (j+1)).count t:=by
    funext t
    rw[List.take_add_one,ur,List.count_append];unfold ak
    by_cases e:t=d
    ·subst e;rw[if_pos rfl,hcv];simp;omega
    rw[if_neg e];have:(Option.some d).toList.count t=0:=by simp[List.count_cons];omega
    rw[this];rfl
   rw[hfun] at fK;have fK:=ah fK;clear lQ hd ur hcv hfun;go_wp2_with fail;go_roundw
   case rel=>(try((repeat apply Exists.intro);refine⟨?_,rfl⟩));exact⟨j+1,by omega,by first|rfl|go_num,fK.Z⟩
   simp[intOf]<;>omega
  obtain rfl:j=n:=by omega
  have fK:Hd (zE w p b off x cs q g (λt=>Im.cnt u t (k+1)) wr):=by
   have:=ST.Z;rw[HN.Z,List.take_length] at this;exact this
  go_wp2_with fail;go_roundw
  case rel=>(try((repeat apply Exists.intro);refine⟨?_,rfl⟩));exact⟨k+1,by omega,by first|rfl|go_num,fK.Z⟩
  simp[intOf]<;>omega
 obtain rfl:k=x.ni+1:=by omega
 have HCL:Hd (∀t,Im.cnt u t (x.ni+1)<=257*600000):=λt=>Nat.le_trans (Im.wK (λt=>(HU.Z t).2) t _) (Nat.mul_le_mul_right _ (by omega))
 go_wp2_with fail;go_loopw [6] (λv wr=>∃k:Nat,k<=x.ni/\v= .int .i64 ((k:Int)+1)/\(∀t,t<k->x.gW u (t+1)=true)/\zE w p b off x cs q g (λt=>Im.cnt u t (x.ni+1)) wr) (λv _=>x.ni+1-(intOf v).toNat)
 case atStart=>exact⟨0,Nat.zero_le _,rfl,λt h=>by omega,ST.Z⟩
 clear ST;obtain⟨k,hk,rfl,hP,st⟩:=hrel;have lW:=ah hP;have ST:=ah st;clear hP st;obtain⟨c11,c14,_⟩:=gA.Z _ ST.Z.s.a
 by_cases hlt:k<x.ni
 ·have hlt':(k:Int)+1<(x.ni:Int)+1:=by omega
  have k0:(0:Int)<=(k:Int)+1:=by omega
  have cK:wr.cell? ⟨q,(k+1)*16,none⟩=some (.int .u8 (x.ino (k+1)).kind):=ST.Z.s.ino (t:=k+1) (by omega) 0 rfl;have cL:wr.cell? ⟨q,(k+1)*16+1,none⟩=some (.int .i64 (x.ino (k+1)).aQ):=ST.Z.s.ino (t:=k+1) (by omega) 1 rfl;obtain⟨cv,hcv⟩:=aa (Im.cnt u (k+1) (x.ni+1));have cC:=ST.Z.o.j8 (show k+1<x.ni+1 by omega) (v:=.int .i64 (cv:Int)) (by rw[hcv];rfl);have iT:Hd (x.gW u (k+1)=if k+1=1 then cv==0 else if(x.ino (k+1)).kind=2 then cv==1 else if(x.ino (k+1)).kind=1 then(cv:Int)==(x.ino (k+1)).aQ else true):=by rw[hcv];rfl
  obtain⟨kd,fV⟩:=aa ((x.ino (k+1)).kind);obtain⟨lk,hlk⟩:=aa ((x.ino (k+1)).aQ);rw[<-fV] at cK iT;rw[<-hlk] at cL iT;have cY:Hd (x.gW u (k+1)=false->∀W',w.grownBy W' (some p)->oc w p b off cap x ds ay own (.slice (some ⟨ug,0,none⟩) (x.ni+1) (x.ni+1)) q u (.panicked (sB 10)) W'):=λh W' hg=> .no (bR (p:=λt=>x.gW u (t+1)) hlt h) hg
  have zC:Hd (x.gW u (k+1)=true->∀t,t<k+1->x.gW u (t+1)=true):=λhc t ht=>by
   rcases Nat.lt_succ_iff_lt_or_eq.1 ht with h|h
   ·exact lW.Z t h
   rw[h];exact hc
  have HLK:Hd (∀z:a9 (zE w p b off x cs q g (λt=>Im.cnt u t (x.ni+1))),z.W.cell? ⟨g,k+1,none⟩=some (.int .i64 (cv:Int))/\z.W.cell? ⟨q,(k+1)*16+1,none⟩=some (.int .i64 lk)):=λz=>⟨z.h.o.j8 (by omega) (by rw[hcv];rfl),by rw[hlk];exact z.h.s.ino (t:=k+1) (by omega) 1 rfl⟩
  clear hcv fV hlk
  by_cases hk1:k=0
  ·have q0:((k:Int)+1==1)=true:=by simp;omega
   have gY:Hd (x.gW u (k+1)=((cv:Int)==0)):=by show _=_;rw[iT.Z,if_pos (by omega)];exact Im.vR cv 0
   clear hk1 cK cL;go_wp2_with fail;refine(bJ 10 ((cv:Int)==0) _).mono ?_;rintro e w3 ⟨hS,rfl⟩;rcases hS with⟨hc,rfl⟩|⟨hc,rfl⟩
   rotate_left
   ·exact⟨rfl,cY.Z (gY.Z.trans hc) _ ST.Z.s.gr⟩
   have HF:=ah (zC.Z (gY.Z.trans hc));clear hc;go_wp2_with fail;go_roundw
   case rel=>(try((repeat apply Exists.intro);refine⟨?_,rfl⟩));exact⟨k+1,by omega,by first|rfl|go_num,HF.Z,ST.Z⟩
   simp[intOf]<;>omega
  have q0:((k:Int)+1==1)=false:=by simp;omega
  by_cases hk2:kd=2
  ·have q2:(kd==2)=true:=by simp[hk2]
   have gY:Hd (x.gW u (k+1)=((cv:Int)==1)):=by show _=_;rw[iT.Z,if_neg (by omega),if_pos hk2];exact Im.vR cv 1
   clear hk1 cL hk2;go_wp2_with fail;refine(bJ 10 ((cv:Int)==1) _).mono ?_;rintro e w3 ⟨hS,rfl⟩;rcases hS with⟨hc,rfl⟩|⟨hc,rfl⟩
   rotate_left
   ·exact⟨rfl,cY.Z (gY.Z.trans hc) _ ST.Z.s.gr⟩
   have HF:=ah (zC.Z (gY.Z.trans hc));clear hc;go_wp2_with fail;go_roundw
   case rel=>(try((repeat apply Exists.intro);refine⟨?_,rfl⟩));exact⟨k+1,by omega,by first|rfl|go_num,HF.Z,ST.Z⟩
   simp[intOf]<;>omega
  have q2:(kd==2)=false:=by simp[hk2]
  by_cases hk3:kd=1
  rotate_left
  ·have q3:(kd==1)=false:=by simp[hk3]
   have HF:=ah (zC.Z (by rw[iT.Z,if_neg (by omega),if_neg hk2,if_neg hk3]));clear hk1 cL hk2 hk3;go_wp2_with fail;go_roundw
   case rel=>(try((repeat apply Exists.intro);refine⟨?_,rfl⟩));exact⟨k+1,by omega,by first|rfl|go_num,HF.Z,ST.Z⟩
   simp[intOf]<;>omega
  have q3:(kd==1)=true:=by simp[hk3]
  have gY:Hd (x.gW u (k+1)=((cv:Int)==lk)):=by show _=_;rw[iT.Z,if_neg (by omega),if_neg hk2,if_pos hk3]
  clear hk1 cL hk2 hk3;go_wp2_with fail;refine aG (zE w p b off x cs q g (λt=>Im.cnt u t (x.ni+1))) 16 (by kernel_rfl) (by kernel_rfl) (by kernel_rfl) (by kernel_rfl) (by kernel_rfl) (by decide) (ST.Z.below ag.drew) ?_;clear ST c11 c14;simp only[List.take,List.drop];intro hne;have Gw:∀z:a9 (zE w p b off x cs q g (λt=>Im.cnt u t (x.ni+1))),z.W.cell? ⟨p,11,none⟩=some (.slice (some ⟨q,0,none⟩) (x.ni+1) (x.ni+1)):=λz=>(gA.Z _ z.h.s.a).1
  have WJ:∀z:a9 (zE w p b off x cs q g (λt=>Im.cnt u t (x.ni+1))),z.W.cell? ⟨p,14,none⟩=some (.slice (some ⟨g,0,none⟩) (x.ni+1) (x.ni+1)):=λz=>(gA.Z _ z.h.s.a).2.1
  have NV:∀z:a9 (zE w p b off x cs q g (λt=>Im.cnt u t (x.ni+1))),z.W.cell? ⟨g,k+1,none⟩=some (.int .i64 (cv:Int)):=λz=>(HLK.Z z).1
  have hcl:∀z:a9 (zE w p b off x cs q g (λt=>Im.cnt u t (x.ni+1))),z.W.cell? ⟨q,(k+1)*16+1,none⟩=some (.int .i64 lk):=λz=>(HLK.Z z).2
  repeat go_big_quiet_step (fail)
  refine wpQuiet_nil ?_;intro w6 h6;have jj:=ah h6.Z;clear h6 hne Gw WJ NV hcl;go_wp2_with fail;refine(bJ 10 ((cv:Int)==lk) _).mono ?_;rintro e w3 ⟨hS,rfl⟩;rcases hS with⟨hc,rfl⟩|⟨hc,rfl⟩
  rotate_left
  ·exact⟨rfl,cY.Z (gY.Z.trans hc) _ jj.Z.s.gr⟩
  have HF:=ah (zC.Z (gY.Z.trans hc));clear hc;go_wp2_with fail;go_roundw
  case rel=>(try((repeat apply Exists.intro);refine⟨?_,rfl⟩));exact⟨k+1,by omega,by first|rfl|go_num,HF.Z,jj.Z⟩
  simp[intOf]<;>omega
 obtain rfl:k=x.ni:=by omega
 go_wp2_with fail;refine bodyPost_end (results_none rfl _ _ _) rfl ⟨ST.Z.s.gr,.inl ⟨(aY _ _).2 lW.Z,rfl⟩,λ_=>⟨_,(gA.Z _ ST.Z.s.a).2.2⟩⟩
namespace Im
variable (x:Im)
variable {x}
theorem vV{u:Nat->List Nat}(h:(x.ino t).kind=2):1<=t/\t<=x.ni:=by
 unfold ino at h;split at h
 ·assumption
 exact absurd h (by decide)
theorem yi{u:Nat->List Nat}{S:Nat->Bool}(hS:∀p,S p=true->∀c,c∈u p->(x.ino c).kind=2->S c=true):∀(f:Nat) (c:(Nat->Bool)×List Nat),(∀p,c.1 p=true->S p=true)->(∀p,p∈c.2->S p=true)->∀p,x.oJ u f c p=true->S p=true
 |0,c,h1,h2,p,hp=>h1 p hp
 |f+1,(c,[]),h1,h2,p,hp=>h1 p hp
 |f+1,(c,t::r),h1,h2,p,hp=>by
  rw[oJ] at hp;have key:∀(l:List Nat) (a:(Nat->Bool)×List Nat),(∀q,q∈l->(x.ino q).kind=2->S q=true)->(∀p,a.1 p=true->S p=true)->(∀p,p∈a.2->S p=true)->(∀p,(l.foldl x.eM a).1 p=true->S p=true)/\∀p,p∈(l.foldl x.eM a).2->S p=true:=by
   intro l
   induction l with
   |nil=>intro a _ a1 a2;exact⟨a1,a2⟩
   |cons q l ih=>
    intro a hl a1 a2;rw[List.foldl_cons];refine ih _ (λq' h'=>hl q' (List.mem_cons_of_mem _ h')) ?_ ?_
    ·intro p hp
     unfold eM at hp;split at hp
     ·rename_i hc
      unfold ak at hp;dsimp only at hp;split at hp
      ·rename_i e;exact e▸hl q (List.mem_cons_self ..) hc.1
      exact a1 p hp
     exact a1 p hp
    intro p hp;unfold eM at hp;split at hp
    ·rename_i hc
     rcases List.mem_cons.1 hp with e|h
     ·exact e▸hl q (List.mem_cons_self ..) hc.1
     exact a2 p h
    exact a2 p hp
  obtain⟨k1,k2⟩:=key (u t) (c,r) (λq hq hk=>hS t (h2 t (List.mem_cons_self ..)) q hq hk) h1 λp hp=>h2 p (List.mem_cons_of_mem _ hp)
  exact yi hS f _ k1 k2 p hp
end Im
namespace Im
variable {x:Im}
theorem qx{u:Nat->List Nat}(h:x.mR=some u)(t:Nat):(u t=[]/\(x.ino t).kind≠2)\/(1<=t/\t<=x.ni/\(x.ino t).kind=2/\∃r,x.iu t=some r/\u t=r.2):=by
 have key:=iC (P:=λn (u:Nat->List Nat)=>∀t,(u t=[]/\((x.ino t).kind≠2\/n<t))\/(1<=t/\t<=n/\(x.ino t).kind=2/\∃r,x.iu t=some r/\u t=r.2)) h (λt=>by
  by_cases e:t=0
  ·subst e
   exact .inl ⟨rfl,.inl (by rw[show x.ino 0=aS.nil by unfold ino;rw[if_neg (by omega)]];decide)⟩
  exact .inl ⟨rfl,.inr (by omega)⟩) (λk a b hk ha hb t=> ?_) t
 ·rcases key with⟨h1,h2|h2⟩|h2
  ·exact .inl ⟨h1,h2⟩
  ·refine .inl ⟨h1,?_⟩
   rw[show x.ino t=aS.nil by unfold ino;rw[if_neg (by omega)]];decide
  exact .inr h2
 by_cases hk2:(x.ino (k+1)).kind=2
 ·rw[if_pos hk2] at hb
  cases hd:x.iu (k+1) with
  |none=>rw[hd] at hb;cases hb
  |some r=>
   rw[hd] at hb;injection hb with hb
   subst hb;unfold ak;dsimp only
   by_cases e:t=k+1
   ·rw[if_pos e]
    exact .inr ⟨by omega,by omega,e▸hk2,r,e▸hd,rfl⟩
   rw[if_neg e];rcases ha t with⟨h1,h2|h2⟩|⟨h1,h2,h3⟩
   ·exact .inl ⟨h1,.inl h2⟩
   ·exact .inl ⟨h1,.inr (by omega)⟩
   exact .inr ⟨h1,by omega,h3⟩
 rw[if_neg hk2] at hb;injection hb with hb
 subst hb;rcases ha t with⟨h1,h2|h2⟩|⟨h1,h2,h3⟩
 ·exact .inl ⟨h1,.inl h2⟩
 ·by_cases e:t=k+1
  ·exact .inl ⟨h1,.inl (e▸hk2)⟩
  exact .inl ⟨h1,.inr (by omega)⟩
 exact .inr ⟨h1,by omega,h3⟩
end Im
theorem fZ{a b:Bool}(h:a=true↔b=true):a=b:=by
 cases a<;>cases b<;>simp at h ⊢
namespace Im
variable {x:Im}
def rp(x:Im)(k n:Nat):Bool:=!(((decide (n<x.own)||decide (x.s<=n))&& !bt (x.L (x.st k)) n)||(decide (x.i<=n)&& !bt (x.L (x.st k+1)) n))
theorem rk3(x:Im)(hs:x.own<=2048)(k:Nat):aK (x.rp k) 2048=x.qy k:=by
 apply fZ;unfold qy;rw[Bool.and_eq_true,Bool.and_eq_true,lB,lB,lB,aY];constructor
 ·intro h
  refine⟨λn _ h2=> ?_,λn h1 h2=> ?_,λn h1 h2=> ?_⟩
  ·have:=h n (by omega)
   unfold rp at this;cases hb:bt (x.L (x.st k)) n with
   |true=>rfl
   |false=>rw[hb,decide_eq_true h2] at this;simp at this
  ·have:=h n (by omega)
   unfold rp at this;cases hb:bt (x.L (x.st k)) n with
   |true=>rfl
   |false=>rw[hb,decide_eq_true h1] at this;simp at this
  have:=h n (by omega);unfold rp at this;cases hb:bt (x.L (x.st k+1)) n with
  |true=>rfl
  |false=>rw[hb,decide_eq_true h1] at this;simp at this
 rintro⟨h1,h2,h3⟩ n hn;unfold rp
 by_cases c1:n<x.own
 ·rw[h1 n (Nat.zero_le _) c1]
  by_cases c3:x.i<=n
  ·rw[h3 n c3 hn];simp
  rw[decide_eq_false c3];simp
 rw[decide_eq_false c1]
 by_cases c2:x.s<=n
 ·rw[h2 n c2 hn]
  by_cases c3:x.i<=n
  ·rw[h3 n c3 hn];simp
  rw[decide_eq_false c3];simp
 rw[decide_eq_false c2]
 by_cases c3:x.i<=n
 ·rw[h3 n c3 hn];simp
 rw[decide_eq_false c3];simp
def vD(x:Im)(o:Nat->Nat)(b:Nat):Bool:=!x.data b||(bt (x.L (x.st ((b-(2+x.j))/x.s))) ((b-(2+x.j))%x.s)==(o b !=0))
theorem qT(x:Im)(hd:d<x.s):(x.st k+d-(2+x.j))/x.s=k/\(x.st k+d-(2+x.j))%x.s=d:=by
 unfold st;have e:2+x.j+k*x.s+d-(2+x.j)=d+x.s*k:=by rw[Nat.mul_comm];omega
 rw[e];exact⟨by rw[Nat.add_mul_div_left _ _ (by omega),Nat.div_eq_of_lt hd];omega,by rw[Nat.add_mul_mod_self_left,Nat.mod_eq_of_lt hd]⟩
theorem wJ(hx:x.Ok)(hk:k<x.g)(hd:d<x.s):x.data (x.st k+d)=decide (x.own<=d):=by
 have h1:=hx.st hk hd;unfold data;rw[(x.qT (k:=k) hd).2,decide_eq_true h1,decide_eq_true (show 2+x.j<=x.st k+d by unfold st;omega)]
 rfl
theorem rk8(hx:x.Ok)(o:Nat->Nat):aK (x.vD o) x.n=aK (x.uL o) x.g:=by
 have hs:1<=x.s:=by have:=dX hx.may;omega
 apply fZ;rw[aY,aY];constructor
 ·intro h k hk
  unfold uL;rw[aY];intro d hd;have:=h (x.st k+(x.own+d)) (hx.st hk (by omega));unfold vD at this;rw[wJ hx hk (by omega),(x.qT (k:=k) (show x.own+d<x.s by omega)).1,(x.qT (k:=k) (show x.own+d<x.s by omega)).2,decide_eq_true (show x.own<=x.own+d by omega)] at this;simpa using this
 intro h b hb;unfold vD;cases Pr:x.data b with
 |false=>rfl
 |true=>
  have hd:=Pr;unfold data at hd;rw[Bool.and_eq_true,Bool.and_eq_true,decide_eq_true_eq,decide_eq_true_eq,decide_eq_true_eq] at hd;obtain⟨h1,h2,h3⟩:=hd;have hn:=hx.n;have hk:(b-(2+x.j))/x.s<x.g:=(Nat.div_lt_iff_lt_mul (by omega)).2 (by omega);have hm:(b-(2+x.j))%x.s<x.s:=Nat.mod_lt _ (by omega);have yI:=Nat.div_add_mod (b-(2+x.j)) x.s;have h4:=h _ hk;unfold uL at h4;rw[aY] at h4;have h5:=h4 ((b-(2+x.j))%x.s-x.own) (by omega);rw[show x.own+((b-(2+x.j))%x.s-x.own)=(b-(2+x.j))%x.s by omega] at h5;have e:x.st ((b-(2+x.j))/x.s)+(b-(2+x.j))%x.s=b:=by
   unfold st;rw[Nat.mul_comm] at yI;omega
  rw[e] at h5;simpa using h5
def sP(z:Nat->Int):Nat->List (Nat×ByteArray)
 |0=>[]
 |k+1=>if dI z k=0 then sP z k else sP z k++[((dI z k).toNat,dM z k)]
def I4(x:Im)(t n:Nat):Option (List (Nat×ByteArray)):=a8 (λi l=>if x.blk t i≠0/\iW (x.L (x.blk t i))=true then some (l++sP (x.L (x.blk t i)) 8) else none) n []
def Eo(x:Im)(t:Nat):Option (List (Nat×ByteArray)):=x.I4 t ((x.ino t).size.toNat/256)
def pR(x:Im)(e:Nat×ByteArray)(r:List (List UInt8)×List Nat):Option (List (List UInt8)×List Nat):=if e.2.data.toList∉r.1/\e.1<=x.ni/\(x.ino e.1).kind≠0 then some (r.1++[e.2.data.toList],r.2++[e.1]) else none
def gw(x:Im):List (Nat×ByteArray)->List (List UInt8)×List Nat->Option (List (List UInt8)×List Nat)
 |[],r=>some r
 |e::l,r=>(x.pR e r).bind (gw x l)
theorem lz:∀(a b:List (Nat×ByteArray)) (r:List (List UInt8)×List Nat),x.gw (a++b) r=(x.gw a r).bind (x.gw b)
 |[],b,r=>rfl
 |e::a,b,r=>by
  rw[List.cons_append,gw,gw];cases x.pR e r with
  |none=>rfl
  |some r'=>exact lz a b r'
theorem xM(z:Nat->Int)(r:List (List UInt8)×List Nat):∀k,a8 (x.g7 z) k r=x.gw (sP z k) r
 |0=>rfl
 |k+1=>by
  rw[a8,xM z r k,sP]
  by_cases h:dI z k=0
  ·rw[if_pos h]
   cases x.gw (sP z k) r with
   |none=>rfl
   |some r'=>show x.g7 z k r'=_;unfold g7;rw[if_pos h]
  rw[if_neg h,lz]
  congr 1
  funext r'
  unfold g7;rw[if_neg h];show _=(x.pR _ r').bind _;unfold pR;split<;>rfl
theorem za(t:Nat)(r:List (List UInt8)×List Nat):∀n,a8 (x.jN t) n r=(x.I4 t n).bind λl=>x.gw l r
 |0=>rfl
 |n+1=>by
  rw[a8,za t r n];unfold I4;rw[a8];cases a8 (λi l=>if x.blk t i≠0/\iW (x.L (x.blk t i))=true then some (l++sP (x.L (x.blk t i)) 8) else none) n [] with
  |none=>rfl
  |some l=>
   show(x.gw l r).bind (x.jN t n)=((if x.blk t n≠0/\iW (x.L (x.blk t n))=true then some (l++sP (x.L (x.blk t n)) 8) else none).bind λl=>x.gw l r)
   by_cases hc:x.blk t n≠0/\iW (x.L (x.blk t n))=true
   ·rw[if_pos hc]
    show _=x.gw (l++sP (x.L (x.blk t n)) 8) r;rw[lz]
    congr 1
    funext r'
    unfold jN;rw[if_pos hc,xM]
   rw[if_neg hc];show _=none;cases x.gw l r with
   |none=>rfl
   |some r'=>show x.jN t n r'=none;unfold jN;rw[if_neg hc]
theorem B5(t:Nat):x.iu t=(x.Eo t).bind λl=>x.gw l ([],[]):=za t _ _
theorem uM:∀{l:List (Nat×ByteArray)} {r r':List (List UInt8)×List Nat},x.gw l r=some r'->r'=(r.1++l.map (λe=>e.2.data.toList),r.2++l.map (λe=>e.1))
 |[],r,r',h=>by injection h with h;rw[<-h];simp
 |e::l,r,r',h=>by
  rw[gw] at h;unfold pR at h;split at h
  ·have:=uM (show x.gw l _=some r' from h)
   rw[this];simp
  cases h
theorem D3{e:Nat×ByteArray}(he:l[a]? =some e)(h:x.gw (l.take a) ([],[])=some ((l.take a).map (λe=>e.2.data.toList),(l.take a).map (λe=>e.1))):
  x.gw (l.take (a+1)) ([],[])=x.pR e ((l.take a).map (λe=>e.2.data.toList),(l.take a).map (λe=>e.1)):=by
 rw[List.take_add_one,he,lz,h];show(x.pR e _).bind (x.gw [])=_;cases x.pR e _<;>rfl
theorem Kw(h:x.gw (l.take a) ([],[])=none):x.gw l ([],[])=none:=by
 rw[<-List.take_append_drop a l,lz,h];rfl
def oF(x:Im)(u:Nat->List Nat)(t:Nat):Bool:=!(((x.ino t).kind==1&&(((cnt u t (x.ni+1):Nat):Int) !=(x.ino t).aQ))||((x.ino t).kind==2&&(((cnt u t (x.ni+1):Nat):Int) !=1)))
theorem Cc{u:Nat->List Nat}(h:t≠1):x.gW u t=x.oF u t:=by
 unfold gW oF;rw[if_neg h]
 by_cases h2:(x.ino t).kind=2
 ·rw[if_pos h2,h2]
  apply fZ;simp;omega
 rw[if_neg h2]
 by_cases h1:(x.ino t).kind=1
 ·rw[if_pos h1,h1]
  apply fZ;simp
 rw[if_neg h1];apply fZ;simp[h1,h2]
theorem Fp{u:Nat->List Nat}(hn:1<=x.ni):aK (λt=>x.gW u (t+1)) x.ni=(aK (λt=>x.oF u (t+2)) (x.ni-1)&&((cnt u 1 (x.ni+1):Nat)==0)):=by
 apply fZ;rw[XA,Bool.and_eq_true,aY];constructor
 ·intro h
  refine⟨λk hk=> ?_,?_⟩
  ·rw[<-Cc (by omega)];exact h _ (by omega) (by omega)
  have:=h 1 af hn;unfold gW at this;rwa[if_pos rfl] at this
 rintro⟨h1,h2⟩ t ht1 ht2
 by_cases e:t=1
 ·unfold gW;rw[if_pos e,e];exact h2
 rw[Cc e];have:=h1 (t-2) (by omega);rwa[show t-2+2=t by omega] at this
inductive Mg (x:Im) (u:Nat->List Nat):Nat->Prop where
 |one:Mg x u 1
 |next (p c:Nat) (h:Mg x u p) (hk:(x.ino p).kind=2) (hc:c∈u p):Mg x u c
theorem Ku(l:List Nat):∀(a:(Nat->Bool)×List Nat),(∀c∈l,c<x.ni+1)->
  (∀p,a.1 p=true->(l.foldl x.eM a).1 p=true)/\(∀c∈l,(x.ino c).kind=2->(l.foldl x.eM a).1 c=true)/\(∀p,(l.foldl x.eM a).1 p=true->a.1 p=true\/p∈(l.foldl x.eM a).2)/\(∀p∈a.2,p∈(l.foldl x.eM a).2)/\(aL (l.foldl x.eM a).1 (x.ni+1)+a.2.length=aL a.1 (x.ni+1)+(l.foldl x.eM a).2.length):=by
 induction l with
 |nil=>intro a _;exact⟨λp h=>h,λc h=>(by cases h),λp h=> .inl h,λp h=>h,rfl⟩
 |cons q l ih=>
  intro a hl;rw[List.foldl_cons];obtain⟨i1,i2,i3,i4,i5⟩:=ih (x.eM a q) λc hc=>hl c (List.mem_cons_of_mem _ hc)
  by_cases hc:(x.ino q).kind=2/\a.1 q=false
  ·have e:x.eM a q=(ak a.1 q true,q::a.2):=by unfold eM;rw[if_pos hc]
   rw[e] at i1 i2 i3 i4 i5 ⊢;dsimp only at i1 i2 i3 i4 i5;have hup:∀p,a.1 p=true->ak a.1 q true p=true:=λp hp=>by unfold ak;split<;>first|rfl|exact hp
   refine⟨λp hp=>i1 p (hup p hp),λc hcm hk=> ?_,λp hp=> ?_,λp hp=>i4 p (List.mem_cons_of_mem _ hp),?_⟩
   ·rcases List.mem_cons.1 hcm with rfl|h
    ·exact i1 c (by unfold ak;rw[if_pos rfl])
    exact i2 c h hk
   ·rcases i3 p hp with h|h
    ·unfold ak at h
     split at h
     ·rename_i e;rw[e];exact .inr (i4 q (List.mem_cons_self ..))
     exact .inl h
    exact .inr h
   rw[fY (hl q (List.mem_cons_self ..)) hc.2,List.length_cons] at i5;omega
  have e:x.eM a q=a:=by unfold eM;rw[if_neg hc]
  rw[e] at i1 i2 i3 i4 i5 ⊢;refine⟨i1,λc hcm hk=> ?_,i3,i4,i5⟩;rcases List.mem_cons.1 hcm with rfl|h
  ·refine i1 c ?_
   cases hb:a.1 c with
   |true=>rfl
   |false=>exact absurd ⟨hk,hb⟩ hc
  exact i2 c h hk
theorem ph{u:Nat->List Nat}(hu:∀p,∀c∈u p,c<x.ni+1):∀(f:Nat) (c:Nat->Bool) (st:List Nat),aL c (x.ni+1)+f=x.ni+2+st.length->(∀p,c p=true->p∈st\/∀d∈u p,(x.ino d).kind=2->c d=true)->
  (∀p,c p=true->x.oJ u f (c,st) p=true)/\∀p,x.oJ u f (c,st) p=true->∀d∈u p,(x.ino d).kind=2->x.oJ u f (c,st) d=true
 |0,c,st,h,_=>by have:=eT c (x.ni+1);omega
 |f+1,c,[],h,hi=>⟨λp hp=>hp,λp hp=>(hi p hp).resolve_left (λh=>by cases h)⟩
 |f+1,c,t::r,h,hi=>by
  obtain⟨i1,i2,i3,i4,i5⟩:=Ku (x:=x) (u t) (c,r) (hu t);dsimp only at i1 i3 i4 i5;rw[List.length_cons] at h;obtain⟨c',st',e⟩:∃c' st',(u t).foldl x.eM (c,r)=(c',st'):=⟨_,_,rfl⟩;rw[e] at i1 i2 i3 i4 i5;dsimp only at i1 i2 i3 i4 i5;have hp:x.oJ u (f+1) (c,t::r)=x.oJ u f (c',st'):=by rw[oJ,e]
  rw[hp];obtain⟨k1,k2⟩:=ph hu f c' st' (by omega) λp hp=>by
   rcases i3 p hp with h1|h1
   ·rcases hi p h1 with h2|h2
    ·rcases List.mem_cons.1 h2 with rfl|h3
     ·exact .inr i2
     exact .inl (i4 p h3)
    exact .inr λd hd hk=>i1 d (h2 d hd hk)
   exact .inl h1
  exact⟨λp hp=>k1 p (i1 p hp),k2⟩
theorem vF{u:Nat->List Nat}(hu:∀p,∀c∈u p,c<x.ni+1)(hn:1<=x.ni):x.reach u 1=true/\∀p,x.reach u p=true->∀d∈u p,(x.ino d).kind=2->x.reach u d=true:=by
 have h1:aL (ak (λ_=>false) 1 true) (x.ni+1)=1:=by
  rw[fY (by omega) rfl,uI λk _=>rfl]
 obtain⟨k1,k2⟩:=ph (x:=x) hu (x.ni+2) (ak (λ_=>false) 1 true) [1] (by rw[h1];simp;omega) λp hp=>by
  unfold ak at hp;split at hp
  ·rename_i e;rw[e];exact .inl (by simp)
  cases hp
 exact⟨k1 1 (by unfold ak;rw[if_pos rfl]),k2⟩
theorem Ed{u:Nat->List Nat}(hu:∀p,∀c∈u p,c<x.ni+1)(hn:1<=x.ni)(h:Mg x u t):(x.ino t).kind=2->x.reach u t=true:=by
 obtain⟨h1,h2⟩:=vF hu hn
 induction h with
 |one=>intro _;exact h1
 |next p c _ hk hc ih=>intro hkc;exact h2 p (ih hk) c hc hkc
theorem UM{u:Nat->List Nat}(hu:∀p,∀c∈u p,c<x.ni+1)(hn:1<=x.ni)(hd:∀p,u p≠[]->(x.ino p).kind=2){c:Nat->Bool}(h1:c 1=true)(hs:∀p,c p=true->Mg x u p)(hcl:∀p,p<=x.ni->c p=true->(x.ino p).kind=2->∀d∈u p,c d=true):
  aK (x.jt (x.reach u)) (x.ni+1)=aK (λt=> !((x.ino (t+1)).kind==2&& !c (t+1))) x.ni:=by
 have key:∀t,(x.ino t).kind=2->x.reach u t=c t:=λt hk=>by
  apply fZ;constructor
  ·intro h
   unfold reach at h;refine yi (S:=c) (λp hp d yI fV=> ?_) _ _ (λq hq=> ?_) (λq hq=> ?_) t h
   ·have Zo:=hd p (λe=>by rw[e] at yI;cases yI)
    exact hcl p (vV (u:=u) Zo).2 hp Zo d yI
   ·unfold ak at hq
    dsimp only at hq;split at hq
    ·rename_i e;rw[e];exact h1
    cases hq
   simp at hq;rw[hq];exact h1
  intro h;exact Ed hu hn (hs t h) hk
 apply fZ;rw[aY,aY];constructor
 ·intro h t ht
  have:=h (t+1) (by omega);unfold jt at this
  by_cases hk:(x.ino (t+1)).kind=2
  ·rw[key _ hk,hk] at this
   simp at this;rw[this];simp
  simp[hk]
 intro h t ht;unfold jt
 by_cases hk:(x.ino t).kind=2
 ·rw[key _ hk,hk]
  have h1:=(vV (u:=u) hk).1;have:=h (t-1) (by omega);rw[show t-1+1=t by omega,hk] at this;simpa using this
 simp[hk]
theorem Kh(hk3:x.qy k=true)(hs:x.own<=x.s):x.free k=((aL (λn=> !bt (x.L (x.st k)) (x.own+n)) (x.s-x.own):Nat):Int):=by
 unfold free;have h1:=zb (bt (x.L (x.st k))) x.own (x.s-x.own);have h2:=n7 (λn=>bt (x.L (x.st k)) (x.own+n)) (x.s-x.own);have h3:aL (bt (x.L (x.st k))) x.own=x.own:=by
  refine ly af λn hn=> ?_
  unfold qy at hk3;rw[Bool.and_eq_true,lB] at hk3;rw[hk3.1 n (Nat.zero_le _) hn,decide_eq_true hn]
 rw[show x.own+(x.s-x.own)=x.s by omega] at h1;omega
theorem GL(k:Nat):x.yT k=((aL (λn=> !bt (x.L (x.st k+1)) n) x.i:Nat):Int):=by
 unfold yT;have:=n7 (bt (x.L (x.st k+1))) x.i;omega
end Im
end Go.Proofs.YtphamecphmbipaaGreatDoor
