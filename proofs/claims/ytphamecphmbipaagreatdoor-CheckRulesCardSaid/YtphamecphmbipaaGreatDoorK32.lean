/- Texts of this claim, merged. -/
import Derived.Test.YtphamecphmbipaaGreatDoorK31
import Derived.Test.YtphamecphmbipaaGreatDoorK20
set_option linter.unusedVariables false
namespace Go.Proofs.YtphamecphmbipaaGreatDoor
open Go.RowKit
open Lib (hid)
variable {k t p a d:Nat} {w:World} {x:Im} {l:List (Nat×ByteArray)}
namespace Im
variable {x:Im}
theorem EO{z:Nat->Int}{r r':List (List UInt8)×List Nat}(h:x.gO z k r=some r')(hb:∀d∈r.2,d<=x.ni):(∀d∈r'.2,d<=x.ni)/\r'.2.length<=r.2.length+1:=by
 unfold gO at h;split at h
 ·injection h with h;subst h;exact⟨hb,by omega⟩
 split at h
 ·rename_i hc
  injection h with h;subst h
  refine⟨λd hd=> ?_,by simp⟩;rcases List.mem_append.1 hd with hd|hd
  ·exact hb d hd
  ·rw[List.mem_singleton.1 hd];exact hc.2.1
 ·cases h
theorem JZ{r:List (List UInt8)×List Nat}(h:x.gV t=some r):(∀d∈r.2,d<=x.ni)/\r.2.length<=(x.ino t).size.toNat/256*8:=by
 unfold gV at h;refine g9 (P:=λk r=>(∀d∈r.2,d<=x.ni)/\r.2.length<=k*8) h ⟨λd hd=>(by cases hd),Nat.le_refl _⟩ λk a b hk ha hb=> ?_
 unfold jy at hb;split at hb
 ·have:=g9 (P:=λj r=>(∀d∈r.2,d<=x.ni)/\r.2.length<=a.2.length+j) hb ⟨ha.1,Nat.le_refl _⟩ λj a' b' _ ha' hb'=>by
   have h2:=EO hb' ha'.1;exact⟨h2.1,by omega⟩
  exact⟨this.1,by omega⟩
 ·cases hb
theorem BO{u:Nat->List Nat}(hM:∀t,1<=t->t<=x.ni->(x.ino t).ki)(h:x.mI=some u)(t:Nat):(∀d∈u t,d<=x.ni)/\(u t).length<=600000:=by
 refine g9 (P:=λ_ u=>∀t,(∀d∈u t,d<=x.ni)/\(u t).length<=600000) h (λ_=>⟨λd hd=>(by cases hd),Nat.zero_le _⟩) (λk a b hk ha hb=> ?_) t;split at hb
 ·cases hd:x.gV (k+1) with
  |none=>rw[hd] at hb;cases hb
  |some r=>
   rw[hd] at hb;injection hb with hb
   subst hb;intro t;show(∀d∈af a (k+1) r.2 t,d<=x.ni)/\(af a (k+1) r.2 t).length<=600000
   by_cases e:t=k+1
   ·have h2:=JZ hd
    have h3:=(aK.mA (hM (k+1) (by omega) (by omega))).1;rw[show af a (k+1) r.2 t=r.2 by unfold af;rw[if_pos e]];exact⟨h2.1,by omega⟩
   ·rw[show af a (k+1) r.2 t=a t by unfold af;rw[if_neg e]]
    exact ha t
 ·injection hb with hb;exact hb▸ha
theorem vE(a b:Nat):(a==b)=((a:Int)==(b:Int)):=by
 rw[Bool.eq_iff_iff,beq_iff_eq,beq_iff_eq];omega
theorem wk{u:Nat->List Nat}(h:∀t,(u t).length<=600000)(t:Nat):∀n,cnt u t n<=n*600000
 |0=>Nat.le_refl _
 |n+1=>by
  have h1:=wk h t n;have h2:(u n).count t<=(u n).length:=List.count_le_length;have h3:=h n;rw[cnt];omega
end Im
structure zj(w:World)(p b off:Nat)(x:Im)(cs:Array Value)(q g:Nat)(c:Nat->Nat)(W:World):Prop where
 s:ji w p b off x cs q W
 o:az W g 3 1 (x.ni+1) (mw c)
section
variable {w:World} {p b off:Nat} {x:Im} {cs:Array Value} {q g:Nat} {c:Nat->Nat} {W W':World}
theorem zj.below(h:zj w p b off x cs q g c W)(hb:Below W.heap.size W W'):zj w p b off x cs q g c W':=⟨h.s.below hb,h.o.below hb⟩
theorem zj.set(h:zj w p b off x cs q g c W){v:Nat}(hv:v<x.ni+1)(t:Nat)(h1:p≠g)(h2:b≠g)(h3:q≠g)(h4:w.heap.size<=g):zj w p b off x cs q g (af c v t) (W.setCell ⟨g,v,none⟩ (.int .i64 (t:Int))):=by
 have ho:an g W (W.setCell ⟨g,v,none⟩ (.int .i64 (t:Int))):=an.setCell W ⟨g,v,none⟩ _;refine⟨h.s.only ho h1 h2 h3 h4,?_⟩;have:=h.o.dz (k:=v) (j:=0) hv (by decide) (λi=>qZ c i) (.int .i64 (t:Int));rw[Nat.mul_one,Nat.add_zero] at this;refine this.congr λi hi=> ?_
 unfold mw af
 by_cases e:i=v
 ·rw[if_pos e,if_pos e];rfl
 ·rw[if_neg e,if_neg e]
end
theorem sG.iG{base ug n:Nat}{u:Nat->List Nat}{cs:Array Value}(h:sG w base ug n u)(hA:At w p 105 cs)(hup:ug≠p):
  ∃(a:Nat->Option Addr) (c:Nat->Nat),∀W,w.grownBy W (some p)->∀t,t<n->W.cell? ⟨ug,t,none⟩=some (.slice (a t) (u t).length (c t))/\cY W (a t) 1 (u t).length (gZ (u t)):=by
 obtain⟨a,c,h1,h2⟩:=h;refine⟨a,c,λW hg t ht=>⟨(h1.grown hg (λe=>by injection e with e;exact hup e)).jU ht rfl,ah.row (World.ownsRow.kept (h2 t ht) hg ?_) (pV _)⟩⟩;cases h3:(Value.slice (a t) (u t).length (c t)).ownBlock with
 |none=>exact .inl rfl
 |some r=>exact .inr (λe=>dw hA (h2 t ht) (by decide) (by rw[h3];exact e))
def nT(w:World)(p b off cap:Nat)(x:Im)(ds ak own un:Value)(q:Nat)(u:Nat->List Nat)(e:Ending)(w':World):Prop:=
 w.grownBy w' (some p)/\pD (aD (λt=>x.gL u (t+1)) x.ni) 10 e/\(aD (λt=>x.gL u (t+1)) x.ni=true->∃sl,At w' p 105 (XC b off cap x ds (.slice (some ⟨q,0,none⟩) (x.ni+1) (x.ni+1)) ak own sl un))
theorem nT.no{b off cap:Nat}{ds ak own un:Value}{q:Nat}{u:Nat->List Nat}{w':World}(h:aD (λt=>x.gL u (t+1)) x.ni=false)(hg:w.grownBy w' (some p)):nT w p b off cap x ds ak own un q u (.panicked (r8 10)) w':=
 ⟨hg,.inr ⟨h,rfl⟩,λe=>by rw[h] at e;cases e⟩
set_option maxRecDepth 100000 in
set_option maxHeartbeats 16000000 in
theorem yQ(p b off cap:Nat)(x:Im)(hx:x.Ok)(ds ak own:Value)(q ug base:Nat)(u:Nat->List Nat)(hU:∀t,(∀d∈u t,d<=x.ni)/\(u t).length<=600000)(w:World)(mP:b≠p)(Nb:q≠p)(hup:ug≠p)
  (h:ji w p b off x (XC b off cap x ds (.slice (some ⟨q,0,none⟩) (x.ni+1) (x.ni+1)) ak own (.slice none 0 0) (.slice (some ⟨ug,0,none⟩) (x.ni+1) (x.ni+1))) q w) (hu:sG w base ug (x.ni+1) u):
  Calls Tryz.prog 84 #[.pointer (some ⟨p,0,none⟩)] w λe w'=>nT w p b off cap x ds ak own (.slice (some ⟨ug,0,none⟩) (x.ni+1) (x.ni+1)) q u e w':=by
 have HX:=hid hx;have hni:x.ni<=256:=eK hx.may;have c11:w.cell? ⟨p,11,none⟩=some (.slice (some ⟨q,0,none⟩) (x.ni+1) (x.ni+1)):=h.a.cell (i:=11) rfl;obtain⟨g,hg⟩:∃g,g=w.heap.size:=⟨_,rfl⟩;have oC:p≠g:=by rw[hg];exact Nat.ne_of_lt h.a.lt
 have hbg:b≠g:=by rw[hg];exact Nat.ne_of_lt h.bl
 have BG:q≠g:=by rw[hg];exact Nat.ne_of_lt h.r.lt
 have hmk:(Instr.makeSlice 37 (.int .i64 ((x.ni:Int)+1)) (.int .i64 ((x.ni:Int)+1))).run Tryz.prog w= .ok (.slice (some ⟨g,0,none⟩) (x.ni+1) (x.ni+1)) (w.alloc (.cells (madeCells #[.int .i64 0] ((x.ni+1)*1)) 3)):=by
  rw[hg];exact jJ (x.ni+1) (by omega) w
 obtain⟨W1,hW1⟩:∃W1,W1=w.alloc (.cells (madeCells #[.int .i64 0] ((x.ni+1)*1)) 3):=⟨_,rfl⟩;have hb1:Below w.heap.size w W1:=by rw[hW1];exact(Below.refl _ _).alloc (Nat.le_refl _) _
 have hr1:az W1 g 3 1 (x.ni+1) (mw λ_=>0):=by
  rw[hW1,hg];exact(az.made (m:=1) w #[.int .i64 0] rfl (by omega) (x.ni+1) _)
 have h1:=h.below hb1;have aV:Hid (zj w p b off x (XC b off cap x ds (.slice (some ⟨q,0,none⟩) (x.ni+1) (x.ni+1)) ak own (.slice (some ⟨g,0,none⟩) (x.ni+1) (x.ni+1)) (.slice (some ⟨ug,0,none⟩) (x.ni+1) (x.ni+1))) q g (λ_=>0) (W1.setCell ⟨p,14,none⟩ (.slice (some ⟨g,0,none⟩) (x.ni+1) (x.ni+1)))):=
  ⟨h1.ID 14 _ mP Nb,hr1.only (an.setCell W1 ⟨p,14,none⟩ _) (show g≠p fromλe=>oC e.symm)⟩
 have c14:W1.cell? ⟨p,14,none⟩=some (.slice none 0 0):=h1.a.cell (i:=14) rfl;have f14:W1.frozen? ⟨p,14,none⟩=false:=ag h1.a 14;have c15:(W1.setCell ⟨p,14,none⟩ (.slice (some ⟨g,0,none⟩) (x.ni+1) (x.ni+1))).cell? ⟨p,15,none⟩=some (.slice (some ⟨ug,0,none⟩) (x.ni+1) (x.ni+1)):=aV.out.s.a.cell (i:=15) rfl;have kf:w.heap.size<=g:=by omega
 obtain⟨ua,uc,Qn⟩:=hu.iG h.a hup;have R1:=hid Qn;clear Qn;rw[<-hW1] at hmk;obtain⟨cs,hcs⟩:∃cs,cs=XC b off cap x ds (.slice (some ⟨q,0,none⟩) (x.ni+1) (x.ni+1)) ak own (.slice (some ⟨g,0,none⟩) (x.ni+1) (x.ni+1)) (.slice (some ⟨ug,0,none⟩) (x.ni+1) (x.ni+1)):=⟨_,rfl⟩;have gj:Hid (∀W,At W p 105 cs->W.cell? ⟨p,11,none⟩=some (.slice (some ⟨q,0,none⟩) (x.ni+1) (x.ni+1))/\W.cell? ⟨p,14,none⟩=some (.slice (some ⟨g,0,none⟩) (x.ni+1) (x.ni+1))/\At W p 105 (XC b off cap x ds (.slice (some ⟨q,0,none⟩) (x.ni+1) (x.ni+1)) ak own (.slice (some ⟨g,0,none⟩) (x.ni+1) (x.ni+1)) (.slice (some ⟨ug,0,none⟩) (x.ni+1) (x.ni+1)))):=λW h=>by
  rw[hcs] at h;exact⟨h.cell (i:=11) rfl,h.cell (i:=14) rfl,h⟩
 rw[<-hcs] at aV;have sH:=hid kf;have HU:=hid hU;clear h h1 hb1 hr1 hW1 hx kf hcs hg hu hU;go_enter Tryz.func84,Tryz.ntmps84;go_wp2_with fail;clear c11 hmk c14 f14 c15;go_loopw [21] (λv wr=>∃k:Nat,k<=x.ni+1/\v= .int .i64 (k:Int)/\zj w p b off x cs q g (λt=>Im.cnt u t k) wr) (λv _=>x.ni+1-(intOf v).toNat)
 case atStart=>exact⟨0,Nat.zero_le _,rfl,aV.out⟩
 case round=>
  clear aV;obtain⟨k,hk,rfl,st⟩:=hrel;have ST:=hid st;clear st
  by_cases hlt:k<x.ni+1
  ·have hlt':(k:Int)<(x.ni:Int)+1:=by omega
   have k0:(0:Int)<=(k:Int):=by omega
   obtain⟨cu,_⟩:=R1.out _ ST.out.s.gr k hlt;have hlen:=(HU.out k).2;obtain⟨n,hn⟩:∃n,n=(u k).length:=⟨_,rfl⟩;have HN:=hid hn;obtain⟨a,ha⟩:∃a,a=ua k:=⟨_,rfl⟩;obtain⟨c,hc⟩:∃c,c=uc k:=⟨_,rfl⟩;have XA:Hid (∀W,w.grownBy W (some p)->cY W a 1 n (gZ (u k))):=λW hW=>by rw[ha,hn];exact(R1.out W hW k hlt).2
   rw[<-hn] at hlen;rw[<-hn,<-ha,<-hc] at cu;clear hn ha hc;go_wp2_with fail;clear cu;go_loopw [27] (λv wr=>∃j:Nat,j<=n/\v= .int .i64 (j:Int)/\zj w p b off x cs q g (λt=>Im.cnt u t k+((u k).take j).count t) wr) (λv _=>n-(intOf v).toNat)
   case atStart=>exact⟨0,Nat.zero_le _,rfl,by simpa using ST.out⟩
   case round=>
    clear ST;obtain⟨j,hj,rfl,st⟩:=hrel;have ST:=hid st;clear st
    by_cases hjn:j<n
    ·have hj':(j:Int)<(n:Int):=by omega
     have j0:(0:Int)<=(j:Int):=by omega
     obtain⟨b',off',Ge,lF⟩:∃b' off',a=some ⟨b',off',none⟩/\aF wr b' off' 1 n (gZ (u k)):=by
      rcases XA.out _ ST.out.s.gr with h|h
      ·omega
      ·exact h
     subst Ge;obtain⟨d,hd⟩:∃d,d=(u k).getD j 0:=⟨_,rfl⟩;have cd:wr.cell? ⟨b',off'+j,none⟩=some (.int .i64 (d:Int)):=by
      have:=lF j hjn 0 (.int .i64 (((u k).getD j 0:Nat):Int)) rfl;rw[<-hd,Nat.mul_one,Nat.add_zero] at this;exact this
     have tX:(u k)[j]? =some d:=by
      rw[hd,List.getD_eq_getElem?_getD,List.getElem?_eq_getElem (by rw[<-HN.out];exact hjn)];rfl
     have lY:d<=x.ni:=(HU.out k).1 d (List.mem_of_getElem? tX);have F8:(d:Int)<(x.ni:Int)+1:=by omega
     have d0:(0:Int)<=(d:Int):=by omega
     obtain⟨cv,hcv⟩:∃cv,cv=Im.cnt u d k+((u k).take j).count d:=⟨_,rfl⟩;have cC:=ST.out.o.jU (show d<x.ni+1 by omega) (v:=.int .i64 (cv:Int)) (by rw[hcv];rfl);have VV:(cv:Int)<=1000000000:=by
      have h1:=Im.wk (λt=>(HU.out t).2) d k;have h2:((u k).take j).count d<=((u k).take j).length:=List.count_le_length;have h3:((u k).take j).length<=(u k).length:=by rw[List.length_take];omega
      have h4:=(HU.out k).2;omega
     have cv0:(0:Int)<=(cv:Int):=by omega
     have fC:=ST.out.o.soft d;obtain⟨c14,_⟩:=(gj.out _ ST.out.s.a).2;have fv:=ST.out.set (v:=d) (by omega) (cv+1) oC hbg BG sH.out;rw[show((cv+1:Nat):Int)=(cv:Int)+1 by omega] at fv;have hfun:af (λt=>Im.cnt u t k+((u k).take j).count t) d (cv+1)=λt=>Im.cnt u t k+((u k).take (j+1)).count t:=by
      funext t
      rw[List.take_add_one,tX,List.count_append];unfold af
      by_cases e:t=d
      ·subst e;rw[if_pos rfl,hcv];simp;omega
      ·rw[if_neg e]
       have:(Option.some d).toList.count t=0:=by simp[List.count_cons];omega
       rw[this];rfl
     rw[hfun] at fv;have fv:=hid fv;clear lF hd tX hcv hfun;go_wp2_with fail;go_roundw
     case rel=>(try((repeat apply Exists.intro);refine⟨?_,rfl⟩));exact⟨j+1,by omega,by first|rfl|go_num,fv.out⟩
     case measure=>simp[intOf]<;>omega
    ·obtain rfl:j=n:=by omega
     have fv:Hid (zj w p b off x cs q g (λt=>Im.cnt u t (k+1)) wr):=by
      have:=ST.out;rw[HN.out,List.take_length] at this;exact this
     go_wp2_with fail;go_roundw
     case rel=>(try((repeat apply Exists.intro);refine⟨?_,rfl⟩));exact⟨k+1,by omega,by first|rfl|go_num,fv.out⟩
     case measure=>simp[intOf]<;>omega
  ·obtain rfl:k=x.ni+1:=by omega
   have HCL:Hid (∀t,Im.cnt u t (x.ni+1)<=257*600000):=λt=>Nat.le_trans (Im.wk (λt=>(HU.out t).2) t _) (Nat.mul_le_mul_right _ (by omega))
   go_wp2_with fail;go_loopw [6] (λv wr=>∃k:Nat,k<=x.ni/\v= .int .i64 ((k:Int)+1)/\(∀t,t<k->x.gL u (t+1)=true)/\zj w p b off x cs q g (λt=>Im.cnt u t (x.ni+1)) wr) (λv _=>x.ni+1-(intOf v).toNat)
   case atStart=>exact⟨0,Nat.zero_le _,rfl,λt h=>by omega,ST.out⟩
   case round=>
    clear ST;obtain⟨k,hk,rfl,hP,st⟩:=hrel;have lL:=hid hP;have ST:=hid st;clear hP st;obtain⟨c11,c14,_⟩:=gj.out _ ST.out.s.a
    by_cases hlt:k<x.ni
    ·have hlt':(k:Int)+1<(x.ni:Int)+1:=by omega
     have k0:(0:Int)<=(k:Int)+1:=by omega
     have cK:wr.cell? ⟨q,(k+1)*16,none⟩=some (.int .u8 (x.ino (k+1)).kind):=ST.out.s.ino (t:=k+1) (by omega) 0 rfl;have cL:wr.cell? ⟨q,(k+1)*16+1,none⟩=some (.int .i64 (x.ino (k+1)).aJ):=ST.out.s.ino (t:=k+1) (by omega) 1 rfl;obtain⟨cv,hcv⟩:∃cv,cv=Im.cnt u (k+1) (x.ni+1):=⟨_,rfl⟩;have cC:=ST.out.o.jU (show k+1<x.ni+1 by omega) (v:=.int .i64 (cv:Int)) (by rw[hcv];rfl);have iE:Hid (x.gL u (k+1)=if k+1=1 then cv==0 else if(x.ino (k+1)).kind=2 then cv==1 else if(x.ino (k+1)).kind=1 then(cv:Int)==(x.ino (k+1)).aJ else true):=by rw[hcv];rfl
     obtain⟨kd,fE⟩:∃kd,kd=(x.ino (k+1)).kind:=⟨_,rfl⟩;obtain⟨lk,hlk⟩:∃lk,lk=(x.ino (k+1)).aJ:=⟨_,rfl⟩;rw[<-fE] at cK iE;rw[<-hlk] at cL iE;have ct:Hid (x.gL u (k+1)=false->∀W',w.grownBy W' (some p)->nT w p b off cap x ds ak own (.slice (some ⟨ug,0,none⟩) (x.ni+1) (x.ni+1)) q u (.panicked (r8 10)) W'):=λh W' hg=> .no (bJ (p:=λt=>x.gL u (t+1)) hlt h) hg
     have zh:Hid (x.gL u (k+1)=true->∀t,t<k+1->x.gL u (t+1)=true):=λhc t ht=>by
      rcases Nat.lt_succ_iff_lt_or_eq.1 ht with h|h
      ·exact lL.out t h
      ·rw[h];exact hc
     have HLK:Hid (∀z:aT (zj w p b off x cs q g (λt=>Im.cnt u t (x.ni+1))),z.W.cell? ⟨g,k+1,none⟩=some (.int .i64 (cv:Int))/\z.W.cell? ⟨q,(k+1)*16+1,none⟩=some (.int .i64 lk)):=λz=>⟨z.h.o.jU (by omega) (by rw[hcv];rfl),by rw[hlk];exact z.h.s.ino (t:=k+1) (by omega) 1 rfl⟩
     clear hcv fE hlk
     by_cases hk1:k=0
     ·have q0:((k:Int)+1==1)=true:=by simp;omega
      have gM:Hid (x.gL u (k+1)=((cv:Int)==0)):=by show _=_;rw[iE.out,if_pos (by omega)];exact Im.vE cv 0
      clear hk1 cK cL;go_wp2_with fail;refine(bw 10 ((cv:Int)==0) _).mono ?_;rintro e w3 ⟨hS,rfl⟩;rcases hS with⟨hc,rfl⟩|⟨hc,rfl⟩
      rotate_left
      ·exact⟨rfl,ct.out (gM.out.trans hc) _ ST.out.s.gr⟩
      have HF:=hid (zh.out (gM.out.trans hc));clear hc;go_wp2_with fail;go_roundw
      case rel=>(try((repeat apply Exists.intro);refine⟨?_,rfl⟩));exact⟨k+1,by omega,by first|rfl|go_num,HF.out,ST.out⟩
      case measure=>simp[intOf]<;>omega
     have q0:((k:Int)+1==1)=false:=by simp;omega
     by_cases hk2:kd=2
     ·have q2:(kd==2)=true:=by simp[hk2]
      have gM:Hid (x.gL u (k+1)=((cv:Int)==1)):=by show _=_;rw[iE.out,if_neg (by omega),if_pos hk2];exact Im.vE cv 1
      clear hk1 cL hk2;go_wp2_with fail;refine(bw 10 ((cv:Int)==1) _).mono ?_;rintro e w3 ⟨hS,rfl⟩;rcases hS with⟨hc,rfl⟩|⟨hc,rfl⟩
      rotate_left
      ·exact⟨rfl,ct.out (gM.out.trans hc) _ ST.out.s.gr⟩
      have HF:=hid (zh.out (gM.out.trans hc));clear hc;go_wp2_with fail;go_roundw
      case rel=>(try((repeat apply Exists.intro);refine⟨?_,rfl⟩));exact⟨k+1,by omega,by first|rfl|go_num,HF.out,ST.out⟩
      case measure=>simp[intOf]<;>omega
     have q2:(kd==2)=false:=by simp[hk2]
     by_cases hk3:kd=1
     rotate_left
     ·have q3:(kd==1)=false:=by simp[hk3]
      have HF:=hid (zh.out (by rw[iE.out,if_neg (by omega),if_neg hk2,if_neg hk3]));clear hk1 cL hk2 hk3;go_wp2_with fail;go_roundw
      case rel=>(try((repeat apply Exists.intro);refine⟨?_,rfl⟩));exact⟨k+1,by omega,by first|rfl|go_num,HF.out,ST.out⟩
      case measure=>simp[intOf]<;>omega
     have q3:(kd==1)=true:=by simp[hk3]
     have gM:Hid (x.gL u (k+1)=((cv:Int)==lk)):=by show _=_;rw[iE.out,if_neg (by omega),if_neg hk2,if_pos hk3]
     clear hk1 cL hk2 hk3;go_wp2_with fail;refine aA (zj w p b off x cs q g (λt=>Im.cnt u t (x.ni+1))) 16 (by kernel_rfl) (by kernel_rfl) (by kernel_rfl) (by kernel_rfl) (by kernel_rfl) (by decide) (ST.out.below (Below.refl _ _).drew) ?_;clear ST c11 c14;simp only[List.take,List.drop];intro hne;have F9:∀z:aT (zj w p b off x cs q g (λt=>Im.cnt u t (x.ni+1))),z.W.cell? ⟨p,11,none⟩=some (.slice (some ⟨q,0,none⟩) (x.ni+1) (x.ni+1)):=λz=>(gj.out _ z.h.s.a).1
     have Wc:∀z:aT (zj w p b off x cs q g (λt=>Im.cnt u t (x.ni+1))),z.W.cell? ⟨p,14,none⟩=some (.slice (some ⟨g,0,none⟩) (x.ni+1) (x.ni+1)):=λz=>(gj.out _ z.h.s.a).2.1
     have Nt:∀z:aT (zj w p b off x cs q g (λt=>Im.cnt u t (x.ni+1))),z.W.cell? ⟨g,k+1,none⟩=some (.int .i64 (cv:Int)):=λz=>(HLK.out z).1
     have hcl:∀z:aT (zj w p b off x cs q g (λt=>Im.cnt u t (x.ni+1))),z.W.cell? ⟨q,(k+1)*16+1,none⟩=some (.int .i64 lk):=λz=>(HLK.out z).2
     repeat go_big_quiet_step (fail)
     refine wpQuiet_nil ?_;intro w6 h6;have iW:=hid h6.out;clear h6 hne F9 Wc Nt hcl;go_wp2_with fail;refine(bw 10 ((cv:Int)==lk) _).mono ?_;rintro e w3 ⟨hS,rfl⟩;rcases hS with⟨hc,rfl⟩|⟨hc,rfl⟩
     rotate_left
     ·exact⟨rfl,ct.out (gM.out.trans hc) _ iW.out.s.gr⟩
     have HF:=hid (zh.out (gM.out.trans hc));clear hc;go_wp2_with fail;go_roundw
     case rel=>(try((repeat apply Exists.intro);refine⟨?_,rfl⟩));exact⟨k+1,by omega,by first|rfl|go_num,HF.out,iW.out⟩
     case measure=>simp[intOf]<;>omega
    ·obtain rfl:k=x.ni:=by omega
     go_wp2_with fail;refine bodyPost_end (results_none rfl _ _ _) rfl ⟨ST.out.s.gr,.inl ⟨(aP _ _).2 lL.out,rfl⟩,λ_=>⟨_,(gj.out _ ST.out.s.a).2.2⟩⟩
namespace Im
variable (x:Im)
variable {x}
theorem vI{u:Nat->List Nat}(h:(x.ino t).kind=2):1<=t/\t<=x.ni:=by
 unfold ino at h;split at h
 ·assumption
 ·exact absurd h (by decide)
theorem xW{u:Nat->List Nat}{S:Nat->Bool}(hS:∀p,S p=true->∀c,c∈u p->(x.ino c).kind=2->S c=true):∀(f:Nat) (c:(Nat->Bool)×List Nat),(∀p,c.1 p=true->S p=true)->(∀p,p∈c.2->S p=true)->∀p,x.ot u f c p=true->S p=true
 |0,c,h1,h2,p,hp=>h1 p hp
 |f+1,(c,[]),h1,h2,p,hp=>h1 p hp
 |f+1,(c,t::r),h1,h2,p,hp=>by
  rw[ot] at hp;have key:∀(l:List Nat) (a:(Nat->Bool)×List Nat),(∀q,q∈l->(x.ino q).kind=2->S q=true)->(∀p,a.1 p=true->S p=true)->(∀p,p∈a.2->S p=true)->(∀p,(l.foldl x.ey a).1 p=true->S p=true)/\∀p,p∈(l.foldl x.ey a).2->S p=true:=by
   intro l
   induction l with
   |nil=>intro a _ a1 a2;exact⟨a1,a2⟩
   |cons q l ih=>
    intro a hl a1 a2;rw[List.foldl_cons];refine ih _ (λq' h'=>hl q' (List.mem_cons_of_mem _ h')) ?_ ?_
    ·intro p hp
     unfold ey at hp;split at hp
     ·rename_i hc
      unfold af at hp;dsimp only at hp;split at hp
      ·rename_i e;exact e▸hl q (List.mem_cons_self ..) hc.1
      ·exact a1 p hp
     ·exact a1 p hp
    ·intro p hp
     unfold ey at hp;split at hp
     ·rename_i hc
      rcases List.mem_cons.1 hp with e|h
      ·exact e▸hl q (List.mem_cons_self ..) hc.1
      ·exact a2 p h
     ·exact a2 p hp
  obtain⟨k1,k2⟩:=key (u t) (c,r) (λq hq hk=>hS t (h2 t (List.mem_cons_self ..)) q hq hk) h1 λp hp=>h2 p (List.mem_cons_of_mem _ hp)
  exact xW hS f _ k1 k2 p hp
end Im
namespace Im
variable {x:Im}
theorem qh{u:Nat->List Nat}(h:x.mI=some u)(t:Nat):(u t=[]/\(x.ino t).kind≠2)\/(1<=t/\t<=x.ni/\(x.ino t).kind=2/\∃r,x.gV t=some r/\u t=r.2):=by
 have key:=g9 (P:=λn (u:Nat->List Nat)=>∀t,(u t=[]/\((x.ino t).kind≠2\/n<t))\/(1<=t/\t<=n/\(x.ino t).kind=2/\∃r,x.gV t=some r/\u t=r.2)) h (λt=>by
  by_cases e:t=0
  ·subst e
   exact .inl ⟨rfl,.inl (by rw[show x.ino 0=aK.nil by unfold ino;rw[if_neg (by omega)]];decide)⟩
  ·exact .inl ⟨rfl,.inr (by omega)⟩) (λk a b hk ha hb t=> ?_) t
 ·rcases key with⟨h1,h2|h2⟩|h2
  ·exact .inl ⟨h1,h2⟩
  ·refine .inl ⟨h1,?_⟩
   rw[show x.ino t=aK.nil by unfold ino;rw[if_neg (by omega)]];decide
  ·exact .inr h2
 ·by_cases hk2:(x.ino (k+1)).kind=2
  ·rw[if_pos hk2] at hb
   cases hd:x.gV (k+1) with
   |none=>rw[hd] at hb;cases hb
   |some r=>
    rw[hd] at hb;injection hb with hb
    subst hb;unfold af;dsimp only
    by_cases e:t=k+1
    ·rw[if_pos e]
     exact .inr ⟨by omega,by omega,e▸hk2,r,e▸hd,rfl⟩
    ·rw[if_neg e]
     rcases ha t with⟨h1,h2|h2⟩|⟨h1,h2,h3⟩
     ·exact .inl ⟨h1,.inl h2⟩
     ·exact .inl ⟨h1,.inr (by omega)⟩
     ·exact .inr ⟨h1,by omega,h3⟩
  ·rw[if_neg hk2] at hb
   injection hb with hb
   subst hb;rcases ha t with⟨h1,h2|h2⟩|⟨h1,h2,h3⟩
   ·exact .inl ⟨h1,.inl h2⟩
   ·by_cases e:t=k+1
    ·exact .inl ⟨h1,.inl (e▸hk2)⟩
    ·exact .inl ⟨h1,.inr (by omega)⟩
   ·exact .inr ⟨h1,by omega,h3⟩
end Im
theorem fI{a b:Bool}(h:a=true↔b=true):a=b:=by
 cases a<;>cases b<;>simp at h ⊢
namespace Im
variable {x:Im}
def qR(x:Im)(k n:Nat):Bool:=!(((decide (n<x.own)||decide (x.s<=n))&& !bt (x.L (x.st k)) n)||(decide (x.i<=n)&& !bt (x.L (x.st k+1)) n))
theorem rk3(x:Im)(hs:x.own<=2048)(k:Nat):aD (x.qR k) 2048=x.qi k:=by
 apply fI;unfold qi;rw[Bool.and_eq_true,Bool.and_eq_true,lf,lf,lf,aP];constructor
 ·intro h
  refine⟨λn _ h2=> ?_,λn h1 h2=> ?_,λn h1 h2=> ?_⟩
  ·have:=h n (by omega)
   unfold qR at this;cases hb:bt (x.L (x.st k)) n with
   |true=>rfl
   |false=>rw[hb,decide_eq_true h2] at this;simp at this
  ·have:=h n (by omega)
   unfold qR at this;cases hb:bt (x.L (x.st k)) n with
   |true=>rfl
   |false=>rw[hb,decide_eq_true h1] at this;simp at this
  ·have:=h n (by omega)
   unfold qR at this;cases hb:bt (x.L (x.st k+1)) n with
   |true=>rfl
   |false=>rw[hb,decide_eq_true h1] at this;simp at this
 ·rintro⟨h1,h2,h3⟩ n hn
  unfold qR
  by_cases c1:n<x.own
  ·rw[h1 n (Nat.zero_le _) c1]
   by_cases c3:x.i<=n
   ·rw[h3 n c3 hn];simp
   ·rw[decide_eq_false c3];simp
  ·rw[decide_eq_false c1]
   by_cases c2:x.s<=n
   ·rw[h2 n c2 hn]
    by_cases c3:x.i<=n
    ·rw[h3 n c3 hn];simp
    ·rw[decide_eq_false c3];simp
   ·rw[decide_eq_false c2]
    by_cases c3:x.i<=n
    ·rw[h3 n c3 hn];simp
    ·rw[decide_eq_false c3];simp
def vm(x:Im)(o:Nat->Nat)(b:Nat):Bool:=!x.data b||(bt (x.L (x.st ((b-(2+x.j))/x.s))) ((b-(2+x.j))%x.s)==(o b !=0))
theorem qD(x:Im)(hd:d<x.s):(x.st k+d-(2+x.j))/x.s=k/\(x.st k+d-(2+x.j))%x.s=d:=by
 unfold st;have e:2+x.j+k*x.s+d-(2+x.j)=d+x.s*k:=by rw[Nat.mul_comm];omega
 rw[e];exact⟨by rw[Nat.add_mul_div_left _ _ (by omega),Nat.div_eq_of_lt hd];omega,by rw[Nat.add_mul_mod_self_left,Nat.mod_eq_of_lt hd]⟩
theorem wh(hx:x.Ok)(hk:k<x.g)(hd:d<x.s):x.data (x.st k+d)=decide (x.own<=d):=by
 have h1:=hx.st hk hd;unfold data;rw[(x.qD (k:=k) hd).2,decide_eq_true h1,decide_eq_true (show 2+x.j<=x.st k+d by unfold st;omega)]
 rfl
theorem rk8(hx:x.Ok)(o:Nat->Nat):aD (x.vm o) x.n=aD (x.uw o) x.g:=by
 have hs:1<=x.s:=by have:=dL hx.may;omega
 apply fI;rw[aP,aP];constructor
 ·intro h k hk
  unfold uw;rw[aP];intro d hd;have:=h (x.st k+(x.own+d)) (hx.st hk (by omega));unfold vm at this;rw[wh hx hk (by omega),(x.qD (k:=k) (show x.own+d<x.s by omega)).1,(x.qD (k:=k) (show x.own+d<x.s by omega)).2,decide_eq_true (show x.own<=x.own+d by omega)] at this;simpa using this
 ·intro h b hb
  unfold vm;cases OW:x.data b with
  |false=>rfl
  |true=>
   have hd:=OW;unfold data at hd;rw[Bool.and_eq_true,Bool.and_eq_true,decide_eq_true_eq,decide_eq_true_eq,decide_eq_true_eq] at hd;obtain⟨h1,h2,h3⟩:=hd;have hn:=hx.n;have hk:(b-(2+x.j))/x.s<x.g:=(Nat.div_lt_iff_lt_mul (by omega)).2 (by omega);have hm:(b-(2+x.j))%x.s<x.s:=Nat.mod_lt _ (by omega);have yq:=Nat.div_add_mod (b-(2+x.j)) x.s;have h4:=h _ hk;unfold uw at h4;rw[aP] at h4;have h5:=h4 ((b-(2+x.j))%x.s-x.own) (by omega);rw[show x.own+((b-(2+x.j))%x.s-x.own)=(b-(2+x.j))%x.s by omega] at h5;have e:x.st ((b-(2+x.j))/x.s)+(b-(2+x.j))%x.s=b:=by
    unfold st;rw[Nat.mul_comm] at yq;omega
   rw[e] at h5;simpa using h5
def sy(z:Nat->Int):Nat->List (Nat×ByteArray)
 |0=>[]
 |k+1=>if dI z k=0 then sy z k else sy z k++[((dI z k).toNat,dM z k)]
def Iy(x:Im)(t n:Nat):Option (List (Nat×ByteArray)):=aS (λi l=>if x.blk t i≠0/\iI (x.L (x.blk t i))=true then some (l++sy (x.L (x.blk t i)) 8) else none) n []
def D7(x:Im)(t:Nat):Option (List (Nat×ByteArray)):=x.Iy t ((x.ino t).size.toNat/256)
def pB(x:Im)(e:Nat×ByteArray)(r:List (List UInt8)×List Nat):Option (List (List UInt8)×List Nat):=if e.2.data.toList∉r.1/\e.1<=x.ni/\(x.ino e.1).kind≠0 then some (r.1++[e.2.data.toList],r.2++[e.1]) else none
def gb(x:Im):List (Nat×ByteArray)->List (List UInt8)×List Nat->Option (List (List UInt8)×List Nat)
 |[],r=>some r
 |e::l,r=>(x.pB e r).bind (gb x l)
theorem kY:∀(a b:List (Nat×ByteArray)) (r:List (List UInt8)×List Nat),x.gb (a++b) r=(x.gb a r).bind (x.gb b)
 |[],b,r=>rfl
 |e::a,b,r=>by
  rw[List.cons_append,gb,gb];cases x.pB e r with
  |none=>rfl
  |some r'=>exact kY a b r'
theorem xv(z:Nat->Int)(r:List (List UInt8)×List Nat):∀k,aS (x.gO z) k r=x.gb (sy z k) r
 |0=>rfl
 |k+1=>by
  rw[aS,xv z r k,sy]
  by_cases h:dI z k=0
  ·rw[if_pos h]
   cases x.gb (sy z k) r with
   |none=>rfl
   |some r'=>show x.gO z k r'=_;unfold gO;rw[if_pos h]
  ·rw[if_neg h,kY]
   congr 1
   funext r'
   unfold gO;rw[if_neg h];show _=(x.pB _ r').bind _;unfold pB;split<;>rfl
theorem yM(t:Nat)(r:List (List UInt8)×List Nat):∀n,aS (x.jy t) n r=(x.Iy t n).bind λl=>x.gb l r
 |0=>rfl
 |n+1=>by
  rw[aS,yM t r n];unfold Iy;rw[aS];cases aS (λi l=>if x.blk t i≠0/\iI (x.L (x.blk t i))=true then some (l++sy (x.L (x.blk t i)) 8) else none) n [] with
  |none=>rfl
  |some l=>
   show(x.gb l r).bind (x.jy t n)=((if x.blk t n≠0/\iI (x.L (x.blk t n))=true then some (l++sy (x.L (x.blk t n)) 8) else none).bind λl=>x.gb l r)
   by_cases hc:x.blk t n≠0/\iI (x.L (x.blk t n))=true
   ·rw[if_pos hc]
    show _=x.gb (l++sy (x.L (x.blk t n)) 8) r;rw[kY]
    congr 1
    funext r'
    unfold jy;rw[if_pos hc,xv]
   ·rw[if_neg hc]
    show _=none;cases x.gb l r with
    |none=>rfl
    |some r'=>show x.jy t n r'=none;unfold jy;rw[if_neg hc]
theorem BP(t:Nat):x.gV t=(x.D7 t).bind λl=>x.gb l ([],[]):=yM t _ _
theorem ux:∀{l:List (Nat×ByteArray)} {r r':List (List UInt8)×List Nat},x.gb l r=some r'->r'=(r.1++l.map (λe=>e.2.data.toList),r.2++l.map (λe=>e.1))
 |[],r,r',h=>by injection h with h;rw[<-h];simp
 |e::l,r,r',h=>by
  rw[gb] at h;unfold pB at h;split at h
  ·have:=ux (show x.gb l _=some r' from h)
   rw[this];simp
  ·cases h
theorem DO{e:Nat×ByteArray}(he:l[a]? =some e)(h:x.gb (l.take a) ([],[])=some ((l.take a).map (λe=>e.2.data.toList),(l.take a).map (λe=>e.1))):
  x.gb (l.take (a+1)) ([],[])=x.pB e ((l.take a).map (λe=>e.2.data.toList),(l.take a).map (λe=>e.1)):=by
 rw[List.take_add_one,he,kY,h];show(x.pB e _).bind (x.gb [])=_;cases x.pB e _<;>rfl
theorem J5(h:x.gb (l.take a) ([],[])=none):x.gb l ([],[])=none:=by
 rw[<-List.take_append_drop a l,kY,h];rfl
def oh(x:Im)(u:Nat->List Nat)(t:Nat):Bool:=!(((x.ino t).kind==1&&(((cnt u t (x.ni+1):Nat):Int) !=(x.ino t).aJ))||((x.ino t).kind==2&&(((cnt u t (x.ni+1):Nat):Int) !=1)))
theorem BW{u:Nat->List Nat}(h:t≠1):x.gL u t=x.oh u t:=by
 unfold gL oh;rw[if_neg h]
 by_cases h2:(x.ino t).kind=2
 ·rw[if_pos h2,h2]
  apply fI;simp;omega
 ·rw[if_neg h2]
  by_cases h1:(x.ino t).kind=1
  ·rw[if_pos h1,h1]
   apply fI;simp
  ·rw[if_neg h1]
   apply fI;simp[h1,h2]
theorem E4{u:Nat->List Nat}(hn:1<=x.ni):aD (λt=>x.gL u (t+1)) x.ni=(aD (λt=>x.oh u (t+2)) (x.ni-1)&&((cnt u 1 (x.ni+1):Nat)==0)):=by
 apply fI;rw[WU,Bool.and_eq_true,aP];constructor
 ·intro h
  refine⟨λk hk=> ?_,?_⟩
  ·rw[<-BW (by omega)];exact h _ (by omega) (by omega)
  ·have:=h 1 (Nat.le_refl _) hn
   unfold gL at this;rwa[if_pos rfl] at this
 ·rintro⟨h1,h2⟩ t ht1 ht2
  by_cases e:t=1
  ·unfold gL;rw[if_pos e,e];exact h2
  ·rw[BW e]
   have:=h1 (t-2) (by omega);rwa[show t-2+2=t by omega] at this
inductive LL (x:Im) (u:Nat->List Nat):Nat->Prop where
 |one:LL x u 1
 |next (p c:Nat) (h:LL x u p) (hk:(x.ino p).kind=2) (hc:c∈u p):LL x u c
theorem J3(l:List Nat):∀(a:(Nat->Bool)×List Nat),(∀c∈l,c<x.ni+1)->
  (∀p,a.1 p=true->(l.foldl x.ey a).1 p=true)/\(∀c∈l,(x.ino c).kind=2->(l.foldl x.ey a).1 c=true)/\(∀p,(l.foldl x.ey a).1 p=true->a.1 p=true\/p∈(l.foldl x.ey a).2)/\(∀p∈a.2,p∈(l.foldl x.ey a).2)/\(aE (l.foldl x.ey a).1 (x.ni+1)+a.2.length=aE a.1 (x.ni+1)+(l.foldl x.ey a).2.length):=by
 induction l with
 |nil=>intro a _;exact⟨λp h=>h,λc h=>(by cases h),λp h=> .inl h,λp h=>h,rfl⟩
 |cons q l ih=>
  intro a hl;rw[List.foldl_cons];obtain⟨i1,i2,i3,i4,i5⟩:=ih (x.ey a q) λc hc=>hl c (List.mem_cons_of_mem _ hc)
  by_cases hc:(x.ino q).kind=2/\a.1 q=false
  ·have e:x.ey a q=(af a.1 q true,q::a.2):=by unfold ey;rw[if_pos hc]
   rw[e] at i1 i2 i3 i4 i5 ⊢;dsimp only at i1 i2 i3 i4 i5;have hup:∀p,a.1 p=true->af a.1 q true p=true:=λp hp=>by unfold af;split<;>first|rfl|exact hp
   refine⟨λp hp=>i1 p (hup p hp),λc hcm hk=> ?_,λp hp=> ?_,λp hp=>i4 p (List.mem_cons_of_mem _ hp),?_⟩
   ·rcases List.mem_cons.1 hcm with rfl|h
    ·exact i1 c (by unfold af;rw[if_pos rfl])
    ·exact i2 c h hk
   ·rcases i3 p hp with h|h
    ·unfold af at h
     split at h
     ·rename_i e;rw[e];exact .inr (i4 q (List.mem_cons_self ..))
     ·exact .inl h
    ·exact .inr h
   ·rw[fH (hl q (List.mem_cons_self ..)) hc.2,List.length_cons] at i5
    omega
  ·have e:x.ey a q=a:=by unfold ey;rw[if_neg hc]
   rw[e] at i1 i2 i3 i4 i5 ⊢;refine⟨i1,λc hcm hk=> ?_,i3,i4,i5⟩;rcases List.mem_cons.1 hcm with rfl|h
   ·refine i1 c ?_
    cases hb:a.1 c with
    |true=>rfl
    |false=>exact absurd ⟨hk,hb⟩ hc
   ·exact i2 c h hk
theorem oU{u:Nat->List Nat}(hu:∀p,∀c∈u p,c<x.ni+1):∀(f:Nat) (c:Nat->Bool) (st:List Nat),aE c (x.ni+1)+f=x.ni+2+st.length->(∀p,c p=true->p∈st\/∀d∈u p,(x.ino d).kind=2->c d=true)->
  (∀p,c p=true->x.ot u f (c,st) p=true)/\∀p,x.ot u f (c,st) p=true->∀d∈u p,(x.ino d).kind=2->x.ot u f (c,st) d=true
 |0,c,st,h,_=>by have:=eF c (x.ni+1);omega
 |f+1,c,[],h,hi=>⟨λp hp=>hp,λp hp=>(hi p hp).resolve_left (λh=>by cases h)⟩
 |f+1,c,t::r,h,hi=>by
  obtain⟨i1,i2,i3,i4,i5⟩:=J3 (x:=x) (u t) (c,r) (hu t);dsimp only at i1 i3 i4 i5;rw[List.length_cons] at h;obtain⟨c',st',e⟩:∃c' st',(u t).foldl x.ey (c,r)=(c',st'):=⟨_,_,rfl⟩;rw[e] at i1 i2 i3 i4 i5;dsimp only at i1 i2 i3 i4 i5;have hp:x.ot u (f+1) (c,t::r)=x.ot u f (c',st'):=by rw[ot,e]
  rw[hp];obtain⟨k1,k2⟩:=oU hu f c' st' (by omega) λp hp=>by
   rcases i3 p hp with h1|h1
   ·rcases hi p h1 with h2|h2
    ·rcases List.mem_cons.1 h2 with rfl|h3
     ·exact .inr i2
     ·exact .inl (i4 p h3)
    ·exact .inr λd hd hk=>i1 d (h2 d hd hk)
   ·exact .inl h1
  exact⟨λp hp=>k1 p (i1 p hp),k2⟩
theorem vq{u:Nat->List Nat}(hu:∀p,∀c∈u p,c<x.ni+1)(hn:1<=x.ni):x.reach u 1=true/\∀p,x.reach u p=true->∀d∈u p,(x.ino d).kind=2->x.reach u d=true:=by
 have h1:aE (af (λ_=>false) 1 true) (x.ni+1)=1:=by
  rw[fH (by omega) rfl,uq λk _=>rfl]
 obtain⟨k1,k2⟩:=oU (x:=x) hu (x.ni+2) (af (λ_=>false) 1 true) [1] (by rw[h1];simp;omega) λp hp=>by
  unfold af at hp;split at hp
  ·rename_i e;rw[e];exact .inl (by simp)
  ·cases hp
 exact⟨k1 1 (by unfold af;rw[if_pos rfl]),k2⟩
theorem DW{u:Nat->List Nat}(hu:∀p,∀c∈u p,c<x.ni+1)(hn:1<=x.ni)(h:LL x u t):(x.ino t).kind=2->x.reach u t=true:=by
 obtain⟨h1,h2⟩:=vq hu hn
 induction h with
 |one=>intro _;exact h1
 |next p c _ hk hc ih=>intro hkc;exact h2 p (ih hk) c hc hkc
theorem Ul{u:Nat->List Nat}(hu:∀p,∀c∈u p,c<x.ni+1)(hn:1<=x.ni)(hd:∀p,u p≠[]->(x.ino p).kind=2){c:Nat->Bool}(h1:c 1=true)(hs:∀p,c p=true->LL x u p)(hcl:∀p,p<=x.ni->c p=true->(x.ino p).kind=2->∀d∈u p,c d=true):
  aD (x.jd (x.reach u)) (x.ni+1)=aD (λt=> !((x.ino (t+1)).kind==2&& !c (t+1))) x.ni:=by
 have key:∀t,(x.ino t).kind=2->x.reach u t=c t:=λt hk=>by
  apply fI;constructor
  ·intro h
   unfold reach at h;refine xW (S:=c) (λp hp d yq fE=> ?_) _ _ (λq hq=> ?_) (λq hq=> ?_) t h
   ·have YR:=hd p (λe=>by rw[e] at yq;cases yq)
    exact hcl p (vI (u:=u) YR).2 hp YR d yq
   ·unfold af at hq
    dsimp only at hq;split at hq
    ·rename_i e;rw[e];exact h1
    ·cases hq
   ·simp at hq;rw[hq];exact h1
  ·intro h
   exact DW hu hn (hs t h) hk
 apply fI;rw[aP,aP];constructor
 ·intro h t ht
  have:=h (t+1) (by omega);unfold jd at this
  by_cases hk:(x.ino (t+1)).kind=2
  ·rw[key _ hk,hk] at this
   simp at this;rw[this];simp
  ·simp[hk]
 ·intro h t ht
  unfold jd
  by_cases hk:(x.ino t).kind=2
  ·rw[key _ hk,hk]
   have h1:=(vI (u:=u) hk).1;have:=h (t-1) (by omega);rw[show t-1+1=t by omega,hk] at this;simpa using this
  ·simp[hk]
theorem JR(hk3:x.qi k=true)(hs:x.own<=x.s):x.free k=((aE (λn=> !bt (x.L (x.st k)) (x.own+n)) (x.s-x.own):Nat):Int):=by
 unfold free;have h1:=yN (bt (x.L (x.st k))) x.own (x.s-x.own);have h2:=nP (λn=>bt (x.L (x.st k)) (x.own+n)) (x.s-x.own);have h3:aE (bt (x.L (x.st k))) x.own=x.own:=by
  refine kX (Nat.le_refl _) λn hn=> ?_
  unfold qi at hk3;rw[Bool.and_eq_true,lf] at hk3;rw[hk3.1 n (Nat.zero_le _) hn,decide_eq_true hn]
 rw[show x.own+(x.s-x.own)=x.s by omega] at h1;omega
theorem Gp(k:Nat):x.yB k=((aE (λn=> !bt (x.L (x.st k+1)) n) x.i:Nat):Int):=by
 unfold yB;have:=nP (bt (x.L (x.st k+1))) x.i;omega
end Im
end Go.Proofs.YtphamecphmbipaaGreatDoor
