/- Texts of this claim, merged. -/
import Derived.Test.YtphamecphmbipaaGreatDoorK21
set_option linter.unusedVariables false
set_option maxRecDepth 100000
set_option maxHeartbeats 16000000

namespace Go.Proofs.YtphamecphmbipaaGreatDoor
open Go.RowKit
open Lib (hid)
variable {g t p b off q l first:Nat} {v:Value} {T:TypeId} {f:Nat->List Value} {m:Nat->Bool} {w:World} {x:Im} {o:Nat->Nat}
structure ji(w:World)(p b off:Nat)(x:Im)(cs:Array Value)(q:Nat)(W:World):Prop where
 a:At W p 105 cs
 i:aF W b off 256 x.n (dW x.L)
 r:az W q 63 16 (x.ni+1) (jv x)
 bl:b<W.heap.size
 gr:w.grownBy W (some p)
section
variable {w:World} {p b off:Nat} {x:Im} {cs:Array Value} {q:Nat} {W W':World}
theorem ji.below(h:ji w p b off x cs q W)(hb:Below W.heap.size W W'):ji w p b off x cs q W':=
 ⟨h.a.below hb h.a.lt,aF.below h.i hb h.bl,h.r.below hb,Nat.lt_of_lt_of_le h.bl hb.size,dm h.gr (bq hb)⟩
theorem ji.only(h:ji w p b off x cs q W)(ho:an g W W')(h1:p≠g)(h2:b≠g)(h3:q≠g)(h4:w.heap.size<=g):ji w p b off x cs q W':=
 ⟨h.a.only ho h1,aF.only h.i ho h2,h.r.only ho h3,by rw[ho.size];exact h.bl,
  ⟨ho.os.trans h.gr.os,ho.tape.trans h.gr.tape,ho.output.trans h.gr.output,by rw[ho.size];exact h.gr.size,λj hj hne=>(ho.block j (by omega)).trans (h.gr.block j hj hne)⟩⟩
theorem ji.ID(h:ji w p b off x cs q W)(j:Nat)(v:Value)(hb:b≠p)(hq:q≠p):ji w p b off x (cs.setIfInBounds j v) q (W.setCell ⟨p,j,none⟩ v):=by
 have ho:an p W (W.setCell ⟨p,j,none⟩ v):=an.setCell W ⟨p,j,none⟩ v;exact⟨h.a.xw j v,aF.only h.i ho hb,h.r.only ho hq,by rw[ho.size];exact h.bl,dm h.gr (fp ho)⟩
theorem ji.ino(h:ji w p b off x cs q W)(ht:t<x.ni+1)(j:Nat)(hv:(x.ino t).arr[j]? =some v):W.cell? ⟨q,t*16+j,none⟩=some v:=by
 have:=h.r.bI t ht j v (by show(x.ino t).arr.toList[j]? =some v;rw[Array.getElem?_toList];exact hv);rwa[Nat.zero_add] at this
end
theorem AN(p b off cap:Nat)(x:Im)(ds ak own sl un:Value)(q:Nat)(w:World)(hn:1<=x.ni)(h:ji w p b off x (XC b off cap x ds (.slice (some ⟨q,0,none⟩) (x.ni+1) (x.ni+1)) ak own sl un) q w):
  Calls Tryz.prog 79 #[.pointer (some ⟨p,0,none⟩)] w λe w'=>pD ((x.ino 1).kind==2) 5 e/\w=w':=by
 have c11:w.cell? ⟨p,11,none⟩=some (.slice (some ⟨q,0,none⟩) (x.ni+1) (x.ni+1)):=h.a.cell (i:=11) rfl;have ck:=h.ino (t:=1) (by omega) 0 (v:=.int .u8 (x.ino 1).kind) rfl;have hlt:(1:Int)<(x.ni:Int)+1:=by omega
 obtain⟨c,hc⟩:∃c,c=((x.ino 1).kind==2):=⟨_,rfl⟩;have HC:=hid hc;rw[<-hc];rw[Nat.one_mul,Nat.add_zero] at ck;clear h hc;go_enter Tryz.func79,Tryz.ntmps79;go_wp2_with fail;rw[<-HC.out];refine(bw 5 c _).mono ?_;rintro e w1 ⟨hS,rfl⟩;rcases hS with⟨rfl,rfl⟩|⟨rfl,rfl⟩
 ·go_wp2_with fail
  refine bodyPost_end (results_none rfl _ _ _) rfl ⟨.inl ⟨rfl,rfl⟩,rfl⟩
 ·exact⟨rfl,.inr ⟨rfl,rfl⟩,rfl⟩
theorem Al:(Tryz.prog.info? 3).map (λi=>(i.zero,i.size,i.bytes))=some (some (.int .i64 0),1,8):=by kernel_rfl
theorem jJ(n:Nat)(hn:n<=2048)(W:World):(Instr.makeSlice 37 (.int .i64 (n:Int)) (.int .i64 (n:Int))).run Tryz.prog W= .ok (.slice (some ⟨W.heap.size,0,none⟩) n n) (W.alloc (.cells (madeCells #[.int .i64 0] (n*1)) 3)):=
 dg (P:=Tryz.prog) 37 3 (.int .i64 0) 1 8 Tryz.underlying37 Al .i64 .i64 n (by omega) (by omega) W
def He(m:Nat->Bool)(i:Nat):List Value:=[.int .i64 (if m i then 1 else 0)]
theorem I5(m:Nat->Bool)(i:Nat):(He m i).length=1:=rfl
theorem az.jU{W:World}{n:Nat}(h:az W g T 1 n f){i:Nat}(hi:i<n)(hv:f i=[v]):W.cell? ⟨g,i,none⟩=some v:=by
 have:=h.bI i hi 0 v (by rw[hv];rfl);rwa[Nat.zero_add,Nat.mul_one,Nat.add_zero] at this
theorem az.soft{W:World}{n m:Nat}(h:az W g T m n f)(j:Nat):W.frozen? ⟨g,j,none⟩=false:=by
 obtain⟨cs,h1,_⟩:=h.blk;exact ag h1 j
def Jd:Option Value->Bool
 |some (.int .i64 n)=>n==0
 |_=>false
def OG(W:World)(g n:Nat):Nat:=aE (λi=>Jd (W.cell? ⟨g,i,none⟩)) n
theorem uM{W:World}{n:Nat}(h:az W g T 1 n (He m)):OG W g n+aE m n=n:=by
 have key:∀k,k<=n->aE (λi=>Jd (W.cell? ⟨g,i,none⟩)) k+aE m k=k:=by
  intro k
  induction k with
  |zero=>intro _;rfl
  |succ k ih=>
   intro hk;have hc:=h.jU (show k<n by omega) (v:=.int .i64 (if m k then 1 else 0)) rfl;rw[aE,aE];have:=ih (by omega);cases hm:m k with
   |true=>
    rw[hm,if_pos rfl] at hc;have:Jd (W.cell? ⟨g,k,none⟩)=false:=by rw[hc];rfl
    rw[this,if_pos rfl,if_neg (by decide)];omega
   |false=>
    rw[hm,if_neg (by decide)] at hc;have:Jd (W.cell? ⟨g,k,none⟩)=true:=by rw[hc];rfl
    rw[this,if_pos rfl,if_neg (by decide)];omega
 exact key n (Nat.le_refl _)
structure L7(w:World)(p b off:Nat)(x:Im)(cs:Array Value)(q g:Nat)(m:Nat->Bool)(W:World):Prop where
 s:ji w p b off x cs q W
 o:az W g 3 1 (x.ni+1) (He m)
theorem L7.mark{cs:Array Value}{W:World}(h:L7 w p b off x cs q g m W)(ht:t<x.ni+1)(h1:p≠g)(h2:b≠g)(h3:q≠g)(h4:w.heap.size<=g):
  L7 w p b off x cs q g (af m t true) (W.setCell ⟨g,t,none⟩ (.int .i64 1)):=by
 have ho:an g W (W.setCell ⟨g,t,none⟩ (.int .i64 1)):=an.setCell W ⟨g,t,none⟩ _;refine⟨h.s.only ho h1 h2 h3 h4,?_⟩;have:=h.o.dz (k:=t) (j:=0) ht (by decide) (λi=>I5 m i) (.int .i64 1);rw[Nat.mul_one,Nat.add_zero] at this;refine this.congr λi hi=> ?_
 unfold He af
 by_cases e:i=t
 ·rw[if_pos e,if_pos e];rfl
 ·rw[if_neg e,if_neg e]
namespace Im
def vC(x:Im):Bool:=match x.mx with
 |none=>false
 |some m=>aD (λt=>x.th m (t+1)) x.ni
end Im
def nS(w:World)(p b off cap:Nat)(x:Im)(ds own sl un:Value)(q:Nat)(e:Ending)(w':World):Prop:=
 pD x.vC 6 e/\w.grownBy w' (some p)/\(x.vC=true->∃m g,x.mx=some m/\w.heap.size<=g/\At w' p 105 (XC b off cap x ds (.slice (some ⟨q,0,none⟩) (x.ni+1) (x.ni+1)) (.slice (some ⟨g,0,none⟩) (x.ni+1) (x.ni+1)) own sl un)/\az w' g 3 1 (x.ni+1) (He m))
theorem nS.no{cap:Nat}{ds own sl un:Value}{w':World}(h:x.vC=false)(hg:w.grownBy w' (some p)):nS w p b off cap x ds own sl un q (.panicked (r8 6)) w':=
 ⟨.inr ⟨h,rfl⟩,hg,λe=>by rw[h] at e;cases e⟩
theorem te(p b off cap:Nat)(x:Im)(hx:x.Ok)(ds own sl un:Value)(q:Nat)(w:World)(mP:b≠p)(Nb:q≠p)(h:ji w p b off x (XC b off cap x ds (.slice (some ⟨q,0,none⟩) (x.ni+1) (x.ni+1)) (.slice none 0 0) own sl un) q w):
  Calls Tryz.prog 80 #[.pointer (some ⟨p,0,none⟩)] w λe w'=>nS w p b off cap x ds own sl un q e w':=by
 have HX:=hid hx;have hni:x.ni<=256:=eK hx.may;have gD:(x.o:Int)<4294967296:=by have:=hx.o;omega
 have c11:w.cell? ⟨p,11,none⟩=some (.slice (some ⟨q,0,none⟩) (x.ni+1) (x.ni+1)):=h.a.cell (i:=11) rfl;obtain⟨g,hg⟩:∃g,g=w.heap.size:=⟨_,rfl⟩;have oC:p≠g:=by rw[hg];exact Nat.ne_of_lt h.a.lt
 have hbg:b≠g:=by rw[hg];exact Nat.ne_of_lt h.bl
 have BG:q≠g:=by rw[hg];exact Nat.ne_of_lt h.r.lt
 have hmk:(Instr.makeSlice 37 (.int .i64 ((x.ni:Int)+1)) (.int .i64 ((x.ni:Int)+1))).run Tryz.prog w= .ok (.slice (some ⟨g,0,none⟩) (x.ni+1) (x.ni+1)) (w.alloc (.cells (madeCells #[.int .i64 0] ((x.ni+1)*1)) 3)):=by
  rw[hg];exact jJ (x.ni+1) (by omega) w
 obtain⟨W1,hW1⟩:∃W1,W1=w.alloc (.cells (madeCells #[.int .i64 0] ((x.ni+1)*1)) 3):=⟨_,rfl⟩;have hb1:Below w.heap.size w W1:=by rw[hW1];exact(Below.refl _ _).alloc (Nat.le_refl _) _
 have hr1:az W1 g 3 1 (x.ni+1) (He λ_=>false):=by
  rw[hW1,hg];exact(az.made (m:=1) w #[.int .i64 0] rfl (by omega) (x.ni+1) _)
 have h1:=h.below hb1;have aV:Hid (L7 w p b off x (XC b off cap x ds (.slice (some ⟨q,0,none⟩) (x.ni+1) (x.ni+1)) (.slice (some ⟨g,0,none⟩) (x.ni+1) (x.ni+1)) own sl un) q g (λ_=>false) (W1.setCell ⟨p,12,none⟩ (.slice (some ⟨g,0,none⟩) (x.ni+1) (x.ni+1)))):=
  ⟨h1.ID 12 _ mP Nb,hr1.only (an.setCell W1 ⟨p,12,none⟩ _) (show g≠p fromλe=>oC e.symm)⟩
 have c12:W1.cell? ⟨p,12,none⟩=some (.slice none 0 0):=h1.a.cell (i:=12) rfl;have f12:W1.frozen? ⟨p,12,none⟩=false:=ag h1.a 12;have cO:(W1.setCell ⟨p,12,none⟩ (.slice (some ⟨g,0,none⟩) (x.ni+1) (x.ni+1))).cell? ⟨p,5,none⟩=some (.int .u32 (x.o:Int)):=aV.out.s.a.cell (i:=5) rfl;have kf:w.heap.size<=g:=by omega
 rw[<-hW1] at hmk;have sH:=hid kf;obtain⟨cs,hcs⟩:∃cs,cs=XC b off cap x ds (.slice (some ⟨q,0,none⟩) (x.ni+1) (x.ni+1)) (.slice (some ⟨g,0,none⟩) (x.ni+1) (x.ni+1)) own sl un:=⟨_,rfl⟩;have gj:Hid (∀W,At W p 105 cs->W.cell? ⟨p,11,none⟩=some (.slice (some ⟨q,0,none⟩) (x.ni+1) (x.ni+1))/\W.cell? ⟨p,12,none⟩=some (.slice (some ⟨g,0,none⟩) (x.ni+1) (x.ni+1))/\At W p 105 (XC b off cap x ds (.slice (some ⟨q,0,none⟩) (x.ni+1) (x.ni+1)) (.slice (some ⟨g,0,none⟩) (x.ni+1) (x.ni+1)) own sl un)):=λW h=>by
  rw[hcs] at h;exact⟨h.cell (i:=11) rfl,h.cell (i:=12) rfl,h⟩
 rw[<-hcs] at aV;clear h h1 hb1 hr1 hW1 hx hg kf hcs;have Ux:(0:Int)<=(x.ni:Int)+1:=by omega
 go_enter Tryz.func80,Tryz.ntmps80;go_wp2_with fail;clear c11 hmk c12 f12 cO;go_loopw [2] (λu wr=>∃(t f:Nat) (m:Nat->Bool),u= .int .u32 (t:Int)/\t<4294967296/\x.ox f t m=x.mx/\aE m (x.ni+1)+f=x.ni+2/\L7 w p b off x cs q g m wr) (λ_ wr=>OG wr g (x.ni+1))
 case atStart=>exact⟨x.o,x.ni+2,λ_=>false,rfl,HX.out.o,rfl,by rw[kX (u:=0) (Nat.zero_le _) (λk _=>by simp)];omega,aV.out⟩
 case round=>
  clear aV;obtain⟨t,f,m,rfl,ht,Aw,hcn,st⟩:=hrel;have hcl:=eF m (x.ni+1);obtain⟨f,rfl⟩:∃f',f=f'+1:=⟨f-1,by omega⟩
  by_cases h0:t=0
  ·subst h0
   have hm:x.mx=some m:=by rw[<-Aw,Im.ox,if_pos rfl]
   have cf:=hid st;have HM:=hid hm;have mS:Hid (x.vC=aD (λt=>x.th m (t+1)) x.ni):=by show _=_;unfold Im.vC;rw[hm]
   clear Aw hcn hcl ht st hm;go_wp2_with fail;go_loopw [3] (λu wr=>∃k:Nat,k<=x.ni/\u= .int .i64 ((k:Int)+1)/\(∀t,t<k->x.th m (t+1)=true)/\L7 w p b off x cs q g m wr) (λu _=>x.ni+1-(intOf u).toNat)
   case atStart=>exact⟨0,Nat.zero_le _,rfl,λt h=>by omega,cf.out⟩
   case round=>
    clear cf;obtain⟨k,hk,rfl,hP,st⟩:=hrel;have lL:=hid hP;clear hP;obtain⟨c11,c12,_⟩:=gj.out _ st.s.a
    by_cases hlt:k<x.ni
    ·have hlt':(k:Int)+1<(x.ni:Int)+1:=by omega
     have k0:(0:Int)<=(k:Int)+1:=by omega
     have cO:=st.o.jU (show k+1<x.ni+1 by omega) (v:=.int .i64 (if m (k+1) then 1 else 0)) rfl;have cN:wr.cell? ⟨q,(k+1)*16+15,none⟩=some (.int .u32 (x.ino (k+1)).next):=st.s.ino (by omega) 15 rfl;have cK:wr.cell? ⟨q,(k+1)*16,none⟩=some (.int .u8 (x.ino (k+1)).kind):=st.s.ino (t:=k+1) (by omega) 0 rfl;have cL:wr.cell? ⟨q,(k+1)*16+1,none⟩=some (.int .i64 (x.ino (k+1)).aJ):=st.s.ino (by omega) 1 rfl;have ct:Hid (x.th m (k+1)=false->∀W',w.grownBy W' (some p)->nS w p b off cap x ds own sl un q (.panicked (r8 6)) W'):=λh W' hg=> .no (by rw[mS.out];exact bJ (p:=λt=>x.th m (t+1)) hlt h) hg
     have iE:Hid (x.th m (k+1)=(m (k+1)||((x.ino (k+1)).next==0&&((x.ino (k+1)).kind !=1||(x.ino (k+1)).aJ !=0)))):=rfl;have eJ:Hid (x.th m (k+1)=true->∀t,t<k+1->x.th m (t+1)=true):=λhc t ht=>by
      rcases Nat.lt_succ_iff_lt_or_eq.1 ht with h|h
      ·exact lL.out t h
      ·rw[h];exact hc
     have ST:=hid st;clear st lL;generalize x.th m (k+1)=ck at*;generalize (x.ino (k+1)).next=nx at*
     generalize (x.ino (k+1)).kind=kd at*;generalize (x.ino (k+1)).aJ=lk at*;cases hmk:m (k+1) with
     |true=>
      have HC:Hid (ck=true):=by show _=_;rw[iE.out,hmk];rfl
      rw[hmk,if_pos rfl] at cO;clear hmk iE;go_wp2_with fail;go_roundw
      case rel=>(try((repeat apply Exists.intro);refine⟨?_,rfl⟩));exact⟨k+1,by omega,by first|rfl|go_num,eJ.out HC.out,ST.out⟩
      case measure=>simp[intOf];omega
     |false=>
      have HC:Hid (ck=(nx==0&&(kd !=1||lk !=0))):=by show _=_;rw[iE.out,hmk];rfl
      rw[hmk,if_neg (by decide)] at cO;clear hmk iE;obtain⟨c1,hc1⟩:∃c,c=(nx==0):=⟨_,rfl⟩;have iX:=hid hc1;clear hc1;go_wp2_with fail;rw[<-iX.out];refine(bw 6 c1 _).mono ?_;rintro e w3 ⟨hS,rfl⟩;rcases hS with⟨rfl,rfl⟩|⟨rfl,rfl⟩
      rotate_left
      ·exact⟨rfl,ct.out (by rw[HC.out,<-iX.out];rfl) _ ST.out.s.gr⟩
      by_cases hk1:kd=1
      ·have q1:(kd !=1)=false:=by simp[hk1]
       obtain⟨c2,hc2⟩:∃c,c=(lk !=0):=⟨_,rfl⟩;have gM:=hid hc2;have Sk:=hid q1;clear hc2 hk1;go_wp2_with fail;rw[<-gM.out];refine(bw 6 c2 _).mono ?_;rintro e w3 ⟨hS,rfl⟩;rcases hS with⟨rfl,rfl⟩|⟨rfl,rfl⟩
       rotate_left
       ·exact⟨rfl,ct.out (by rw[HC.out,<-iX.out,<-gM.out,Sk.out];rfl) _ ST.out.s.gr⟩
       have HF:Hid (ck=true):=by show _=_;rw[HC.out,<-iX.out,<-gM.out];simp
       clear q1;go_wp2_with fail;go_roundw
       case rel=>(try((repeat apply Exists.intro);refine⟨?_,rfl⟩));exact⟨k+1,by omega,by first|rfl|go_num,eJ.out HF.out,ST.out⟩
       case measure=>simp[intOf];omega
      ·have q1:(kd !=1)=true:=by simp[hk1]
       have Sk:=hid q1;clear hk1;go_wp2_with fail;refine(gy 6 _).mono ?_;rintro e w3 ⟨rfl,rfl⟩;have HF:Hid (ck=true):=by show _=_;rw[HC.out,<-iX.out,Sk.out];rfl
       clear q1;go_wp2_with fail;go_roundw
       case rel=>(try((repeat apply Exists.intro);refine⟨?_,rfl⟩));exact⟨k+1,by omega,by first|rfl|go_num,eJ.out HF.out,ST.out⟩
       case measure=>simp[intOf];omega
    ·obtain rfl:k=x.ni:=by omega
     have ST:=hid st;clear st;go_wp2_with fail;refine bodyPost_end (results_none rfl _ _ _) rfl ⟨.inl ⟨by rw[mS.out];exact(aP _ _).2 lL.out,rfl⟩,ST.out.s.gr,λ_=>⟨m,g,HM.out,sH.out,(gj.out _ ST.out.s.a).2.2,ST.out.o⟩⟩
  ·have q0:((t:Int) !=0)=true:=by simp;omega
   have t0:(0:Int)<=(t:Int):=by omega
   obtain⟨c11,c12,_⟩:=gj.out _ st.s.a;have ct:Hid (¬(t<=x.ni/\m t=false/\(x.ino t).kind=1)->∀W',w.grownBy W' (some p)->nS w p b off cap x ds own sl un q (.panicked (r8 6)) W'):=λh W' hg=> .no (by unfold Im.vC;rw[<-Aw,Im.Bt h0 h]) hg
   have B8:Hid (t<=x.ni->m t=false->(x.ino t).kind=1->x.ox f (x.ino t).next.toNat (af m t true)=x.mx):=λh1 h2 h3=>by rw[<-Aw,Im.tN h0 h1 h2 h3]
   have Cc:=hid hcn;have ST:=hid st;clear Aw hcn hcl st h0;obtain⟨c1,hc1⟩:∃c,c=decide ((t:Int)<(x.ni:Int)+1):=⟨_,rfl⟩;have iX:=hid hc1;clear hc1;go_wp2_with fail;rw[<-iX.out];refine(bw 6 c1 _).mono ?_;rintro e w3 ⟨hS,rfl⟩;rcases hS with⟨rfl,rfl⟩|⟨rfl,rfl⟩
   rotate_left
   ·exact⟨rfl,ct.out (λh=>by have:=iX.out;rw[eq_comm,decide_eq_false_iff_not] at this;omega) _ ST.out.s.gr⟩
   have hti:t<=x.ni:=by have:=iX.out;rw[eq_comm,decide_eq_true_iff] at this;omega
   have US:(t:Int)<(x.ni:Int)+1:=by omega
   have cO:=ST.out.o.jU (show t<x.ni+1 by omega) (v:=.int .i64 (if m t then 1 else 0)) rfl;cases s4:m t with
   |true=>
    rw[s4,if_pos rfl] at cO;have TQ:=hid s4;clear s4;go_wp2_with fail;refine(gU 6 _).mono ?_;rintro e w3 ⟨rfl,rfl⟩;exact⟨rfl,ct.out (λh=>by rw[TQ.out] at h;cases h.2.1) _ ST.out.s.gr⟩
   |false=>
    rw[s4,if_neg (by decide)] at cO;have TQ:=hid s4;clear s4;have cK:wr.cell? ⟨q,t*16,none⟩=some (.int .u8 (x.ino t).kind):=ST.out.s.ino (t:=t) (by omega) 0 rfl;obtain⟨c2,hc2⟩:∃c,c=((x.ino t).kind==1):=⟨_,rfl⟩;have gM:=hid hc2;clear hc2;go_wp2_with fail;rw[<-gM.out];refine(bw 6 c2 _).mono ?_;rintro e w3 ⟨hS,rfl⟩;rcases hS with⟨rfl,rfl⟩|⟨rfl,rfl⟩
    rotate_left
    ·exact⟨rfl,ct.out (λh=>by have:=gM.out;rw[h.2.2] at this;cases this) _ ST.out.s.gr⟩
    have hk1:(x.ino t).kind=1:=by have:=gM.out;rw[eq_comm,beq_iff_eq] at this;exact this
    have hnx:=(Im.ry HX.out t).next
    have cN:wr.cell? ⟨q,t*16+15,none⟩=some (.int .u32 (x.ino t).next):=ST.out.s.ino (by omega) 15 rfl;have fO:=ST.out.o.soft t;have fv:Hid (L7 w p b off x cs q g (af m t true) (wr.setCell ⟨g,t,none⟩ (.int .i64 1))):=ST.out.mark (by omega) oC hbg BG sH.out;have jA:=hid (B8.out hti TQ.out hk1);have A8:Hid (aE (af m t true) (x.ni+1)=aE m (x.ni+1)+1):=fH (by omega) TQ.out;have HZ:Hid (OG (wr.setCell ⟨g,t,none⟩ (.int .i64 1)) g (x.ni+1)<OG wr g (x.ni+1)):=by
     have z1:=uM ST.out.o;have z2:=uM fv.out.o;have z3:=A8.out;have:aE (af m t true) (x.ni+1)<=x.ni+1:=eF _ _;show _<_;omega
    clear hk1;generalize (x.ino t).next=nx at*
    go_wp2_with fail;go_roundw
    case rel=>(try((repeat apply Exists.intro);refine⟨?_,rfl⟩));exact⟨nx.toNat,f,af m t true,int_eq (by omega),by omega,jA.out,by have:=Cc.out;have:=A8.out;omega,fv.out⟩
    case measure=>exact HZ.out
def mw(o:Nat->Nat)(i:Nat):List Value:=[.int .i64 ((o i:Nat):Int)]
theorem qZ(o:Nat->Nat)(i:Nat):(mw o i).length=1:=rfl
structure wZ(w:World)(p b off:Nat)(x:Im)(cs:Array Value)(q g:Nat)(o:Nat->Nat)(W:World):Prop where
 s:ji w p b off x cs q W
 o:az W g 3 1 x.n (mw o)
section
variable {w:World} {p b off:Nat} {x:Im} {cs:Array Value} {q g:Nat} {o:Nat->Nat} {W W':World}
theorem wZ.below(h:wZ w p b off x cs q g o W)(hb:Below W.heap.size W W'):wZ w p b off x cs q g o W':=⟨h.s.below hb,h.o.below hb⟩
theorem wZ.set(h:wZ w p b off x cs q g o W){v:Nat}(hv:v<x.n)(t:Nat)(h1:p≠g)(h2:b≠g)(h3:q≠g)(h4:w.heap.size<=g):wZ w p b off x cs q g (af o v t) (W.setCell ⟨g,v,none⟩ (.int .i64 (t:Int))):=by
 have ho:an g W (W.setCell ⟨g,v,none⟩ (.int .i64 (t:Int))):=an.setCell W ⟨g,v,none⟩ _;refine⟨h.s.only ho h1 h2 h3 h4,?_⟩;have:=h.o.dz (k:=v) (j:=0) hv (by decide) (λi=>qZ o i) (.int .i64 (t:Int));rw[Nat.mul_one,Nat.add_zero] at this;refine this.congr λi hi=> ?_
 unfold mw af
 by_cases e:i=v
 ·rw[if_pos e,if_pos e];rfl
 ·rw[if_neg e,if_neg e]
end
def j5(w:World)(p b off:Nat)(x:Im)(cs:Array Value)(q g:Nat)(r:Option (Nat->Nat))(e:Ending)(W':World):Prop:=
 (r=none/\e= .panicked (r8 7)/\w.grownBy W' (some p))\/∃o',r=some o'/\e= .returned (.tuple #[])/\wZ w p b off x cs q g o' W'
namespace Im
variable {x:Im}
theorem MA(t l first en:Nat)(o:Nat->Nat):x.ek t l 0 first en o=some o:=CU x t l first en o
theorem IP{en:Nat}(h0:p≠0)(h:¬(first<min en 65536/\x.data p=true/\o p=0)):x.ek t l p first en o=none:=by
 cases l<;>rw[ek,if_neg h0,if_neg h]
theorem IQ{en:Nat}(h0:p≠0)(h:first<min en 65536/\x.data p=true/\o p=0):x.ek t 0 p first en o=some (af o p t):=by
 rw[ek,if_neg h0,if_pos h]
theorem Mz{en:Nat}(h0:p≠0)(h:first<min en 65536/\x.data p=true/\o p=0):x.ek t (l+1) p first en o=aS (λk o=>x.ek t l (x.sJ p k) (first+k*fL l) en o) 64 (af o p t):=by
 rw[ek,if_neg h0,if_pos h]
theorem mW(hx:x.Ok)(p k:Nat):((x.sJ p k:Nat):Int)=b9 (x.L p) (4*k)/\x.sJ p k<4294967296:=by
 have:=dA (hx.jg p) (4*k);unfold sJ;omega
end Im
theorem dK(b off:Nat)(W:World):(Instr.sliceAt 32 (.pointer (some ⟨b,off,none⟩)) none none none).run Tryz.prog W= .ok (.slice (some ⟨b,off,none⟩) 256 256) W:=by kernel_rfl
theorem rY(p b off cap:Nat)(x:Im)(hx:x.Ok)(ds ak sl un:Value)(q g:Nat)(w:World)(oC:p≠g)(hbg:b≠g)(BG:q≠g)(kf:w.heap.size<=g)(t en:Nat)(ht:t<100000)(hen:(en:Int)<=9223372036854775807)(l:Nat)(hl:l<=3)
  (ih:∀l',l=l'+1->∀(v first:Nat) (o:Nat->Nat) (W:World),v<4294967296->first+Im.fL l'<=1000000->wZ w p b off x (XC b off cap x ds (.slice (some ⟨q,0,none⟩) (x.ni+1) (x.ni+1)) ak (.slice (some ⟨g,0,none⟩) x.n x.n) sl un) q g o W->
   Calls Tryz.prog 130 #[.pointer (some ⟨p,0,none⟩),.int .i64 (t:Int),.int .u32 (v:Int),.int .i64 (l':Int),.int .i64 (first:Int),.int .i64 (en:Int)] W λe W'=>j5 w p b off x (XC b off cap x ds (.slice (some ⟨q,0,none⟩) (x.ni+1) (x.ni+1)) ak (.slice (some ⟨g,0,none⟩) x.n x.n) sl un) q g (x.ek t l' v first en o) e W')
  (v first:Nat) (o:Nat->Nat) (W:World) (hv:v<4294967296) (hf:first+Im.fL l<=1000000) (h:wZ w p b off x (XC b off cap x ds (.slice (some ⟨q,0,none⟩) (x.ni+1) (x.ni+1)) ak (.slice (some ⟨g,0,none⟩) x.n x.n) sl un) q g o W):
  Calls Tryz.prog 130 #[.pointer (some ⟨p,0,none⟩),.int .i64 (t:Int),.int .u32 (v:Int),.int .i64 (l:Int),.int .i64 (first:Int),.int .i64 (en:Int)] W λe W'=>j5 w p b off x (XC b off cap x ds (.slice (some ⟨q,0,none⟩) (x.ni+1) (x.ni+1)) ak (.slice (some ⟨g,0,none⟩) x.n x.n) sl un) q g (x.ek t l v first en o) e W':=by
 obtain⟨cs,hcs⟩:∃cs,cs=XC b off cap x ds (.slice (some ⟨q,0,none⟩) (x.ni+1) (x.ni+1)) ak (.slice (some ⟨g,0,none⟩) x.n x.n) sl un:=⟨_,rfl⟩;have gj:Hid (∀W,At W p 105 cs->W.cell? ⟨p,0,none⟩=some (.slice (some ⟨b,off,none⟩) x.n cap)/\W.cell? ⟨p,13,none⟩=some (.slice (some ⟨g,0,none⟩) x.n x.n)/\XG p x.g x.s x.i x.j W):=λW h=>by
  rw[hcs] at h;exact⟨h.cell (i:=0) rfl,h.cell (i:=13) rfl,XG.of h⟩
 have XL:=hid ih;rw[<-hcs] at h XL ⊢;clear hcs ih;have HX:=hid hx;have fY:=hx.iu;have ST:=hid h;clear h hx
 by_cases hv0:v=0
 ·subst hv0
  have wY:Hid (j5 w p b off x cs q g (x.ek t l 0 first en o) (.returned (.tuple #[])) W):=.inr ⟨o,Im.MA ..,rfl,ST.out⟩;go_enter Tryz.func130,Tryz.ntmps130;go_wp2_with fail;refine bodyPost_ret (results_none rfl _ _ _) rfl wY.out
 have q0:((v:Int)==0)=false:=by simp;omega
 have HV0:Hid (v≠0):=hv0;have ct:Hid (¬(first<min en 65536/\x.data v=true/\o v=0)->∀W',w.grownBy W' (some p)->j5 w p b off x cs q g (x.ek t l v first en o) (.panicked (r8 7)) W'):=λh W' hg=> .inl ⟨Im.IP hv0 h,rfl,hg⟩
 clear hv0;go_enter Tryz.func130,Tryz.ntmps130;go_wp2_with fail;refine(bw 7 (decide ((first:Int)<min (en:Int) 65536)) _).mono ?_;rintro e w1 ⟨hS,rfl⟩;rcases hS with⟨hc1,rfl⟩|⟨hc1,rfl⟩
 rotate_left
 ·exact⟨rfl,ct.out (λh=>by rw[decide_eq_false_iff_not] at hc1;omega) _ ST.out.s.gr⟩
 have iX:=hid (of_decide_eq_true hc1);clear hc1;have c0:=(gj.out _ ST.out.s.a).1;have v0:(0:Int)<=(v:Int):=by omega
 have v9:(v:Int)<4294967296:=by omega
 go_wp2_with fail;refine(bw 7 (decide (v<x.n)) _).mono ?_;rintro e w1 ⟨hS,rfl⟩;rcases hS with⟨hc2,rfl⟩|⟨hc2,rfl⟩
 rotate_left
 ·exact⟨rfl,ct.out (λh=>by have:=of_decide_eq_false hc2;have h2:=h.2.1;unfold Im.data at h2;rw[Bool.and_eq_true,Bool.and_eq_true,decide_eq_true_eq,decide_eq_true_eq] at h2;omega) _ ST.out.s.gr⟩
 have Au:v<x.n:=of_decide_eq_true hc2;clear hc2;have UP:(v:Int)<(x.n:Int):=by omega
 have hg:=(gj.out _ ST.out.s.a).2.2;clear c0;go_wp2_with (first|(refine aB rfl 23 (.tmp 42) rfl p 6 (aa x.g x.s x.i x.j).toList _ rfl hg Tryz.underlying23 rfl (by kernel_rfl) ?_))
 refine(Ct x.g x.s x.i x.j v (by omega) (by omega) _).mono ?_;rintro e w2 ⟨K,A,B,rfl,hK,hb2⟩;have JK:=Cr HX.out Au hK;have cf:=hid (ST.out.below hb2);clear hg ST hb2 hK;cases hd:x.data v with
 |false=>
  rw[hd] at JK;have HD:=hid hd;clear hd;go_wp2_with fail;refine(gU 7 _).mono ?_;rintro e w3 ⟨rfl,rfl⟩;exact⟨rfl,ct.out (λh=>by rw[HD.out] at h;cases h.2.1) _ cf.out.s.gr⟩
 |true=>
 rw[hd] at JK;have HD:=hid hd;clear hd;have c13:=(gj.out _ cf.out.s.a).2.1;have cO:=cf.out.o.jU Au (v:=.int .i64 ((o v:Nat):Int)) rfl;obtain⟨ov,hov⟩:∃z:Int,z=((o v:Nat):Int):=⟨_,rfl⟩;have Sl:=hid hov;rw[<-hov] at cO;clear hov;obtain⟨c3,hc3⟩:∃c,c=(ov==0):=⟨_,rfl⟩;have uI:=hid hc3;clear hc3;go_wp2_with fail;rw[<-uI.out];refine(bw 7 c3 _).mono ?_;rintro e w3 ⟨hS,rfl⟩;rcases hS with⟨rfl,rfl⟩|⟨rfl,rfl⟩
 rotate_left
 ·exact⟨rfl,ct.out (λh=>by have:=uI.out;rw[Sl.out,h.2.2] at this;cases this) _ cf.out.s.gr⟩
 have gi:Hid (first<min en 65536/\x.data v=true/\o v=0):=by
  have h1:=iX.out;have h3:=uI.out;rw[eq_comm,beq_iff_eq] at h3;have:=Sl.out;exact⟨by omega,HD.out,by omega⟩
 have fO:=cf.out.o.soft v;have WX:=hid (cf.out.set Au t oC hbg BG kf);clear ct iX uI
 by_cases hl0:l=0
 ·subst hl0
  have wY:Hid (j5 w p b off x cs q g (x.ek t 0 v first en o) (.returned (.tuple #[])) (w2.setCell ⟨g,v,none⟩ (.int .i64 (t:Int)))):=.inr ⟨_,Im.IQ HV0.out gi.out,rfl,WX.out⟩;go_wp2_with fail;refine bodyPost_ret (results_none rfl _ _ _) rfl wY.out
 obtain⟨l,rfl⟩:∃l',l=l'+1:=⟨l-1,by omega⟩;have Si:Hid (x.ek t (l+1) v first en o=aS (λk o=>x.ek t l (x.sJ v k) (first+k*Im.fL l) en o) 64 (af o v t)):=Im.Mz HV0.out gi.out;have zw:=hid (XL.out l rfl);have q1:((l:Int)+1==0)=false:=by simp;omega
 have Qt:Im.fL (l+1)=64*Im.fL l:=by unfold Im.fL;rw[Nat.pow_succ,Nat.mul_comm]
 rw[Qt] at hf;clear XL gi hl0 Qt;go_wp2_with fail;refine(gv l (by omega) _).mono ?_;rintro e w3 ⟨rfl,rfl⟩;obtain⟨sp,hsp⟩:∃sp,sp=Im.fL l:=⟨_,rfl⟩;have TM:=hid hsp;rw[<-hsp] at hf ⊢;clear hsp fO cO c13;go_wp2_with fail;go_loopw [74] (λu wr=>∃(k:Nat) (o':Nat->Nat),k<=64/\u= .int .i64 (k:Int)/\aS (λk o=>x.ek t l (x.sJ v k) (first+k*Im.fL l) en o) k (af o v t)=some o'/\wZ w p b off x cs q g o' wr) (λu _=>64-(intOf u).toNat)
 case atStart=>exact⟨0,af o v t,Nat.zero_le _,rfl,rfl,WX.out⟩
 case round=>
  clear WX cf;obtain⟨k,o',hk,rfl,hfo,st⟩:=hrel;have ss:=hid hfo;have ST:=hid st;clear hfo st
  by_cases hlt:k<64
  ·have hlt':(k:Int)<64:=by omega
   have k0:(0:Int)<=(k:Int):=by omega
   have c0:=(gj.out _ ST.out.s.a).1;have hseg:Seg wr b (off+v*256) 256 (x.L v):=λi hi=>ST.out.s.i v Au i _ (by show(Ks .u8 256 (x.L v))[i]? =_;exact j6 _ _ _ _ hi)
   have hsl:=λW=>dK b (off+v*256) W
   have e4:(4*(k:Int)).toNat=4*k:=by omega
   have HW:Hid (b9 (x.L v) (4*k)=((x.sJ v k:Nat):Int)):=(Im.mW HX.out v k).1.symm;have Hf:=(Im.mW HX.out v k).2;obtain⟨F,hF⟩:∃F,F=first+k*Im.fL l:=⟨_,rfl⟩
   obtain⟨M,hM⟩:∃M,M=k*sp:=⟨_,rfl⟩;have hmi:(k:Int)*(sp:Int)=(M:Int):=by rw[hM];exact(Int.natCast_mul _ _).symm
   have OR:M+sp<=64*sp:=by
    have:(k+1)*sp<=64*sp:=Nat.mul_le_mul_right _ hlt;rw[Nat.succ_mul] at this;omega
   have hfi:(first:Int)+(M:Int)=(F:Int):=by rw[hF,<-TM.out,<-hM];omega
   have Nq:F+Im.fL l<=1000000:=by rw[hF,<-TM.out,<-hM];omega
   have HF:=hid hF;have HF9:=hid Nq;have f9:(F:Int)<=1000000:=by omega
   have f0:(0:Int)<=(F:Int):=by omega
   have B9:=hid hseg;have SA:=hid e4;clear hF hM Nq hseg e4;go_wp2_with fail;refine(g7 b (off+v*256) 256 256 (4*(k:Int)) (x.L v) _ (by decide) (by omega) (by omega) B9.out (HX.out.jg v)).mono ?_;rintro e w4 ⟨rfl,rfl⟩;rw[SA.out,HW.out];obtain⟨vw,MX⟩:∃z,z=x.sJ v k:=⟨_,rfl⟩;have TJ:=hid MX;rw[<-MX] at Hf ⊢;clear MX c0 hsl SA HW B9;go_wp2_with fail;refine(zw.out vw F o' _ Hf HF9.out ST.out).mono ?_;rintro e w5 hp;have YY:x.ek t l vw F en o'=(λk o=>x.ek t l (x.sJ v k) (first+k*Im.fL l) en o) k o':=by rw[TJ.out,HF.out]
   rw[YY] at hp;rcases hp with⟨hn,rfl,hgr⟩|⟨o2,hs,rfl,hst⟩
   ·exact⟨rfl,.inl ⟨by rw[Si.out];exact cV ss.out hn hlt,rfl,hgr⟩⟩
   have HN:=hid (bA ss.out hs);have ec:=hid hst;clear hs hst YY ST ss hmi OR hfi f9 f0;go_wp2_with fail;go_roundw
   case rel=>(try((repeat apply Exists.intro);refine⟨?_,rfl⟩));exact⟨k+1,o2,by omega,by first|rfl|go_num,HN.out,ec.out⟩
   case measure=>simp[intOf];omega
  ·obtain rfl:k=64:=by omega
   go_wp2_with fail;refine bodyPost_end (results_none rfl _ _ _) rfl (.inr ⟨o',by rw[Si.out];exact ss.out,rfl,ST.out⟩)
theorem ur(p b off cap:Nat)(x:Im)(hx:x.Ok)(ds ak sl un:Value)(q g:Nat)(w:World)(oC:p≠g)(hbg:b≠g)(BG:q≠g)(kf:w.heap.size<=g)(t en:Nat)(ht:t<100000)(hen:(en:Int)<=9223372036854775807):∀(l:Nat),l<=3->
  ∀(v first:Nat) (o:Nat->Nat) (W:World),v<4294967296->first+Im.fL l<=1000000->wZ w p b off x (XC b off cap x ds (.slice (some ⟨q,0,none⟩) (x.ni+1) (x.ni+1)) ak (.slice (some ⟨g,0,none⟩) x.n x.n) sl un) q g o W->
  Calls Tryz.prog 130 #[.pointer (some ⟨p,0,none⟩),.int .i64 (t:Int),.int .u32 (v:Int),.int .i64 (l:Int),.int .i64 (first:Int),.int .i64 (en:Int)] W λe W'=>j5 w p b off x (XC b off cap x ds (.slice (some ⟨q,0,none⟩) (x.ni+1) (x.ni+1)) ak (.slice (some ⟨g,0,none⟩) x.n x.n) sl un) q g (x.ek t l v first en o) e W'
 |0,hl,v,first,o,W,hv,hf,h=>rY p b off cap x hx ds ak sl un q g w oC hbg BG kf t en ht hen 0 hl (λl' e=>by omega) v first o W hv hf h
 |l+1,hl,v,first,o,W,hv,hf,h=>rY p b off cap x hx ds ak sl un q g w oC hbg BG kf t en ht hen (l+1) hl (λl' e v first o W=>by
   obtain rfl:l'=l:=by omega
   exact ur p b off cap x hx ds ak sl un q g w oC hbg BG kf t en ht hen l' (by omega) v first o W) v first o W hv hf h
end Go.Proofs.YtphamecphmbipaaGreatDoor
