/- Texts of this claim, merged. -/
import Derived.Test.YtphamecphmbipaaGreatDoorZ19
set_option linter.unusedVariables false
set_option maxRecDepth 100000
set_option maxHeartbeats 16000000

namespace Go.Proofs.YtphamecphmbipaaGreatDoor
open Go.RowKit
variable {g t p off q l first:Nat} {v:Value} {T:TypeId} {f:Nat->List Value} {m:Nat->Bool} {w:World} {x:Im} {o:Nat->Nat}
structure jz(w:World)(p b off:Nat)(x:Im)(cs:Array Value)(q:Nat)(W:World):Prop where
 a:At W p 105 cs
 i:aM W b off 256 x.n (dR x.L)
 r:aE W q 63 16 (x.ni+1) (jL x)
 bl:b<W.heap.size
 gr:w.grownBy W (some p)
section
variable {w:World} {p b off:Nat} {x:Im} {cs:Array Value} {q:Nat} {W W':World}
theorem jz.below(h:jz w p b off x cs q W)(hb:Below W.heap.size W W'):jz w p b off x cs q W':=
 ⟨h.a.below hb h.a.lt,aM.below h.i hb h.bl,h.r.below hb,Nat.lt_of_lt_of_le h.bl hb.size,dC h.gr (bB hb)⟩
theorem jz.only(h:jz w p b off x cs q W)(ho:az g W W')(h1:p≠g)(h2:b≠g)(h3:q≠g)(h4:w.heap.size<=g):jz w p b off x cs q W':=
 ⟨h.a.only ho h1,aM.only h.i ho h2,h.r.only ho h3,by rw[ho.size];exact h.bl,
  ⟨ho.os.trans h.gr.os,ho.tape.trans h.gr.tape,ho.output.trans h.gr.output,by rw[ho.size];exact h.gr.size,λj hj hne=>(ho.block j (by omega)).trans (h.gr.block j hj hne)⟩⟩
theorem jz.I9(h:jz w p b off x cs q W)(j:Nat)(v:Value)(hb:b≠p)(hq:q≠p):jz w p b off x (cs.setIfInBounds j v) q (W.setCell ⟨p,j,none⟩ v):=by
 have ho:az p W (W.setCell ⟨p,j,none⟩ v):=az.setCell W ⟨p,j,none⟩ v;exact⟨h.a.xO j v,aM.only h.i ho hb,h.r.only ho hq,by rw[ho.size];exact h.bl,dC h.gr (fD ho)⟩
theorem jz.ino(h:jz w p b off x cs q W)(ht:t<x.ni+1)(j:Nat)(hv:(x.ino t).arr[j]? =some v):W.cell? ⟨q,t*16+j,none⟩=some v:=by
 have:=h.r.bQ t ht j v (by show(x.ino t).arr.toList[j]? =some v;rw[Array.getElem?_toList];exact hv);rwa[Nat.zero_add] at this
end
theorem A4(p b off cap:Nat)(x:Im)(ds ay own sl un:Value)(q:Nat)(w:World)(hn:1<=x.ni)(h:jz w p b off x (XC b off cap x ds (.slice (some ⟨q,0,none⟩) (x.ni+1) (x.ni+1)) ay own sl un) q w):
  Calls Tryz.prog 79 #[.pointer (some ⟨p,0,none⟩)] w λe w'=>pT ((x.ino 1).kind==2) 5 e/\w=w':=by
 have c11:w.cell? ⟨p,11,none⟩=some (.slice (some ⟨q,0,none⟩) (x.ni+1) (x.ni+1)):=h.a.cell (i:=11) rfl;have ck:=h.ino (t:=1) (by omega) 0 (v:=.int .u8 (x.ino 1).kind) rfl;have hlt:(1:Int)<(x.ni:Int)+1:=by omega
 obtain⟨c,hc⟩:=aa (((x.ino 1).kind==2));have HC:=ah hc;rw[<-hc];rw[Nat.one_mul,Nat.add_zero] at ck;clear h hc;go_enter Tryz.func79,Tryz.ntmps79;go_wp2_with fail;rw[<-HC.Z];refine(bJ 5 c _).mono ?_;rintro e w1 ⟨hS,rfl⟩;rcases hS with⟨rfl,rfl⟩|⟨rfl,rfl⟩
 ·go_wp2_with fail
  refine bodyPost_end (results_none rfl _ _ _) rfl ⟨.inl ⟨rfl,rfl⟩,rfl⟩
 exact⟨rfl,.inr ⟨rfl,rfl⟩,rfl⟩
theorem AE:(Tryz.prog.info? 3).map (λi=>(i.zero,i.size,i.bytes))=some (some (.int .i64 0),1,8):=by kernel_rfl
theorem jW(n:Nat)(hn:n<=2048)(W:World):(Instr.makeSlice 37 (.int .i64 (n:Int)) (.int .i64 (n:Int))).run Tryz.prog W= .ok (.slice (some ⟨W.heap.size,0,none⟩) n n) (W.alloc (.cells (madeCells #[.int .i64 0] (n*1)) 3)):=
 dx (P:=Tryz.prog) 37 3 (.int .i64 0) 1 8 Tryz.underlying37 AE .i64 .i64 n (by omega) (by omega) W
def Ie(m:Nat->Bool)(i:Nat):List Value:=[.int .i64 (if m i then 1 else 0)]
theorem Jw(m:Nat->Bool)(i:Nat):(Ie m i).length=1:=rfl
theorem aE.j8{W:World}{n:Nat}(h:aE W g T 1 n f){i:Nat}(hi:i<n)(hv:f i=[v]):W.cell? ⟨g,i,none⟩=some v:=by
 have:=h.bQ i hi 0 v (by rw[hv];rfl);rwa[Nat.zero_add,Nat.mul_one,Nat.add_zero] at this
theorem aE.soft{W:World}{n m:Nat}(h:aE W g T m n f)(j:Nat):W.frozen? ⟨g,j,none⟩=false:=by
 obtain⟨cs,h1,_⟩:=h.blk;exact an h1 j
def JF:Option Value->Bool
 |some (.int .i64 n)=>n==0
 |_=>false
def Pb(W:World)(g n:Nat):Nat:=aL (λi=>JF (W.cell? ⟨g,i,none⟩)) n
theorem uY{W:World}{n:Nat}(h:aE W g T 1 n (Ie m)):Pb W g n+aL m n=n:=by
 have key:∀k,k<=n->aL (λi=>JF (W.cell? ⟨g,i,none⟩)) k+aL m k=k:=by
  intro k
  induction k with
  |zero=>intro _;rfl
  |succ k ih=>
   intro hk;have hc:=h.j8 (show k<n by omega) (v:=.int .i64 (if m k then 1 else 0)) rfl;rw[aL,aL];have:=ih (by omega);cases hm:m k with
   |true=>
    rw[hm,if_pos rfl] at hc;have:JF (W.cell? ⟨g,k,none⟩)=false:=by rw[hc];rfl
    rw[this,if_pos rfl,if_neg (by decide)];omega
   |false=>
    rw[hm,if_neg (by decide)] at hc;have:JF (W.cell? ⟨g,k,none⟩)=true:=by rw[hc];rfl
    rw[this,if_pos rfl,if_neg (by decide)];omega
 exact key n af
structure My(w:World)(p b off:Nat)(x:Im)(cs:Array Value)(q g:Nat)(m:Nat->Bool)(W:World):Prop where
 s:jz w p b off x cs q W
 o:aE W g 3 1 (x.ni+1) (Ie m)
theorem My.mark{b:Nat}{cs:Array Value}{W:World}(h:My w p b off x cs q g m W)(ht:t<x.ni+1)(h1:p≠g)(h2:b≠g)(h3:q≠g)(h4:w.heap.size<=g):
  My w p b off x cs q g (ak m t true) (W.setCell ⟨g,t,none⟩ (.int .i64 1)):=by
 have ho:az g W (W.setCell ⟨g,t,none⟩ (.int .i64 1)):=az.setCell W ⟨g,t,none⟩ _;refine⟨h.s.only ho h1 h2 h3 h4,?_⟩;have:=h.o.dO (k:=t) (j:=0) ht (by decide) (λi=>Jw m i) (.int .i64 1);rw[Nat.mul_one,Nat.add_zero] at this;refine this.congr λi hi=> ?_
 unfold Ie ak
 by_cases e:i=t
 ·rw[if_pos e,if_pos e];rfl
 rw[if_neg e,if_neg e]
namespace Im
def vP(x:Im):Bool:=match x.mH with
 |none=>false
 |some m=>aK (λt=>x.tB m (t+1)) x.ni
end Im
def oa(w:World)(p b off cap:Nat)(x:Im)(ds own sl un:Value)(q:Nat)(e:Ending)(w':World):Prop:=
 pT x.vP 6 e/\w.grownBy w' (some p)/\(x.vP=true->∃m g,x.mH=some m/\w.heap.size<=g/\At w' p 105 (XC b off cap x ds (.slice (some ⟨q,0,none⟩) (x.ni+1) (x.ni+1)) (.slice (some ⟨g,0,none⟩) (x.ni+1) (x.ni+1)) own sl un)/\aE w' g 3 1 (x.ni+1) (Ie m))
theorem oa.no{b cap:Nat}{ds own sl un:Value}{w':World}(h:x.vP=false)(hg:w.grownBy w' (some p)):oa w p b off cap x ds own sl un q (.panicked (sB 6)) w':=
 ⟨.inr ⟨h,rfl⟩,hg,λe=>by rw[h] at e;cases e⟩
theorem tx(p b off cap:Nat)(x:Im)(hx:x.Ok)(ds own sl un:Value)(q:Nat)(w:World)(mZ:b≠p)(NF:q≠p)(h:jz w p b off x (XC b off cap x ds (.slice (some ⟨q,0,none⟩) (x.ni+1) (x.ni+1)) (.slice none 0 0) own sl un) q w):
  Calls Tryz.prog 80 #[.pointer (some ⟨p,0,none⟩)] w λe w'=>oa w p b off cap x ds own sl un q e w':=by
 have HX:=ah hx;have hni:x.ni<=256:=eX hx.may;have gQ:(x.o:Int)<4294967296:=by have:=hx.o;omega
 have c11:w.cell? ⟨p,11,none⟩=some (.slice (some ⟨q,0,none⟩) (x.ni+1) (x.ni+1)):=h.a.cell (i:=11) rfl;obtain⟨g,hg⟩:=aa w.heap.size;have oR:p≠g:=by rw[hg];exact Nat.ne_of_lt h.a.lt
 have hbg:b≠g:=by rw[hg];exact Nat.ne_of_lt h.bl
 have BT:q≠g:=by rw[hg];exact Nat.ne_of_lt h.r.lt
 have hmk:(Instr.makeSlice 37 (.int .i64 ((x.ni:Int)+1)) (.int .i64 ((x.ni:Int)+1))).run Tryz.prog w= .ok (.slice (some ⟨g,0,none⟩) (x.ni+1) (x.ni+1)) (w.alloc (.cells (madeCells #[.int .i64 0] ((x.ni+1)*1)) 3)):=by
  rw[hg];exact jW (x.ni+1) (by omega) w
 obtain⟨W1,hW1⟩:=aa (w.alloc (.cells (madeCells #[.int .i64 0] ((x.ni+1)*1)) 3));have hb1:Below w.heap.size w W1:=by rw[hW1];exact ag.alloc af _
 have hr1:aE W1 g 3 1 (x.ni+1) (Ie λ_=>false):=by
  rw[hW1,hg];exact(aE.made (m:=1) w #[.int .i64 0] rfl (by omega) (x.ni+1) _)
 have h1:=h.below hb1;have bh:Hd (My w p b off x (XC b off cap x ds (.slice (some ⟨q,0,none⟩) (x.ni+1) (x.ni+1)) (.slice (some ⟨g,0,none⟩) (x.ni+1) (x.ni+1)) own sl un) q g (λ_=>false) (W1.setCell ⟨p,12,none⟩ (.slice (some ⟨g,0,none⟩) (x.ni+1) (x.ni+1)))):=
  ⟨h1.I9 12 _ mZ NF,hr1.only (az.setCell W1 ⟨p,12,none⟩ _) (show g≠p fromλe=>oR e.symm)⟩
 have c12:W1.cell? ⟨p,12,none⟩=some (.slice none 0 0):=h1.a.cell (i:=12) rfl;have f12:W1.frozen? ⟨p,12,none⟩=false:=an h1.a 12;have cO:(W1.setCell ⟨p,12,none⟩ (.slice (some ⟨g,0,none⟩) (x.ni+1) (x.ni+1))).cell? ⟨p,5,none⟩=some (.int .u32 (x.o:Int)):=bh.Z.s.a.cell (i:=5) rfl;have kv:w.heap.size<=g:=by omega
 rw[<-hW1] at hmk;have sV:=ah kv;obtain⟨cs,hcs⟩:=aa (XC b off cap x ds (.slice (some ⟨q,0,none⟩) (x.ni+1) (x.ni+1)) (.slice (some ⟨g,0,none⟩) (x.ni+1) (x.ni+1)) own sl un);have gA:Hd (∀W,At W p 105 cs->W.cell? ⟨p,11,none⟩=some (.slice (some ⟨q,0,none⟩) (x.ni+1) (x.ni+1))/\W.cell? ⟨p,12,none⟩=some (.slice (some ⟨g,0,none⟩) (x.ni+1) (x.ni+1))/\At W p 105 (XC b off cap x ds (.slice (some ⟨q,0,none⟩) (x.ni+1) (x.ni+1)) (.slice (some ⟨g,0,none⟩) (x.ni+1) (x.ni+1)) own sl un)):=λW h=>by
  rw[hcs] at h;exact⟨h.cell (i:=11) rfl,h.cell (i:=12) rfl,h⟩
 rw[<-hcs] at bh;clear h h1 hb1 hr1 hW1 hx hg kv hcs;have UZ:(0:Int)<=(x.ni:Int)+1:=by omega
 go_enter Tryz.func80,Tryz.ntmps80;go_wp2_with fail;clear c11 hmk c12 f12 cO;go_loopw [2] (λu wr=>∃(t f:Nat) (m:Nat->Bool),u= .int .u32 (t:Int)/\t<4294967296/\x.oL f t m=x.mH/\aL m (x.ni+1)+f=x.ni+2/\My w p b off x cs q g m wr) (λ_ wr=>Pb wr g (x.ni+1))
 case atStart=>exact⟨x.o,x.ni+2,λ_=>false,rfl,HX.Z.o,rfl,by rw[ly (u:=0) (Nat.zero_le _) (λk _=>by simp)];omega,bh.Z⟩
 clear bh;obtain⟨t,f,m,rfl,ht,AO,hcn,st⟩:=hrel;have hcl:=eT m (x.ni+1);obtain⟨f,rfl⟩:∃f',f=f'+1:=⟨f-1,by omega⟩
 by_cases h0:t=0
 ·subst h0
  have hm:x.mH=some m:=by rw[<-AO,Im.oL,if_pos rfl]
  have bW:=ah st;have HM:=ah hm;have m7:Hd (x.vP=aK (λt=>x.tB m (t+1)) x.ni):=by show _=_;unfold Im.vP;rw[hm]
  clear AO hcn hcl ht st hm;go_wp2_with fail;go_loopw [3] (λu wr=>∃k:Nat,k<=x.ni/\u= .int .i64 ((k:Int)+1)/\(∀t,t<k->x.tB m (t+1)=true)/\My w p b off x cs q g m wr) (λu _=>x.ni+1-(intOf u).toNat)
  case atStart=>exact⟨0,Nat.zero_le _,rfl,λt h=>by omega,bW.Z⟩
  clear bW;obtain⟨k,hk,rfl,hP,st⟩:=hrel;have lW:=ah hP;clear hP;obtain⟨c11,c12,_⟩:=gA.Z _ st.s.a
  by_cases hlt:k<x.ni
  ·have hlt':(k:Int)+1<(x.ni:Int)+1:=by omega
   have k0:(0:Int)<=(k:Int)+1:=by omega
   have cO:=st.o.j8 (show k+1<x.ni+1 by omega) (v:=.int .i64 (if m (k+1) then 1 else 0)) rfl;have cN:wr.cell? ⟨q,(k+1)*16+15,none⟩=some (.int .u32 (x.ino (k+1)).next):=st.s.ino (by omega) 15 rfl;have cK:wr.cell? ⟨q,(k+1)*16,none⟩=some (.int .u8 (x.ino (k+1)).kind):=st.s.ino (t:=k+1) (by omega) 0 rfl;have cL:wr.cell? ⟨q,(k+1)*16+1,none⟩=some (.int .i64 (x.ino (k+1)).aQ):=st.s.ino (by omega) 1 rfl;have cY:Hd (x.tB m (k+1)=false->∀W',w.grownBy W' (some p)->oa w p b off cap x ds own sl un q (.panicked (sB 6)) W'):=λh W' hg=> .no (by rw[m7.Z];exact bR (p:=λt=>x.tB m (t+1)) hlt h) hg
   have iT:Hd (x.tB m (k+1)=(m (k+1)||((x.ino (k+1)).next==0&&((x.ino (k+1)).kind !=1||(x.ino (k+1)).aQ !=0)))):=rfl;have eW:Hd (x.tB m (k+1)=true->∀t,t<k+1->x.tB m (t+1)=true):=λhc t ht=>by
    rcases Nat.lt_succ_iff_lt_or_eq.1 ht with h|h
    ·exact lW.Z t h
    rw[h];exact hc
   have ST:=ah st;clear st lW;generalize x.tB m (k+1)=ck at*;generalize (x.ino (k+1)).next=nx at*
   generalize (x.ino (k+1)).kind=kd at*;generalize (x.ino (k+1)).aQ=lk at*;cases hmk:m (k+1) with
   |true=>
    have HC:Hd (ck=true):=by show _=_;rw[iT.Z,hmk];rfl
    rw[hmk,if_pos rfl] at cO;clear hmk iT;go_wp2_with fail;go_roundw
    case rel=>(try((repeat apply Exists.intro);refine⟨?_,rfl⟩));exact⟨k+1,by omega,by first|rfl|go_num,eW.Z HC.Z,ST.Z⟩
    simp[intOf];omega
   |false=>
    have HC:Hd (ck=(nx==0&&(kd !=1||lk !=0))):=by show _=_;rw[iT.Z,hmk];rfl
    rw[hmk,if_neg (by decide)] at cO;clear hmk iT;obtain⟨c1,hc1⟩:=aa ((nx==0));have jk:=ah hc1;clear hc1;go_wp2_with fail;rw[<-jk.Z];refine(bJ 6 c1 _).mono ?_;rintro e w3 ⟨hS,rfl⟩;rcases hS with⟨rfl,rfl⟩|⟨rfl,rfl⟩
    rotate_left
    ·exact⟨rfl,cY.Z (by rw[HC.Z,<-jk.Z];rfl) _ ST.Z.s.gr⟩
    by_cases hk1:kd=1
    ·have q1:(kd !=1)=false:=by simp[hk1]
     obtain⟨c2,hc2⟩:=aa ((lk !=0));have gY:=ah hc2;have SN:=ah q1;clear hc2 hk1;go_wp2_with fail;rw[<-gY.Z];refine(bJ 6 c2 _).mono ?_;rintro e w3 ⟨hS,rfl⟩;rcases hS with⟨rfl,rfl⟩|⟨rfl,rfl⟩
     rotate_left
     ·exact⟨rfl,cY.Z (by rw[HC.Z,<-jk.Z,<-gY.Z,SN.Z];rfl) _ ST.Z.s.gr⟩
     have HF:Hd (ck=true):=by show _=_;rw[HC.Z,<-jk.Z,<-gY.Z];simp
     clear q1;go_wp2_with fail;go_roundw
     case rel=>(try((repeat apply Exists.intro);refine⟨?_,rfl⟩));exact⟨k+1,by omega,by first|rfl|go_num,eW.Z HF.Z,ST.Z⟩
     simp[intOf];omega
    have q1:(kd !=1)=true:=by simp[hk1]
    have SN:=ah q1;clear hk1;go_wp2_with fail;refine(gN 6 _).mono ?_;rintro e w3 ⟨rfl,rfl⟩;have HF:Hd (ck=true):=by show _=_;rw[HC.Z,<-jk.Z,SN.Z];rfl
    clear q1;go_wp2_with fail;go_roundw
    case rel=>(try((repeat apply Exists.intro);refine⟨?_,rfl⟩));exact⟨k+1,by omega,by first|rfl|go_num,eW.Z HF.Z,ST.Z⟩
    simp[intOf];omega
  obtain rfl:k=x.ni:=by omega
  have ST:=ah st;clear st;go_wp2_with fail;refine bodyPost_end (results_none rfl _ _ _) rfl ⟨.inl ⟨by rw[m7.Z];exact(aY _ _).2 lW.Z,rfl⟩,ST.Z.s.gr,λ_=>⟨m,g,HM.Z,sV.Z,(gA.Z _ ST.Z.s.a).2.2,ST.Z.o⟩⟩
 have q0:((t:Int) !=0)=true:=by simp;omega
 have t0:(0:Int)<=(t:Int):=by omega
 obtain⟨c11,c12,_⟩:=gA.Z _ st.s.a;have cY:Hd (¬(t<=x.ni/\m t=false/\(x.ino t).kind=1)->∀W',w.grownBy W' (some p)->oa w p b off cap x ds own sl un q (.panicked (sB 6)) W'):=λh W' hg=> .no (by unfold Im.vP;rw[<-AO,Im.BH h0 h]) hg
 have Co:Hd (t<=x.ni->m t=false->(x.ino t).kind=1->x.oL f (x.ino t).next.toNat (ak m t true)=x.mH):=λh1 h2 h3=>by rw[<-AO,Im.ue h0 h1 h2 h3]
 have zP:=ah hcn;have ST:=ah st;clear AO hcn hcl st h0;obtain⟨c1,hc1⟩:=aa (decide ((t:Int)<(x.ni:Int)+1));have jk:=ah hc1;clear hc1;go_wp2_with fail;rw[<-jk.Z];refine(bJ 6 c1 _).mono ?_;rintro e w3 ⟨hS,rfl⟩;rcases hS with⟨rfl,rfl⟩|⟨rfl,rfl⟩
 rotate_left
 ·exact⟨rfl,cY.Z (λh=>by have:=jk.Z;rw[eq_comm,decide_eq_false_iff_not] at this;omega) _ ST.Z.s.gr⟩
 have hti:t<=x.ni:=by have:=jk.Z;rw[eq_comm,decide_eq_true_iff] at this;omega
 have Vt:(t:Int)<(x.ni:Int)+1:=by omega
 have cO:=ST.Z.o.j8 (show t<x.ni+1 by omega) (v:=.int .i64 (if m t then 1 else 0)) rfl;cases tp:m t with
 |true=>
  rw[tp,if_pos rfl] at cO;have Ui:=ah tp;clear tp;go_wp2_with fail;refine(ir 6 _).mono ?_;rintro e w3 ⟨rfl,rfl⟩;exact⟨rfl,cY.Z (λh=>by rw[Ui.Z] at h;cases h.2.1) _ ST.Z.s.gr⟩
 |false=>
  rw[tp,if_neg (by decide)] at cO;have Ui:=ah tp;clear tp;have cK:wr.cell? ⟨q,t*16,none⟩=some (.int .u8 (x.ino t).kind):=ST.Z.s.ino (t:=t) (by omega) 0 rfl;obtain⟨c2,hc2⟩:=aa (((x.ino t).kind==1));have gY:=ah hc2;clear hc2;go_wp2_with fail;rw[<-gY.Z];refine(bJ 6 c2 _).mono ?_;rintro e w3 ⟨hS,rfl⟩;rcases hS with⟨rfl,rfl⟩|⟨rfl,rfl⟩
  rotate_left
  ·exact⟨rfl,cY.Z (λh=>by have:=gY.Z;rw[h.2.2] at this;cases this) _ ST.Z.s.gr⟩
  have hk1:(x.ino t).kind=1:=by have:=gY.Z;rw[eq_comm,beq_iff_eq] at this;exact this
  have hnx:=(Im.rS HX.Z t).next
  have cN:wr.cell? ⟨q,t*16+15,none⟩=some (.int .u32 (x.ino t).next):=ST.Z.s.ino (by omega) 15 rfl;have fO:=ST.Z.o.soft t;have fK:Hd (My w p b off x cs q g (ak m t true) (wr.setCell ⟨g,t,none⟩ (.int .i64 1))):=ST.Z.mark (by omega) oR hbg BT sV.Z;have ko:=ah (Co.Z hti Ui.Z hk1);have Bn:Hd (aL (ak m t true) (x.ni+1)=aL m (x.ni+1)+1):=fY (by omega) Ui.Z;have HZ:Hd (Pb (wr.setCell ⟨g,t,none⟩ (.int .i64 1)) g (x.ni+1)<Pb wr g (x.ni+1)):=by
   have z1:=uY ST.Z.o;have z2:=uY fK.Z.o;have z3:=Bn.Z;have:aL (ak m t true) (x.ni+1)<=x.ni+1:=eT _ _;show _<_;omega
  clear hk1;generalize (x.ino t).next=nx at*
  go_wp2_with fail;go_roundw
  case rel=>(try((repeat apply Exists.intro);refine⟨?_,rfl⟩));exact⟨nx.toNat,f,ak m t true,int_eq (by omega),by omega,ko.Z,by have:=zP.Z;have:=Bn.Z;omega,fK.Z⟩
  exact HZ.Z
def mG(o:Nat->Nat)(i:Nat):List Value:=[.int .i64 ((o i:Nat):Int)]
theorem rE(o:Nat->Nat)(i:Nat):(mG o i).length=1:=rfl
structure xw(w:World)(p b off:Nat)(x:Im)(cs:Array Value)(q g:Nat)(o:Nat->Nat)(W:World):Prop where
 s:jz w p b off x cs q W
 o:aE W g 3 1 x.n (mG o)
section
variable {w:World} {p b off:Nat} {x:Im} {cs:Array Value} {q g:Nat} {o:Nat->Nat} {W W':World}
theorem xw.below(h:xw w p b off x cs q g o W)(hb:Below W.heap.size W W'):xw w p b off x cs q g o W':=⟨h.s.below hb,h.o.below hb⟩
theorem xw.set(h:xw w p b off x cs q g o W){v:Nat}(hv:v<x.n)(t:Nat)(h1:p≠g)(h2:b≠g)(h3:q≠g)(h4:w.heap.size<=g):xw w p b off x cs q g (ak o v t) (W.setCell ⟨g,v,none⟩ (.int .i64 (t:Int))):=by
 have ho:az g W (W.setCell ⟨g,v,none⟩ (.int .i64 (t:Int))):=az.setCell W ⟨g,v,none⟩ _;refine⟨h.s.only ho h1 h2 h3 h4,?_⟩;have:=h.o.dO (k:=v) (j:=0) hv (by decide) (λi=>rE o i) (.int .i64 (t:Int));rw[Nat.mul_one,Nat.add_zero] at this;refine this.congr λi hi=> ?_
 unfold mG ak
 by_cases e:i=v
 ·rw[if_pos e,if_pos e];rfl
 rw[if_neg e,if_neg e]
end
def kn(w:World)(p b off:Nat)(x:Im)(cs:Array Value)(q g:Nat)(r:Option (Nat->Nat))(e:Ending)(W':World):Prop:=
 (r=none/\e= .panicked (sB 7)/\w.grownBy W' (some p))\/∃o',r=some o'/\e= .returned (.tuple #[])/\xw w p b off x cs q g o' W'
namespace Im
variable {x:Im}
theorem M7(t l first en:Nat)(o:Nat->Nat):x.eF t l 0 first en o=some o:=De x t l first en o
theorem Jj{en:Nat}(h0:p≠0)(h:¬(first<min en 65536/\x.data p=true/\o p=0)):x.eF t l p first en o=none:=by
 cases l<;>rw[eF,if_neg h0,if_neg h]
theorem Jk{en:Nat}(h0:p≠0)(h:first<min en 65536/\x.data p=true/\o p=0):x.eF t 0 p first en o=some (ak o p t):=by
 rw[eF,if_neg h0,if_pos h]
theorem M6{en:Nat}(h0:p≠0)(h:first<min en 65536/\x.data p=true/\o p=0):x.eF t (l+1) p first en o=a8 (λk o=>x.eF t l (x.sX p k) (first+k*gh l) en o) 64 (ak o p t):=by
 rw[eF,if_neg h0,if_pos h]
theorem nj(hx:x.Ok)(p k:Nat):((x.sX p k:Nat):Int)=cR (x.L p) (4*k)/\x.sX p k<4294967296:=by
 have:=dP (hx.jx p) (4*k);unfold sX;omega
end Im
theorem dW(b off:Nat)(W:World):(Instr.sliceAt 32 (.pointer (some ⟨b,off,none⟩)) none none none).run Tryz.prog W= .ok (.slice (some ⟨b,off,none⟩) 256 256) W:=by kernel_rfl
theorem sx(p b off cap:Nat)(x:Im)(hx:x.Ok)(ds ay sl un:Value)(q g:Nat)(w:World)(oR:p≠g)(hbg:b≠g)(BT:q≠g)(kv:w.heap.size<=g)(t en:Nat)(ht:t<100000)(hen:(en:Int)<=9223372036854775807)(l:Nat)(hl:l<=3)
  (ih:∀l',l=l'+1->∀(v first:Nat) (o:Nat->Nat) (W:World),v<4294967296->first+Im.gh l'<=1000000->xw w p b off x (XC b off cap x ds (.slice (some ⟨q,0,none⟩) (x.ni+1) (x.ni+1)) ay (.slice (some ⟨g,0,none⟩) x.n x.n) sl un) q g o W->
   Calls Tryz.prog 130 #[.pointer (some ⟨p,0,none⟩),.int .i64 (t:Int),.int .u32 (v:Int),.int .i64 (l':Int),.int .i64 (first:Int),.int .i64 (en:Int)] W λe W'=>kn w p b off x (XC b off cap x ds (.slice (some ⟨q,0,none⟩) (x.ni+1) (x.ni+1)) ay (.slice (some ⟨g,0,none⟩) x.n x.n) sl un) q g (x.eF t l' v first en o) e W')
  (v first:Nat) (o:Nat->Nat) (W:World) (hv:v<4294967296) (hf:first+Im.gh l<=1000000) (h:xw w p b off x (XC b off cap x ds (.slice (some ⟨q,0,none⟩) (x.ni+1) (x.ni+1)) ay (.slice (some ⟨g,0,none⟩) x.n x.n) sl un) q g o W):
  Calls Tryz.prog 130 #[.pointer (some ⟨p,0,none⟩),.int .i64 (t:Int),.int .u32 (v:Int),.int .i64 (l:Int),.int .i64 (first:Int),.int .i64 (en:Int)] W λe W'=>kn w p b off x (XC b off cap x ds (.slice (some ⟨q,0,none⟩) (x.ni+1) (x.ni+1)) ay (.slice (some ⟨g,0,none⟩) x.n x.n) sl un) q g (x.eF t l v first en o) e W':=by
 obtain⟨cs,hcs⟩:=aa (XC b off cap x ds (.slice (some ⟨q,0,none⟩) (x.ni+1) (x.ni+1)) ay (.slice (some ⟨g,0,none⟩) x.n x.n) sl un);have gA:Hd (∀W,At W p 105 cs->W.cell? ⟨p,0,none⟩=some (.slice (some ⟨b,off,none⟩) x.n cap)/\W.cell? ⟨p,13,none⟩=some (.slice (some ⟨g,0,none⟩) x.n x.n)/\XG p x.g x.s x.i x.j W):=λW h=>by
  rw[hcs] at h;exact⟨h.cell (i:=0) rfl,h.cell (i:=13) rfl,XG.of h⟩
 have Yi:=ah ih;rw[<-hcs] at h Yi ⊢;clear hcs ih;have HX:=ah hx;have gi:=hx.iK;have ST:=ah h;clear h hx
 by_cases hv0:v=0
 ·subst hv0
  have xv:Hd (kn w p b off x cs q g (x.eF t l 0 first en o) (.returned (.tuple #[])) W):=.inr ⟨o,Im.M7 ..,rfl,ST.Z⟩;go_enter Tryz.func130,Tryz.ntmps130;go_wp2_with fail;refine bodyPost_ret (results_none rfl _ _ _) rfl xv.Z
 have q0:((v:Int)==0)=false:=by simp;omega
 have HV0:Hd (v≠0):=hv0;have cY:Hd (¬(first<min en 65536/\x.data v=true/\o v=0)->∀W',w.grownBy W' (some p)->kn w p b off x cs q g (x.eF t l v first en o) (.panicked (sB 7)) W'):=λh W' hg=> .inl ⟨Im.Jj hv0 h,rfl,hg⟩
 clear hv0;go_enter Tryz.func130,Tryz.ntmps130;go_wp2_with fail;refine(bJ 7 (decide ((first:Int)<min (en:Int) 65536)) _).mono ?_;rintro e w1 ⟨hS,rfl⟩;rcases hS with⟨hc1,rfl⟩|⟨hc1,rfl⟩
 rotate_left
 ·exact⟨rfl,cY.Z (λh=>by rw[decide_eq_false_iff_not] at hc1;omega) _ ST.Z.s.gr⟩
 have jk:=ah (of_decide_eq_true hc1);clear hc1;have c0:=(gA.Z _ ST.Z.s.a).1;have v0:(0:Int)<=(v:Int):=by omega
 have v9:(v:Int)<4294967296:=by omega
 go_wp2_with fail;refine(bJ 7 (decide (v<x.n)) _).mono ?_;rintro e w1 ⟨hS,rfl⟩;rcases hS with⟨hc2,rfl⟩|⟨hc2,rfl⟩
 rotate_left
 ·exact⟨rfl,cY.Z (λh=>by have:=of_decide_eq_false hc2;have h2:=h.2.1;unfold Im.data at h2;rw[Bool.and_eq_true,Bool.and_eq_true,decide_eq_true_eq,decide_eq_true_eq] at h2;omega) _ ST.Z.s.gr⟩
 have AM:v<x.n:=of_decide_eq_true hc2;clear hc2;have Vq:(v:Int)<(x.n:Int):=by omega
 have hg:=(gA.Z _ ST.Z.s.a).2.2;clear c0;go_wp2_with (first|(refine aH rfl 23 (.tmp 42) rfl p 6 (ai x.g x.s x.i x.j).toList _ rfl hg Tryz.underlying23 rfl (by kernel_rfl) ?_))
 refine(CH x.g x.s x.i x.j v (by omega) (by omega) _).mono ?_;rintro e w2 ⟨K,A,B,rfl,hK,hb2⟩;have Kb:=CG HX.Z AM hK;have bW:=ah (ST.Z.below hb2);clear hg ST hb2 hK;cases hd:x.data v with
 |false=>
  rw[hd] at Kb;have HD:=ah hd;clear hd;go_wp2_with fail;refine(ir 7 _).mono ?_;rintro e w3 ⟨rfl,rfl⟩;exact⟨rfl,cY.Z (λh=>by rw[HD.Z] at h;cases h.2.1) _ bW.Z.s.gr⟩
 |true=>
 rw[hd] at Kb;have HD:=ah hd;clear hd;have c13:=(gA.Z _ bW.Z.s.a).2.1;have cO:=bW.Z.o.j8 AM (v:=.int .i64 ((o v:Nat):Int)) rfl;obtain⟨ov,hov⟩:=aa (((o v:Nat):Int):Int);have SO:=ah hov;rw[<-hov] at cO;clear hov;obtain⟨c3,hc3⟩:=aa ((ov==0));have uV:=ah hc3;clear hc3;go_wp2_with fail;rw[<-uV.Z];refine(bJ 7 c3 _).mono ?_;rintro e w3 ⟨hS,rfl⟩;rcases hS with⟨rfl,rfl⟩|⟨rfl,rfl⟩
 rotate_left
 ·exact⟨rfl,cY.Z (λh=>by have:=uV.Z;rw[SO.Z,h.2.2] at this;cases this) _ bW.Z.s.gr⟩
 have gz:Hd (first<min en 65536/\x.data v=true/\o v=0):=by
  have h1:=jk.Z;have h3:=uV.Z;rw[eq_comm,beq_iff_eq] at h3;have:=SO.Z;exact⟨by omega,HD.Z,by omega⟩
 have fO:=bW.Z.o.soft v;have XE:=ah (bW.Z.set AM t oR hbg BT kv);clear cY jk uV
 by_cases hl0:l=0
 ·subst hl0
  have xv:Hd (kn w p b off x cs q g (x.eF t 0 v first en o) (.returned (.tuple #[])) (w2.setCell ⟨g,v,none⟩ (.int .i64 (t:Int)))):=.inr ⟨_,Im.Jk HV0.Z gz.Z,rfl,XE.Z⟩;go_wp2_with fail;refine bodyPost_ret (results_none rfl _ _ _) rfl xv.Z
 obtain⟨l,rfl⟩:∃l',l=l'+1:=⟨l-1,by omega⟩;have SK:Hd (x.eF t (l+1) v first en o=a8 (λk o=>x.eF t l (x.sX v k) (first+k*Im.gh l) en o) 64 (ak o v t)):=Im.M6 HV0.Z gz.Z;have zO:=ah (Yi.Z l rfl);have q1:((l:Int)+1==0)=false:=by simp;omega
 have QV:Im.gh (l+1)=64*Im.gh l:=by unfold Im.gh;rw[Nat.pow_succ,Nat.mul_comm]
 rw[QV] at hf;clear Yi gz hl0 QV;go_wp2_with fail;refine(gL l (by omega) _).mono ?_;rintro e w3 ⟨rfl,rfl⟩;obtain⟨sp,hsp⟩:=aa (Im.gh l);have Ue:=ah hsp;rw[<-hsp] at hf ⊢;clear hsp fO cO c13;go_wp2_with fail;go_loopw [74] (λu wr=>∃(k:Nat) (o':Nat->Nat),k<=64/\u= .int .i64 (k:Int)/\a8 (λk o=>x.eF t l (x.sX v k) (first+k*Im.gh l) en o) k (ak o v t)=some o'/\xw w p b off x cs q g o' wr) (λu _=>64-(intOf u).toNat)
 case atStart=>exact⟨0,ak o v t,Nat.zero_le _,rfl,rfl,XE.Z⟩
 clear XE bW;obtain⟨k,o',hk,rfl,hfo,st⟩:=hrel;have sM:=ah hfo;have ST:=ah st;clear hfo st
 by_cases hlt:k<64
 ·have hlt':(k:Int)<64:=by omega
  have k0:(0:Int)<=(k:Int):=by omega
  have c0:=(gA.Z _ ST.Z.s.a).1;have hseg:Seg wr b (off+v*256) 256 (x.L v):=λi hi=>ST.Z.s.i v AM i _ (by show(Ks .u8 256 (x.L v))[i]? =_;exact gX _ _ _ _ hi)
  have hsl:=λW=>dW b (off+v*256) W
  have e4:(4*(k:Int)).toNat=4*k:=by omega
  have HW:Hd (cR (x.L v) (4*k)=((x.sX v k:Nat):Int)):=(Im.nj HX.Z v k).1.symm;have Ig:=(Im.nj HX.Z v k).2;obtain⟨F,hF⟩:=aa (first+k*Im.gh l);obtain⟨M,hM⟩:=aa (k*sp);have hmi:(k:Int)*(sp:Int)=(M:Int):=by rw[hM];exact(Int.natCast_mul _ _).symm
  have Pn:M+sp<=64*sp:=by
   have:(k+1)*sp<=64*sp:=Nat.mul_le_mul_right _ hlt;rw[Nat.succ_mul] at this;omega
  have hfi:(first:Int)+(M:Int)=(F:Int):=by rw[hF,<-Ue.Z,<-hM];omega
  have NR:F+Im.gh l<=1000000:=by rw[hF,<-Ue.Z,<-hM];omega
  have HF:=ah hF;have HF9:=ah NR;have f9:(F:Int)<=1000000:=by omega
  have f0:(0:Int)<=(F:Int):=by omega
  have Cp:=ah hseg;have Td:=ah e4;clear hF hM NR hseg e4;go_wp2_with fail;refine(iB b (off+v*256) 256 256 (4*(k:Int)) (x.L v) _ (by decide) (by omega) (by omega) Cp.Z (HX.Z.jx v)).mono ?_;rintro e w4 ⟨rfl,rfl⟩;rw[Td.Z,HW.Z];obtain⟨vw,Nt⟩:=aa (x.sX v k);have Uc:=ah Nt;rw[<-Nt] at Ig ⊢;clear Nt c0 hsl Td HW Cp;go_wp2_with fail;refine(zO.Z vw F o' _ Ig HF9.Z ST.Z).mono ?_;rintro e w5 hp;have Zu:x.eF t l vw F en o'=(λk o=>x.eF t l (x.sX v k) (first+k*Im.gh l) en o) k o':=by rw[Uc.Z,HF.Z]
  rw[Zu] at hp;rcases hp with⟨hn,rfl,hgr⟩|⟨o2,hs,rfl,hst⟩
  ·exact⟨rfl,.inl ⟨by rw[SK.Z];exact dp sM.Z hn hlt,rfl,hgr⟩⟩
  have HN:=ah (bK sM.Z hs);have ed:=ah hst;clear hs hst Zu ST sM hmi Pn hfi f9 f0;go_wp2_with fail;go_roundw
  case rel=>(try((repeat apply Exists.intro);refine⟨?_,rfl⟩));exact⟨k+1,o2,by omega,by first|rfl|go_num,HN.Z,ed.Z⟩
  simp[intOf];omega
 obtain rfl:k=64:=by omega
 go_wp2_with fail;refine bodyPost_end (results_none rfl _ _ _) rfl (.inr ⟨o',by rw[SK.Z];exact sM.Z,rfl,ST.Z⟩)
theorem uJ(p b off cap:Nat)(x:Im)(hx:x.Ok)(ds ay sl un:Value)(q g:Nat)(w:World)(oR:p≠g)(hbg:b≠g)(BT:q≠g)(kv:w.heap.size<=g)(t en:Nat)(ht:t<100000)(hen:(en:Int)<=9223372036854775807):∀(l:Nat),l<=3->
  ∀(v first:Nat) (o:Nat->Nat) (W:World),v<4294967296->first+Im.gh l<=1000000->xw w p b off x (XC b off cap x ds (.slice (some ⟨q,0,none⟩) (x.ni+1) (x.ni+1)) ay (.slice (some ⟨g,0,none⟩) x.n x.n) sl un) q g o W->
  Calls Tryz.prog 130 #[.pointer (some ⟨p,0,none⟩),.int .i64 (t:Int),.int .u32 (v:Int),.int .i64 (l:Int),.int .i64 (first:Int),.int .i64 (en:Int)] W λe W'=>kn w p b off x (XC b off cap x ds (.slice (some ⟨q,0,none⟩) (x.ni+1) (x.ni+1)) ay (.slice (some ⟨g,0,none⟩) x.n x.n) sl un) q g (x.eF t l v first en o) e W'
 |0,hl,v,first,o,W,hv,hf,h=>sx p b off cap x hx ds ay sl un q g w oR hbg BT kv t en ht hen 0 hl (λl' e=>by omega) v first o W hv hf h
 |l+1,hl,v,first,o,W,hv,hf,h=>sx p b off cap x hx ds ay sl un q g w oR hbg BT kv t en ht hen (l+1) hl (λl' e v first o W=>by
   obtain rfl:l'=l:=by omega
   exact uJ p b off cap x hx ds ay sl un q g w oR hbg BT kv t en ht hen l' (by omega) v first o W) v first o W hv hf h
end Go.Proofs.YtphamecphmbipaaGreatDoor
