/- Texts of this claim, merged. -/
import Derived.Test.YtphamecphmbipaaGreatDoorZ31
import Derived.ArgAppend
import Derived.Laws.AppendOwn
import Derived.Maps.AppendAt
set_option linter.unusedVariables false
set_option maxRecDepth 100000
set_option maxHeartbeats 16000000

namespace Go.Proofs.YtphamecphmbipaaGreatDoor
open Go.RowKit
variable {w:World} {p off cap g t:Nat} {x:Im} {ds pt v:Value} {x1:List Value}
theorem nC(n:Nat)(hn:n<=2048)(W:World):(Instr.makeSlice 132 (.int .i64 (n:Int)) (.int .i64 (n:Int))).run Tryz.prog W= .ok (.slice (some ⟨W.heap.size,0,none⟩) n n) (W.alloc (.cells (madeCells #[.bool false] (n*1)) 4)):=
 dx (P:=Tryz.prog) 132 4 (.bool false) 1 1 Tryz.underlying132 pq .i64 .i64 n (by omega) (by omega) W
structure sK(p b off cap:Nat)(x:Im)(ds:Value)(r ci:Nat)(ay pt:Value)(W:World):Prop where
 k:qz p b off cap x ds (.slice (some ⟨r,0,none⟩) (x.ni+1) ci) ay pt W
 i:aM W r 0 16 (x.ni+1) (jL x)
 rl:r<W.heap.size
theorem Iz.kni{b:Nat}{ay:Value}{W:World}(h:Iz w p b off cap x ds ay pt v (x.ni+1) W):∃r ci,w.heap.size<=r/\sK p b off cap x ds r ci ay pt W:=by
 obtain⟨r,ci,rfl,h1,h2,h3,h4⟩:=au.nZ h.r (Nat.succ_pos _);exact⟨r,ci,h1,h.k,au.bQ h.r (F7 x),h2⟩
section
variable {p b off cap:Nat} {x:Im} {ds:Value} {r ci:Nat} {ay pt:Value} {W W':World}
theorem sK.below(h:sK p b off cap x ds r ci ay pt W)(hb:Below W.heap.size W W'):sK p b off cap x ds r ci ay pt W':=⟨h.k.below hb,aM.below h.i hb h.rl,Nat.lt_of_lt_of_le h.rl hb.size⟩
theorem sK.only(h:sK p b off cap x ds r ci ay pt W)(ho:az g W W')(h1:p≠g)(h2:b≠g)(h3:r≠g):sK p b off cap x ds r ci ay pt W':=
 ⟨⟨h.k.a.only ho h1,aM.only h.k.i ho h2,by rw[ho.size];exact h.k.bl⟩,aM.only h.i ho h3,by rw[ho.size];exact h.rl⟩
theorem sK.MM(h:sK p b off cap x ds r ci ay pt W)(mZ:b≠p)(DG:r≠p)(v:Value):sK p b off cap x ds r ci v pt (W.setCell ⟨p,12,none⟩ v):=
 have ho:az p W (W.setCell ⟨p,12,none⟩ v):=az.setCell W ⟨p,12,none⟩ v
 ⟨⟨h.k.a.xO 12 v,aM.only h.k.i ho mZ,by rw[ho.size];exact h.k.bl⟩,aM.only h.i ho DG,by rw[ho.size];exact h.rl⟩
theorem sK.Qi(h:sK p b off cap x ds r ci ay pt W)(mZ:b≠p)(DG:r≠p)(v:Value):sK p b off cap x ds r ci ay v (W.setCell ⟨p,13,none⟩ v):=
 have ho:az p W (W.setCell ⟨p,13,none⟩ v):=az.setCell W ⟨p,13,none⟩ v
 ⟨⟨h.k.a.xO 13 v,aM.only h.k.i ho mZ,by rw[ho.size];exact h.k.bl⟩,aM.only h.i ho DG,by rw[ho.size];exact h.rl⟩
theorem sK.ino(h:sK p b off cap x ds r ci ay pt W)(ht:t<x.ni+1)(j:Nat)(hv:(jL x t)[j]? =some v):W.cell? ⟨r,t*16+j,none⟩=some v:=by
 have:=h.i t ht j v hv;rwa[Nat.zero_add] at this
theorem sK.row(h:sK p b off cap x ds r ci ay pt W)(ht:t<x.ni+1):W.rangeAt r (t*16) (jL x t):=by
 have:=aM.range h.i t ht;rwa[Nat.zero_add] at this
end
def QE:Option Value->Bool
 |some (.bool false)=>true
 |_=>false
def yY(W:World)(g n:Nat):Nat:=aL (λi=>QE (W.cell? ⟨g,i,none⟩)) n
theorem qt{W:World}{n:Nat}{T:TypeId}{m:Nat->Bool}(h:aE W g T 1 n (kH m)):yY W g n+aL m n=n:=by
 have h1:yY W g n=aL (λk=> !m k) n:=sw λk hk=>by
  show QE (W.cell? ⟨g,k,none⟩)=_;rw[gb h hk];cases m k<;>rfl
 rw[h1];have:=n7 m n;omega
structure Hj(w:World)(p b off cap:Nat)(x:Im)(ds:Value)(r ci:Nat)(pt:Value)(g:Nat)(m:Nat->Bool)(W:World):Prop where
 s:sK p b off cap x ds r ci (.slice (some ⟨g,0,none⟩) (x.ni+1) (x.ni+1)) pt W
 o:aE W g 4 1 (x.ni+1) (kH m)
 g:dV (JP p) w W
section
variable {w:World} {p b off cap:Nat} {x:Im} {ds:Value} {r ci:Nat} {pt:Value} {g:Nat} {m:Nat->Bool} {W W':World}
theorem Hj.below(h:Hj w p b off cap x ds r ci pt g m W)(hb:Below W.heap.size W W'):Hj w p b off cap x ds r ci pt g m W':=⟨h.s.below hb,h.o.below hb,h.g.trans (dV.b9 hb)⟩
theorem dV.fresh{S:Nat->Prop}{a c:World}(h:dV S w a)(ho:az g a c)(hg:w.heap.size<=g):dV S w c:=
 ⟨ho.os.trans h.os,ho.tape.trans h.tape,ho.output.trans h.output,by rw[ho.size];exact h.size,λj hj hn=>(ho.block j (by omega)).trans (h.block j hj hn)⟩
theorem Hj.mark(h:Hj w p b off cap x ds r ci pt g m W)(ht:t<x.ni+1)(h1:p≠g)(h2:b≠g)(h3:r≠g)(h4:w.heap.size<=g):Hj w p b off cap x ds r ci pt g (ak m t true) (W.setCell ⟨g,t,none⟩ (.bool true)):=
 have ho:az g W (W.setCell ⟨g,t,none⟩ (.bool true)):=az.setCell W ⟨g,t,none⟩ _
 ⟨h.s.only ho h1 h2 h3,wQ h.o ht true,h.g.fresh ho h4⟩
end
def So(w:World)(p b off cap:Nat)(x:Im)(ds:Value)(r ci:Nat)(pt:Value)(e:Ending)(w':World):Prop:=
 e= .returned (.bool x.vP)/\dV (JP p) w w'/\(x.vP=true->∃m g,x.mH=some m/\w.heap.size<=g/\Hj w p b off cap x ds r ci pt g m w')
theorem So.no{b:Nat}{r ci:Nat}{w':World}(h:x.vP=false)(hg:dV (JP p) w w'):So w p b off cap x ds r ci pt (.returned (.bool false)) w':=⟨by rw[h],hg,λe=>by rw[h] at e;cases e⟩
theorem x2(hx:x.Ok)(p b off cap:Nat)(ds:Value)(r ci:Nat)(ay pt:Value)(w:World)(mZ:b≠p)(DG:r≠p)(h:sK p b off cap x ds r ci ay pt w):
  Calls Tryz.prog 117 #[.pointer (some ⟨p,0,none⟩)] w λe w'=>So w p b off cap x ds r ci pt e w':=by
 have HX:=ah hx;have hni:x.ni<=256:=eX hx.may;have gQ:(x.o:Int)<4294967296:=by have:=hx.o;omega
 have c11:w.cell? ⟨p,11,none⟩=some (.slice (some ⟨r,0,none⟩) (x.ni+1) ci):=h.k.a.cell (i:=11) rfl;obtain⟨g,hg⟩:=aa w.heap.size;have oR:p≠g:=by rw[hg];exact Nat.ne_of_lt h.k.a.lt
 have hbg:b≠g:=by rw[hg];exact Nat.ne_of_lt h.k.bl
 have hrg:r≠g:=by rw[hg];exact Nat.ne_of_lt h.rl
 have hmk:(Instr.makeSlice 132 (.int .i64 ((x.ni:Int)+1)) (.int .i64 ((x.ni:Int)+1))).run Tryz.prog w= .ok (.slice (some ⟨g,0,none⟩) (x.ni+1) (x.ni+1)) (w.alloc (.cells (madeCells #[.bool false] ((x.ni+1)*1)) 4)):=by
  rw[hg];exact nC (x.ni+1) (by omega) w
 obtain⟨W1,hW1⟩:=aa (w.alloc (.cells (madeCells #[.bool false] ((x.ni+1)*1)) 4));have hb1:Below w.heap.size w W1:=by rw[hW1];exact ag.alloc af _
 have hr1:aE W1 g 4 1 (x.ni+1) (kH λ_=>false):=by
  rw[hW1,hg];exact(aE.made (m:=1) w #[.bool false] rfl (by omega) (x.ni+1) _)
 have h1:=h.below hb1;have rY:az p W1 (W1.setCell ⟨p,12,none⟩ (.slice (some ⟨g,0,none⟩) (x.ni+1) (x.ni+1))):=az.setCell W1 ⟨p,12,none⟩ _;have bh:Hd (Hj w p b off cap x ds r ci pt g (λ_=>false) (W1.setCell ⟨p,12,none⟩ (.slice (some ⟨g,0,none⟩) (x.ni+1) (x.ni+1)))):=
  ⟨h1.MM mZ DG _,hr1.only rY (show g≠p fromλe=>oR e.symm),(dV.b9 hb1).trans (dV.cE rY rfl)⟩
 have c12:=h1.k.a.cell (i:=12) rfl;have f12:W1.frozen? ⟨p,12,none⟩=false:=an h1.k.a 12;have cO:(W1.setCell ⟨p,12,none⟩ (.slice (some ⟨g,0,none⟩) (x.ni+1) (x.ni+1))).cell? ⟨p,5,none⟩=some (.int .u32 (x.o:Int)):=bh.Z.s.k.a.cell (i:=5) rfl;have kv:w.heap.size<=g:=by omega
 rw[<-hW1] at hmk;have sV:=ah kv;clear h h1 hb1 hr1 hW1 hx hg kv rY;have UZ:(0:Int)<=(x.ni:Int)+1:=by omega
 go_enter Tryz.func117,Tryz.ntmps117;go_wp2_with fail;clear c11 hmk c12 f12 cO;go_loopw [3] (λu wr=>∃(t f:Nat) (m:Nat->Bool),u= .int .i64 (t:Int)/\t<4294967296/\x.oL f t m=x.mH/\aL m (x.ni+1)+f=x.ni+2/\Hj w p b off cap x ds r ci pt g m wr) (λ_ wr=>yY wr g (x.ni+1))
 case atStart=>exact⟨x.o,x.ni+2,λ_=>false,rfl,HX.Z.o,rfl,by rw[ly (u:=0) (Nat.zero_le _) (λk _=>by simp)];omega,bh.Z⟩
 clear bh;obtain⟨t,f,m,rfl,ht,AO,hcn,st⟩:=hrel;have hcl:=eT m (x.ni+1);obtain⟨f,rfl⟩:∃f',f=f'+1:=⟨f-1,by omega⟩;have c11:wr.cell? ⟨p,11,none⟩=some (.slice (some ⟨r,0,none⟩) (x.ni+1) ci):=st.s.k.a.cell (i:=11) rfl;have c12:wr.cell? ⟨p,12,none⟩=some (.slice (some ⟨g,0,none⟩) (x.ni+1) (x.ni+1)):=st.s.k.a.cell (i:=12) rfl
 by_cases h0:t=0
 ·subst h0
  have hm:x.mH=some m:=by rw[<-AO,Im.oL,if_pos rfl]
  have bW:=ah st;have HM:=ah hm;have m7:Hd (x.vP=aK (λt=>x.tB m (t+1)) x.ni):=by show _=_;unfold Im.vP;rw[hm]
  clear AO hcn hcl ht st hm c11 c12;go_wp2_with fail;go_loopw [4,5] (λu _ wr=>∃k:Nat,k<=x.ni/\u= .int .i64 ((k:Int)+1)/\(∀t,t<k->x.tB m (t+1)=true)/\Hj w p b off cap x ds r ci pt g m wr) (λu _ _=>x.ni+1-(intOf u).toNat)
  case atStart=>exact⟨0,Nat.zero_le _,rfl,λt h=>by omega,bW.Z⟩
  clear bW;obtain⟨k,hk,rfl,hP,st⟩:=hrel;have lW:=ah hP;clear hP;have c11:wr.cell? ⟨p,11,none⟩=some (.slice (some ⟨r,0,none⟩) (x.ni+1) ci):=st.s.k.a.cell (i:=11) rfl
  by_cases hlt:k<x.ni
  ·have hlt':(k:Int)+1<(x.ni:Int)+1:=by omega
   have k0:(0:Int)<=(k:Int)+1:=by omega
   have cY:Hd (x.tB m (k+1)=false->∀W',dV (JP p) w W'->So w p b off cap x ds r ci pt (.returned (.bool false)) W'):=λh W' hg=> .no (by rw[m7.Z];exact bR (p:=λt=>x.tB m (t+1)) hlt h) hg
   have iT:Hd (x.tB m (k+1)=(m (k+1)||((x.ino (k+1)).next==0&&((x.ino (k+1)).kind !=1||(x.ino (k+1)).aQ !=0)))):=rfl;have eW:Hd (x.tB m (k+1)=true->∀t,t<k+1->x.tB m (t+1)=true):=λhc t ht=>by
    rcases Nat.lt_succ_iff_lt_or_eq.1 ht with h|h
    ·exact lW.Z t h
    rw[h];exact hc
   have hrow:wr.rangeAt r ((k+1)*16) (x.ino (k+1)).arr.toList:=st.s.row (by omega);have ST:=ah st;have hal:=gI;have hnew:=bs.new wr .nil;obtain⟨y,hy⟩:=aa (x.ino (k+1));rw[<-hy] at iT hrow;have HKM:Hd (k+1<x.ni+1):=by show _<_;omega
   clear st lW hy;go_wp2_with (first|(refine aH rfl 63 (.tmp 79) rfl r ((k+1)*16) y.arr.toList _ rfl hrow Tryz.underlying63 rfl (oP y) ?_)|(refine bF rfl (.tmp 5) (.tmp 80) rfl wr.heap.size y .nil rfl rfl hnew ?_))
   intro w4 hi4 ke;have hb4:Below wr.heap.size wr w4:=(ag.alloc af _).trans (ke.below af);have ey:=ah (ST.Z.below hb4);obtain⟨X,hX⟩:=aa wr.heap.size;rw[<-hX] at hi4 ⊢;have c12:w4.cell? ⟨p,12,none⟩=some (.slice (some ⟨g,0,none⟩) (x.ni+1) (x.ni+1)):=ey.Z.s.k.a.cell (i:=12) rfl;have cM:=gb ey.Z.o HKM.Z;have cN:w4.cell? ⟨X,15,none⟩=some (.int .u32 y.next):=At.cell (cs:=y.arr) hi4 (i:=15) rfl;have cK:w4.cell? ⟨X,0,none⟩=some (.int .u8 y.kind):=At.cell (cs:=y.arr) hi4 (i:=0) rfl;have cL:w4.cell? ⟨X,1,none⟩=some (.int .i64 y.aQ):=At.cell (cs:=y.arr) hi4 (i:=1) rfl;clear ST hrow hal hnew hi4 ke hb4 hX c11;generalize x.tB m (k+1)=ck at*;obtain⟨nx,hnx⟩:=aa y.next
   obtain⟨kd,fV⟩:=aa y.kind;obtain⟨lk,hlk⟩:=aa y.aQ;rw[<-hnx] at cN iT;rw[<-fV] at cK iT;rw[<-hlk] at cL iT;obtain⟨B,hB⟩:=aa (m (k+1));rw[<-hB] at cM iT;clear hnx fV hlk hB;obtain⟨c1,hc1⟩:=aa ((nx==0));obtain⟨c2,hc2⟩:=aa ((kd==1));obtain⟨c3,hc3⟩:=aa ((lk==0));have g1:(nx !=0)= !c1:=by rw[hc1];rfl
   have g2:(kd==1)=c2:=hc2.symm;have g3:(lk==0)=c3:=hc3.symm;have HC:Hd (ck=(B||(c1&&(!c2|| !c3)))):=by show _=_;rw[iT.Z,hc1,hc2,hc3];rfl
   clear hc1 hc2 hc3 iT;cases B<;>cases c1<;>cases c2<;>cases c3
   all_goals
    go_wp2_with fail
    first
    |(go_roundw
      case rel=>(try((repeat apply Exists.intro);refine⟨?_,rfl⟩));exact⟨k+1,by omega,by first|rfl|go_num,eW.Z HC.Z,ey.Z⟩
      simp[intOf];omega)
    |(go_ret
      exact cY.Z HC.Z _ ey.Z.g)
  obtain rfl:k=x.ni:=by omega
  have ST:=ah st;clear st;go_wp2_with fail;go_ret;exact⟨by rw[m7.Z,(aY _ _).2 lW.Z];rfl,ST.Z.g,λ_=>⟨m,g,HM.Z,sV.Z,ST.Z⟩⟩
 have q0:((t:Int) !=0)=true:=by simp;omega
 have t0:(0:Int)<=(t:Int):=by omega
 have cY:Hd (¬(t<=x.ni/\m t=false/\(x.ino t).kind=1)->∀W',dV (JP p) w W'->So w p b off cap x ds r ci pt (.returned (.bool false)) W'):=λh W' hg=> .no (by unfold Im.vP;rw[<-AO,Im.BH h0 h]) hg
 have Co:Hd (t<=x.ni->m t=false->(x.ino t).kind=1->x.oL f (x.ino t).next.toNat (ak m t true)=x.mH):=λh1 h2 h3=>by rw[<-AO,Im.ue h0 h1 h2 h3]
 have zP:=ah hcn;have ST:=ah st;clear AO hcn hcl st h0
 by_cases hti:t<=x.ni
 ·have d1:decide ((x.ni:Int)+1<=(t:Int))=false:=decide_eq_false (by omega)
  have Vt:(t:Int)<(x.ni:Int)+1:=by omega
  have cK:wr.cell? ⟨r,t*16,none⟩=some (.int .u8 (x.ino t).kind):=ST.Z.s.ino (t:=t) (by omega) 0 rfl;have cN:wr.cell? ⟨r,t*16+15,none⟩=some (.int .u32 (x.ino t).next):=ST.Z.s.ino (by omega) 15 rfl;have cM:=gb ST.Z.o (show t<x.ni+1 by omega);have fM:=ST.Z.o.soft t;have hnx:=(Im.rS HX.Z t).next
  by_cases hk1:(x.ino t).kind=1
  ·cases tp:m t with
   |true=>
    have q1:((x.ino t).kind !=1)=false:=by simp[hk1]
    rw[tp] at cM;have HF:=ah (cY.Z (λh=>by rw[tp] at h;cases h.2.1));clear tp hk1;generalize (x.ino t).kind=kd at*;go_wp2_with fail;go_ret;exact HF.Z _ ST.Z.g
   |false=>
    have q1:((x.ino t).kind !=1)=false:=by simp[hk1]
    rw[tp] at cM;have fK:Hd (Hj w p b off cap x ds r ci pt g (ak m t true) (wr.setCell ⟨g,t,none⟩ (.bool true))):=ST.Z.mark (by omega) oR hbg hrg sV.Z;have ko:=ah (Co.Z hti tp hk1);have Bn:Hd (aL (ak m t true) (x.ni+1)=aL m (x.ni+1)+1):=fY (by omega) tp;have HZ:Hd (yY (wr.setCell ⟨g,t,none⟩ (.bool true)) g (x.ni+1)<yY wr g (x.ni+1)):=by
     have z1:=qt ST.Z.o;have z2:=qt fK.Z.o;have z3:=Bn.Z;have:aL (ak m t true) (x.ni+1)<=x.ni+1:=eT _ _;show _<_;omega
    have cN2:(wr.setCell ⟨g,t,none⟩ (.bool true)).cell? ⟨r,t*16+15,none⟩=some (.int .u32 (x.ino t).next):=fK.Z.s.ino (by omega) 15 rfl;have c11':(wr.setCell ⟨g,t,none⟩ (.bool true)).cell? ⟨p,11,none⟩=some (.slice (some ⟨r,0,none⟩) (x.ni+1) ci):=fK.Z.s.k.a.cell (i:=11) rfl;clear tp hk1 cY Co;generalize (x.ino t).kind=kd at*;generalize (x.ino t).next=nx at*
    go_wp2_with fail;go_roundw
    case rel=>(try((repeat apply Exists.intro);refine⟨?_,rfl⟩));exact⟨nx.toNat,f,ak m t true,int_eq (by omega),by omega,ko.Z,by have:=zP.Z;have:=Bn.Z;omega,fK.Z⟩
    exact HZ.Z
  have q1:((x.ino t).kind !=1)=true:=by simp[hk1]
  have HF:=ah (cY.Z (λh=>hk1 h.2.2));clear hk1;generalize (x.ino t).kind=kd at*;go_wp2_with fail;go_ret;exact HF.Z _ ST.Z.g
 have d1:decide ((x.ni:Int)+1<=(t:Int))=true:=decide_eq_true (by omega);have HF:=ah (cY.Z (λh=>hti h.1));clear hti;go_wp2_with fail;go_ret;exact HF.Z _ ST.Z.g
def fE(w:World)(base:Nat)(e:TypeId)(size:Nat)(v:Value)(n:Nat)(xs:List Value):Prop:=
 xs.length=n*size/\((v= .slice none 0 0/\n=0)\/
  ∃g off cap cur,v= .slice (some ⟨g,off,none⟩) n cap/\base<=g/\w.heap[g]? =some (.cells cur e (0,0))/\n<=cap/\cap<=maxLen/\off+cap*size<=cur.size/\∀j u,xs[j]? =some u->cur[off+j]? =some u)
section
variable {w w':World} {base:Nat} {e:TypeId} {size:Nat} {v:Value} {n:Nat} {xs:List Value}
theorem fE.nil(w:World)(base:Nat)(e:TypeId)(size:Nat):fE w base e size (.slice none 0 0) 0 []:=⟨by simp,.inl ⟨rfl,rfl⟩⟩
theorem fE.kept(h:fE w base e size v n xs){row:Option Nat}(hg:w.grownBy w' row)(hr:∀q,base<=q->row=some q->v.ownBlock≠some q):fE w' base e size v n xs:=by
 refine⟨h.1,?_⟩;rcases h.2 with h|⟨g,off,cap,cur,rfl,hb,hc,hr2⟩
 ·exact .inl h
 have hlt:g<w.heap.size:=(Array.getElem?_eq_some_iff.1 hc).1;refine .inr ⟨g,off,cap,cur,rfl,hb,(hg.block g hlt (λe=>hr g hb e.symm rfl)).trans hc,hr2⟩
theorem fE.below(h:fE w base e size v n xs)(hb:Below w.heap.size w w'):fE w' base e size v n xs:=h.kept (row:=none) (bB hb) (λq _ e=>by cases e)
theorem fE.own(h:fE w base e size v n xs){q:Nat}(hq:v.ownBlock=some q):base<=q/\∃cur,w.heap[q]? =some (.cells cur e (0,0)):=by
 rcases h.2 with⟨rfl,_⟩|⟨g,off,cap,cur,rfl,hb,hc,_⟩
 ·cases hq
 injection hq with hq
 replace hq:g=q:=hq
 subst hq;exact⟨hb,cur,hc⟩
theorem fE.form(h:fE w base e size v n xs):∃a c,v= .slice a n c:=by
 rcases h.2 with⟨rfl,h0⟩|⟨g,off,cap,cur,rfl,_⟩
 ·subst h0;exact⟨none,0,rfl⟩
 exact⟨_,_,rfl⟩
theorem fE.front(h:fE w base e size v (n+1) (x1++xs)):∃g off cap,v= .slice (some ⟨g,off,none⟩) (n+1) cap/\n+1<=cap/\w.rangeAt g off x1:=by
 rcases h.2 with⟨_,h0⟩|⟨g,off,cap,cur,rfl,hb,hc,hn,_,_,hx⟩
 ·omega
 refine⟨g,off,cap,rfl,hn,λj u hj=> ?_⟩;exact aF hc (hx j u (by rw[List.getElem?_append_left (List.getElem?_eq_some_iff.1 hj).1];exact hj))
theorem fE.pop(h:fE w base e size (.slice (some ⟨g,off,none⟩) (n+1) cap) (n+1) (x1++xs))(h1:x1.length=size):∃off',sliced (some ⟨g,off,none⟩) 1 (n+1) cap size= .slice (some ⟨g,off',none⟩) n (cap-1)/\fE w base e size (.slice (some ⟨g,off',none⟩) n (cap-1)) n xs:=by
 have hl:=h.1;rw[List.length_append,h1,Nat.succ_mul] at hl;rcases h.2 with⟨h0,_⟩|⟨g',off',cap',cur,hv,hb,hc,hn,hm,hs,hx⟩
 ·cases h0
 injection hv with hv1 _ hv3
 injection hv1 with hv1
 injection hv1 with hv1 hv2
 subst hv1 hv2 hv3
 by_cases h2:cap=1
 ·subst h2
  have hn0:n=0:=by omega
  subst hn0;exact⟨off,rfl,by omega,.inr ⟨g,off,0,cur,rfl,hb,hc,by omega,by omega,by omega,λj u hj=>by
   have:=(List.getElem?_eq_some_iff.1 hj).1;rw[show xs.length=0 by omega] at this;omega⟩⟩
 refine⟨off+1*size,?_,by omega,.inr ⟨g,off+1*size,cap-1,cur,rfl,hb,hc,by omega,by omega,?_,λj u hj=> ?_⟩⟩
 ·unfold sliced
  rw[if_neg (λe=>h2 e)];show Value.slice (some ((⟨g,off,none⟩:Addr).add (1*size))) (n+1-1) (cap-1)=_;rw[bA];rfl
 ·have:cap=(cap-1)+1:=by omega
  rw[this,Nat.succ_mul] at hs;omega
 have:=hx (size+j) u (by rw[List.getElem?_append_right (by omega),h1,show size+j-size=j by omega];exact hj);rw[Nat.one_mul,Nat.add_assoc];exact this
end
section
variable {P:Program}
theorem kQ(w:World)(base:Nat)(t ty e:TypeId)(i:TypeInfo)(z:Value)(size bytes:Nat)(ht:P.underlying t=some (.slice e))(hi:P.info? e=some i)(hz:i.zero=some z)
  (hsize:i.size=size) (hby:i.bytes=bytes) (hzs:z.cells.size=size) (hsz:0<size) (v:Value) (n:Nat) (xs:List Value) (hown:fE w base e size v n xs)
  (a:Addr) (news:List Value) (hl:news.length=size) (hnews:∀j u,news[j]? =some u->w.cell? (a.add j)=some u) (h1:∀u∈news,u.oneCell'=true)
  (h63:n+1<=maxLen) (hbytes:(n+1)*bytes<=140737488355328) (hbase:base<=w.heap.size):
  ∃v' w',(Builtin.append_ #[t,t] ty #[v,.slice (some a) 1 1]).run P w= .ok v' w'/\fE w' base e size v' (n+1) (xs++news)/\w.grownBy w' v.ownBlock/\∀q,v'.ownBlock=some q->v.ownBlock=some q\/w.heap.size<=q:=by
 subst hsize hby;have hlen:(xs++news).length=(n+1)*i.size:=by rw[List.length_append,hown.1,hl,Nat.succ_mul]
 have Lr:∀{v':Value} {w':World} {base':Nat},base<=base'->w'.ownsRow base' e i.size v' (n+1) (xs++news)->fE w' base e i.size v' (n+1) (xs++news):=λ{v' w' base'} hbb h=>by
  refine⟨hlen,?_⟩;rcases h.2 with⟨_,h0⟩|⟨g,cap,cur,rfl,hb,hc,hn,hm,hs,ht⟩
  ·omega
  refine .inr ⟨g,0,cap,cur,rfl,Nat.le_trans hbb hb,hc,hn,hm,by omega,λj u hj=> ?_⟩;have hlt:=(List.getElem?_eq_some_iff.1 hj).1;rw[<-ht,List.getElem?_take] at hj;split at hj
  ·rw[Nat.zero_add,<-Array.getElem?_toList];exact hj
  cases hj
 rcases hown.2 with⟨rfl,h0⟩|⟨g,off,cap,cur,rfl,hbg,hg,hnc,hcm,hcs,hx⟩
 ·have hown':w.ownsRow base e i.size (.slice none 0 0) n xs:=⟨hown.1,.inl ⟨rfl,h0⟩⟩
  obtain⟨v',w',hr,ho,kv,_,hnew⟩:=run_append_own_at (P:=P) w base t ty e i z i.size i.bytes ht hi hz rfl rfl hzs hsz _ n xs hown' a 1 1 news (by omega) hnews h1 h63 hbytes hbase;refine⟨v',w',hr,Lr af ho,kv,λq hq=> ?_⟩;rcases hnew with e1|e1
  ·exact .inl (e1.symm.trans hq)
  rw[hq] at e1;injection e1 with e1;exact .inr (by omega)
 by_cases hroom:n+1<=cap
 ·have hcap:(n+1)*i.size<=cap*i.size:=Nat.mul_le_mul_right _ hroom
  rw[Nat.succ_mul] at hcap;have gG:=At.there (w:=w) (cs:=cur) hg (off+n*i.size) news.length (by omega);have hr:=run_append_room_cells (P:=P) w t ty e i ht hi g off n cap a 1 1 news (by omega) hnews h1 hroom (λj hj=>(gG j hj).1) (λj hj=>(gG j hj).2);have ho:=ev g news (off+n*i.size) w;obtain⟨c',hc1,hc2⟩:=ho.shape _ _ _ hg;refine⟨_,_,hr,⟨hlen,.inr ⟨g,off,cap,c',rfl,hbg,hc2,hroom,hcm,by omega,λj u hj=> ?_⟩⟩,⟨ho.os,ho.tape,ho.output,by rw[ho.size];exact Nat.le_refl _,λk _ hk=>ho.block k (λe=>hk (by rw[e];rfl))⟩,λq hq=> .inl hq⟩;have hcell:(w.setCells g (off+n*i.size) news).cell? ⟨g,off+j,none⟩=some u:=by
   by_cases LN:j<xs.length
   ·rw[List.getElem?_append_left LN] at hj
    have hw:w.rangeAt g off xs:=λj u hj=>aF hg (hx j u hj)
    exact World.rangeAt_setCells_apart hw g (off+n*i.size) news (by have:=hown.1;omega) j u hj
   rw[List.getElem?_append_right (by omega)] at hj;have:=World.rangeAt_setCells_same w g (off+n*i.size) news gG (j-xs.length) u hj;rw[show off+n*i.size+(j-xs.length)=off+j by have:=hown.1;omega] at this;exact this
  rw[World.cell?,hc2] at hcell;simpa using hcell
 obtain⟨v',w',hr,ho,kv⟩:=run_append_arg_grows (P:=P) w t ty e i z i.size i.bytes ht hi hz rfl rfl hzs hsz ⟨g,off,none⟩ n cap xs hown.1 (λj u hj=>by rw[bA];exact aF hg (hx j u hj)) a 1 1 news (by omega) hnews (by omega) h63 hbytes;exact⟨v',w',hr,Lr hbase ho,⟨kv.os,kv.tape,kv.output,kv.size,λk hk _=>kv.block k hk (λe=>by cases e)⟩,λq hq=> .inr (World.ownsRow.lt ho q hq).1⟩
theorem nt{ops:Array Oper}{rest:List Oper}{o:Oper}{a:Act}{Q:Exit->Act->World->Prop}(hgd:o.guard=none)(s x:Operand)(t:TypeId)
  (ho:o.op= .call {callee:=.builtin .append,args:=#[s,x],argTypes:=#[t,t]})
  (base:Nat) (e:TypeId) (i:TypeInfo) (z:Value) (size bytes:Nat) (ht:P.underlying t=some (.slice e)) (hi:P.info? e=some i) (hz:i.zero=some z)
  (hsize:i.size=size) (hby:i.bytes=bytes) (hzs:z.cells.size=size) (hsz:0<size)
  (v:Value) (n:Nat) (xs:List Value) (hs:a.eval s=v) (hown:fE w base e size v n xs)
  (ad:Addr) (news:List Value) (hx:a.eval x= .slice (some ad) 1 1) (hl:news.length=size) (hnews:∀j u,news[j]? =some u->w.cell? (ad.add j)=some u) (h1:∀u∈news,u.oneCell'=true)
  (h63:n+1<=maxLen) (hbytes:(n+1)*bytes<=140737488355328) (hbase:base<=w.heap.size)
  (h:∀v' w',fE w' base e size v' (n+1) (xs++news)->w.grownBy w' v.ownBlock->(∀q,v'.ownBlock=some q->v.ownBlock=some q\/w.heap.size<=q)->wpList P ops Q rest (a.put o.dst v') w'):wpList P ops Q (o::rest) a w:=by
 refine wpList_plain hgd λK hK=> ?_
 obtain⟨v',w',hr,h2,h3,h4⟩:=kQ (P:=P) w base t o.type e i z size bytes ht hi hz hsize hby hzs hsz v n xs hown ad news hl hnews h1 h63 hbytes hbase;unfold Oper.wp execOp;simp only[ho,resolve,invoke,builtin,Sem.run_bind,Sem.run_pure,Result.andThen_ok,List.map_toArray,List.map_cons,List.map_nil,hs,hx,hr];exact hK _ _ (h v' w' h2 h3 h4)
end
theorem C9(g s i j b:Nat)(hm:aT g s i j=true)(hb:2+j+g*s<=b)(w:World):Calls Tryz.prog 144 #[bV g s i j,.int .i64 (b:Int)] w λe w'=>e= .returned (.tuple #[.int .u8 0,.int .i64 0,.int .i64 0])/\Below w.heap.size w w':=by
 have hA:=At.new w 23 (ai g s i j);have HL:Hd (Below w.heap.size w (w.alloc (.cells (ai g s i j) 23))):=ag.alloc af _;have HM:=ah hm;clear hm;go_enter Tryz.func144,Tryz.ntmps144;go_wp2_with (first|(refine aB rfl 23 (.tmp 2) rfl _ _ _ rfl hA Tryz.underlying23 rfl (by kernel_rfl) ?_))
 refine(nJ g s i j HM.Z _).mono ?_;rintro e w1 ⟨hb1,q,cap,rfl,_,_,_⟩;have kB:=ah (HL.Z.trans (hb1.mono HL.Z.size));obtain⟨n,hn⟩:=aa (2+j+g*s);rw[<-hn] at hb ⊢;have d1:decide ((b:Int)<0)=false:=decide_eq_false (by omega);have d2:decide ((n:Int)<=(b:Int))=true:=decide_eq_true (by omega);have TY:decide (n<=b)=true:=decide_eq_true hb;clear hA HL hb1 hn;go_wp2_with fail;refine bodyPost_ret (results_tmp3 rfl _ _ _) rfl ?_;exact⟨rfl,kB.Z⟩
theorem rk(hx:x.Ok)(p b off cap:Nat)(ds ino ay pt:Value)(q:Nat)(w:World)(h:qz p b off cap x ds ino ay pt w):
  Calls Tryz.prog 153 #[.pointer (some ⟨p,0,none⟩),.int .i64 (q:Int)] w λe w'=>e= .returned (.bool (x.data q))/\Below w.heap.size w w':=by
 by_cases hq:q<x.n
 ·exact Ak hx p b off cap ds ino ay pt q w h hq
 have hrg:=h.lT;have HW:Hd (∀W,Calls Tryz.prog 144 #[bV x.g x.s x.i x.j,.int .i64 (q:Int)] W λe w'=>e= .returned (.tuple #[.int .u8 0,.int .i64 0,.int .i64 0])/\Below W.heap.size W w'):=λW=>C9 x.g x.s x.i x.j q hx.may (by have:=hx.n;omega) W
 have HD:Hd (x.data q=false):=by show _=_;unfold Im.data;rw[decide_eq_false hq];simp
 clear hx hq;go_enter Tryz.func153,Tryz.ntmps153;go_wp2_with (first|(refine aH rfl 23 (.tmp 11) rfl p 6 (ai x.g x.s x.i x.j).toList _ rfl hrg Tryz.underlying23 rfl (by kernel_rfl) ?_))
 refine(HW.Z _).mono ?_;rintro e w1 ⟨rfl,hb1⟩;have jS:=ah hb1;clear hrg h hb1 HW;go_wp2_with fail;go_ret;exact⟨by rw[HD.Z];rfl,jS.Z⟩
def mh(y:Im.Pt):List Value:=[.int .i64 (y.i:Int),.int .i64 (y.b:Int),.int .i64 (y.f:Int),.int .i64 ((Im.gh y.l:Nat):Int)]
theorem vI(y:Im.Pt):∀u∈mh y,u.oneCell'=true:=λu hu=>by
 simp only[mh,List.mem_cons,List.not_mem_nil,or_false] at hu;rcases hu with rfl|rfl|rfl|rfl<;>rfl
theorem Jm(Q:List Im.Pt)(y:Im.Pt){k:Nat}(hk:k<Q.length):zG (Q++[y]) k=zG Q k:=by unfold zG;rw[List.getElem?_append_left hk]
theorem Jl(Q:List Im.Pt)(y:Im.Pt):zG (Q++[y]) Q.length=mh y:=rA (by simp)
theorem vp(i bb f s:Int)(W:World):(Instr.buildSlice 155 1 #[(0,.agg #[.int .i64 i,.int .i64 bb,.int .i64 f,.int .i64 s])]).run Tryz.prog W= .ok (.slice (some ⟨W.heap.size,0,none⟩) 1 1) (W.alloc (.cells #[.int .i64 i,.int .i64 bb,.int .i64 f,.int .i64 s] 194)):=by kernel_rfl
theorem yz:∃i,Tryz.prog.info? 194=some i/\i.zero=some (.agg #[.int .i64 0,.int .i64 0,.int .i64 0,.int .i64 0])/\i.size=4/\i.bytes=32:=by
 have h:(Tryz.prog.info? 194).map (λi=>(i.zero,i.size,i.bytes))=some (some (.agg #[.int .i64 0,.int .i64 0,.int .i64 0,.int .i64 0]),4,32):=by kernel_rfl
 cases hq:Tryz.prog.info? 194 with
 |none=>rw[hq] at h;cases h
 |some i=>
  rw[hq] at h;injection h with h
  injection h with h1 h2
  injection h2 with h2 h3
  exact⟨i,rfl,h1,h2,h3⟩
def IT:Nat->Nat
 |0=>1
 |l+1=>1+64*IT l
def Yx:Option Value->Nat
 |some (.int .i64 s)=>(64*s.toNat-1)/63
 |_=>0
def ET(W:World)(g off:Nat):Nat->Nat
 |0=>0
 |n+1=>ET W g off n+Yx (W.cell? ⟨g,off+n*4+3,none⟩)
def P8(W:World):Value->Nat
 | .slice (some a) n _=>ET W a.block a.off n
 |_=>0
def EM(l:List Im.Pt):Nat:=(l.map λy=>IT y.l).sum
theorem MA{l:Nat}(hl:l<4):Yx (some (.int .i64 ((Im.gh l:Nat):Int)))=IT l:=by
 have:l=0\/l=1\/l=2\/l=3:=by omega
 rcases this with rfl|rfl|rfl|rfl<;>rfl
theorem L5:∀(l:List Im.Pt) (k:Nat) (y:Im.Pt),l[k]? =some y->∀j u,(mh y)[j]? =some u->(l.flatMap mh)[k*4+j]? =some u
 |[],k,y,h,_,_,_=>by cases h
 |z::l,0,y,h,j,u,hj=>by
  injection h with h
  subst h;rw[List.flatMap_cons,Nat.zero_mul,Nat.zero_add,List.getElem?_append_left (List.getElem?_eq_some_iff.1 hj).1];exact hj
 |z::l,k+1,y,h,j,u,hj=>by
  rw[List.flatMap_cons,List.getElem?_append_right (by show 4<=_;omega)];show(l.flatMap mh)[(k+1)*4+j-4]? =_;rw[show(k+1)*4+j-4=k*4+j by omega];exact L5 l k y h j u hj
theorem uZ{W:World}{base:Nat}{l:List Im.Pt}(h:fE W base 194 4 v l.length (l.flatMap mh))(hl:∀y∈l,y.l<4):P8 W v=EM l:=by
 rcases h.2 with⟨rfl,h0⟩|⟨g,off,cap,cur,rfl,_,hc,_,_,_,hx⟩
 ·have:l=[]:=List.eq_nil_of_length_eq_zero h0
  subst this;rfl
 show ET W g off l.length=_;have key:∀k,k<=l.length->ET W g off k=EM (l.take k):=by
  intro k
  induction k with
  |zero=>intro _;rfl
  |succ k ih=>
   intro hk;obtain⟨y,hy⟩:∃y,l[k]? =some y:=⟨_,List.getElem?_eq_getElem (by omega)⟩;have hcell:W.cell? ⟨g,off+k*4+3,none⟩=some (.int .i64 ((Im.gh y.l:Nat):Int)):=by
    have:=aF hc (hx _ _ (L5 l k y hy 3 _ rfl));rwa[<-Nat.add_assoc] at this
   rw[ET,ih (by omega),hcell,MA (hl y (List.mem_of_getElem? hy)),List.take_add_one,hy];unfold EM;rw[List.map_append,List.sum_append];simp
 rw[key _ af,List.take_length]
theorem Bq(a c:List Im.Pt):EM (a++c)=EM a+EM c:=by unfold EM;rw[List.map_append,List.sum_append]
theorem EL(y:Im.Pt):EM (x.kids y)<IT y.l:=by
 unfold Im.kids;cases y.l with
 |zero=>exact Nat.one_pos
 |succ l=>
  show EM ((List.range 64).map (x.kid y l))<1+64*IT l;have:∀n,EM ((List.range n).map (x.kid y l))=n*IT l:=λn=>by
   induction n with
   |zero=>rw[Nat.zero_mul];rfl
   |succ n ih=>rw[List.range_succ,List.map_append,Bq,ih,Nat.succ_mul];rfl
  rw[this];omega
structure wY(w:World)(p b off cap:Nat)(x:Im)(ds:Value)(r ci g:Nat)(m:Nat->Bool)(pt:Value)(Q:List Im.Pt)(W:World):Prop where
 s:sK p b off cap x ds r ci (.slice (some ⟨g,0,none⟩) (x.ni+1) (x.ni+1)) pt W
 o:aE W g 4 1 (x.ni+1) (kH m)
 q:au W w.heap.size 194 4 pt Q.length (zG Q)
 gr:dV (JP p) w W
 lo:p<w.heap.size/\b<w.heap.size/\r<w.heap.size/\g<w.heap.size
section
variable {w:World} {p b off cap:Nat} {x:Im} {ds:Value} {r ci g:Nat} {m:Nat->Bool} {pt:Value} {Q:List Im.Pt} {W W':World}
theorem wY.below(h:wY w p b off cap x ds r ci g m pt Q W)(hb:Below W.heap.size W W'):wY w p b off cap x ds r ci g m pt Q W':=⟨h.s.below hb,h.o.below hb,h.q.below hb,h.gr.trans (dV.b9 hb),h.lo⟩
theorem wY.grown(h:wY w p b off cap x ds r ci g m pt Q W){row:Option Nat}(hg:W.grownBy W' row)(hl:∀q,row=some q->w.heap.size<=q)(hne:∀q,pt.ownBlock=some q->row≠some q):wY w p b off cap x ds r ci g m pt Q W':=by
 have n1:∀j,j<w.heap.size->row≠some j:=λj hj e=>by have:=hl j e;omega
 obtain⟨h1,h2,h3,h4⟩:=h.lo;refine⟨⟨⟨dE h.s.k.a hg (n1 p h1),aM.fX h.s.k.i hg h.s.k.bl (λe=>n1 b h2 e.symm),Nat.lt_of_lt_of_le h.s.k.bl hg.size⟩,aM.fX h.s.i hg h.s.rl (λe=>n1 r h3 e.symm),Nat.lt_of_lt_of_le h.s.rl hg.size⟩,h.o.grown hg (λe=>n1 g h4 e.symm),au.kept h.q hg ?_,h.gr.AW hg hl,h.lo⟩;cases e:pt.ownBlock with
 |none=>exact .inl rfl
 |some q=>exact .inr (λe2=>hne q e e2.symm)
theorem wY.ptV(h:wY w p b off cap x ds r ci g m pt Q W):KX p Q pt W:=by
 obtain⟨a,c,e⟩:=au.form h.q;subst e;exact⟨a,c,rfl,au.row h.q (qj Q)⟩
end
end Go.Proofs.YtphamecphmbipaaGreatDoor
