/- Texts of this claim, merged. -/
import Derived.Test.YtphamecphmbipaaGreatDoorZ29
set_option linter.unusedVariables false
namespace Go.Proofs.YtphamecphmbipaaGreatDoor
open Go.RowKit
variable {M q p base sb g Y N fb B k i:Nat} {x:Im} {m:MS} {d:dL} {P:PlanD} {w W':World} {a:Nat->Option Addr} {ys:Nat->aS}
def wZ(G S I J:Int)(P:PlanD)(w:World)(e:Ending)(w':World):Prop:=
 Below w.heap.size w w'/\((aT G S I J=false/\e= .returned (.slice none 0 0))\/
  (∃(x:Im) (q:Nat),x.Ok/\x=Nc x.g x.s x.i x.j/\G=x.g/\S=x.s/\I=x.i/\J=x.j/\e= .returned (.slice (some ⟨q,0,none⟩) x.n x.n)/\w.heap.size<=q/\
   aE w' q 32 256 x.n (dR (P.QI x))/\∀b,bu (P.QI x b)))
theorem Va{G S I J:Int}(hm:aT G S I J=true):∃x:Im,x.Ok/\x=Nc x.g x.s x.i x.j/\G=x.g/\S=x.s/\I=x.i/\J=x.j:=by
 obtain⟨h1,h2,h3,h4,h5,h6,h7,h8,h9,h10,h11⟩:=(bq G S I J).1 hm;obtain⟨g,rfl⟩:∃g:Nat,G=g:=⟨G.toNat,by omega⟩;obtain⟨s,rfl⟩:∃s:Nat,S=s:=⟨S.toNat,by omega⟩;obtain⟨i,rfl⟩:∃i:Nat,I=i:=⟨I.toNat,by omega⟩;obtain⟨j,rfl⟩:∃j:Nat,J=j:=⟨J.toNat,by omega⟩;exact⟨Nc g s i j,⟨λb=>BJ g s i j b,hm,rfl,(by decide:(0:Nat)<4294967296)⟩,rfl,rfl,rfl,rfl,rfl⟩
structure Mi(M q p:Nat)(x:Im)(m:MS)(d:dL)(P:PlanD)(w W:World):Prop where
 pm:jy M q x m W
 bx:At W p 27 (dK x.g x.s x.i x.j d P)
 r:iX w.heap.size d P W
 bel:Below w.heap.size w W
theorem Mi.below{W:World}(h:Mi M q p x m d P w W)(hb:Below W.heap.size W W'):Mi M q p x m d P w W':=
 ⟨h.pm.below hb,h.bx.below hb h.bx.lt,h.r.below (hb.mono h.bel.size),h.bel.trans (hb.mono h.bel.size)⟩
theorem Mi.lT{W:World}(h:Mi M q p x m d P w W):W.rangeAt p 0 (ai x.g x.s x.i x.j).toList:=λk v hk=>by
 match k,hk with
 |0,hk=>injection hk with hk;subst hk;exact h.bx.cell (i:=0) rfl
 |1,hk=>injection hk with hk;subst hk;exact h.bx.cell (i:=1) rfl
 |2,hk=>injection hk with hk;subst hk;exact h.bx.cell (i:=2) rfl
 |3,hk=>injection hk with hk;subst hk;exact h.bx.cell (i:=3) rfl
 |k+4,hk=>cases hk
theorem Bf.grown{W:World}{n:Nat}{sl:Nat->List sI}{c:Nat->Nat}(h:Bf W base sb n sl a c){row:Option Nat}(hg:W.grownBy W' row)(hs:row≠some sb)(hr:∀t,t<n->vQ (a t)=none\/vQ (a t)≠row):Bf W' base sb n sl a c:=
 ⟨h.u.grown hg (λe=>hs e.symm),λt ht=>(h.r t ht).kept hg (by rw[mI];exact hr t ht),h.ne⟩
theorem Bf.only{W:World}{n:Nat}{sl:Nat->List sI}{c:Nat->Nat}(h:Bf W base sb n sl a c)(ho:az g W W'){T:TypeId}{cs:Array Value}(hA:At W g T cs)(hT:90≠T)(hs:g≠sb):Bf W' base sb n sl a c:=
 h.grown (fD ho) (λe=>by injection e with e;exact hs e) λt ht=> .inr (by rw[<-mI (a t) (sl t).length (c t)];exact dJ hA (h.r t ht) hT)
theorem F9:(Tryz.prog.info? 88).map (λi=>(i.zero,i.size,i.bytes))=some (some (.slice none 0 0),1,24):=by kernel_rfl
theorem CV(n:Nat)(hn:n<=2048)(W:World):(Instr.makeSlice 87 (.int .i64 ((n:Int)+1)) (.int .i64 ((n:Int)+1))).run Tryz.prog W= .ok (.slice (some ⟨W.heap.size,0,none⟩) (n+1) (n+1)) (W.alloc (.cells (madeCells #[.slice none 0 0] (n+1)) 88)):=by
 have h:=dx (P:=Tryz.prog) 87 88 (.slice none 0 0) 1 24 Tryz.underlying87 F9 .i64 .i64 (n+1) (by omega) (by omega) W;rw[Nat.mul_one] at h;exact h
theorem CW(n:Nat)(hn:n<=2048)(W:World):(Instr.makeSlice 86 (.int .i64 ((n:Int)+1)) (.int .i64 ((n:Int)+1))).run Tryz.prog W= .ok (.slice (some ⟨W.heap.size,0,none⟩) (n+1) (n+1)) (W.alloc (.cells (madeCells aS.nil.val.cells ((n+1)*16)) 63)):=
 dx (P:=Tryz.prog) 86 63 aS.nil.val 16 80 Tryz.underlying86 mM .i64 .i64 (n+1) (by omega) (by omega) W
theorem BO(y:aS):∀v∈y.arr.toList,v.oneCell'=true:=by
 intro v hv;have:y.arr.toList.all (·.oneCell')=true:=by kernel_rfl
 exact(List.all_eq_true.1 this) v hv
theorem DA(i:Nat)(d:dL)(P:PlanD):(Tryz.prog.info? 78).map (·.size)=some (Ki d P i).toArray.size:=by kernel_rfl
theorem FM(i:Nat)(d:dL)(P:PlanD):(Ki d P i).toArray.all (·.oneCell')=true:=by kernel_rfl
structure zq(M q Y N p sb fb B:Nat)(x:Im)(m:MS)(d:dL)(P:PlanD)(k:Nat)(A:PlanD.IS)(a:Nat->Option Addr)(c:Nat->Nat)(w W:World):Prop where
 ic:m5 M q Y N p x m A.ino d P w W
 fi:At W fb 78 (Ki d P k).toArray
 su:Bf W B sb N A.sl a c
theorem zq.below{A:PlanD.IS}{c:Nat->Nat}{W:World}(h:zq M q Y N p sb fb B x m d P k A a c w W)(hb:Below W.heap.size W W'):zq M q Y N p sb fb B x m d P k A a c w W':=
 ⟨h.ic.below hb,h.fi.below hb h.fi.lt,h.su.below hb⟩
theorem m5.YP{W:World}(h:m5 M q Y N p x m ys d P w W):M<W.heap.size/\q<W.heap.size/\Y<W.heap.size/\p<W.heap.size:=⟨h.pm.lM,h.pm.im.lt,h.y.lt,h.bx.lt⟩
theorem zq.start{A:PlanD.IS}{c:Nat->Nat}{W:World}(h:m5 M q Y N p x m A.ino d P w W)(hs:Bf W B sb N A.sl a c){cs:Array Value}(ha:At W' W.heap.size 78 (Ki d P k).toArray)(ho:az W.heap.size (W.alloc (.cells cs 78)) W'):
  zq M q Y N p sb W.heap.size B x m d P k A a c w W':=by
 have hb:Below W.heap.size W (W.alloc (.cells cs 78)):=ag.alloc af _;obtain⟨l1,l2,l3,l4⟩:=h.YP;have l5:=hs.u.lt;have l6:=h.bel.size;refine⟨(h.below hb).only ho (by omega),ha,(hs.below hb).only ho (At.new W 78 cs) (by decide) (by omega)⟩
theorem zq.Ji{A:PlanD.IS}{c:Nat->Nat}{W:World}(h:zq M q Y N p sb fb B x m d P k A a c w W)(hi:i<N)(y:aS)(hW:W'=W.setCells Y (i*16) y.arr.toList):zq M q Y N p sb fb B x m d P k {A with ino:=ak A.ino i y} a c w W':=by
 obtain⟨h1,h2⟩:=h.ic.Ji hi y hW;obtain⟨cs,hc,_⟩:=h.ic.y.blk;obtain⟨cu,hu,_⟩:=h.su.u.blk;exact⟨h1,h.fi.only h2 (At.dk h.fi hc (by decide)),h.su.only h2 hc (by decide) (At.dk hc hu (by decide))⟩
theorem zq.M5{A:PlanD.IS}{c:Nat->Nat}{W:World}(h:zq M q Y N p sb fb B x m d P k A a c w W)(hi:i<N)(v:Int):zq M q Y N p sb fb B x m d P k {A with ino:=ak A.ino i {A.ino i with aQ:=v}} a c w (W.setCell ⟨Y,i*16+1,none⟩ (.int .i64 v)):=by
 obtain⟨h1,h2⟩:=h.ic.M5 hi v;obtain⟨cs,hc,_⟩:=h.ic.y.blk;obtain⟨cu,hu,_⟩:=h.su.u.blk;exact⟨h1,h.fi.only h2 (At.dk h.fi hc (by decide)),h.su.only h2 hc (by decide) (At.dk hc hu (by decide))⟩
theorem E4(l:List sI)(e:sI)(t:Nat)(ht:t<l.length):kC l t=kC (l++[e]) t:=by
 unfold kC;have h:(l++[e]).getD t default=l.getD t default:=by simp[List.getD_eq_getElem?_getD,List.getElem?_append_left ht]
 rw[h]
theorem E5(l:List sI)(e:sI):kC (l++[e]) l.length=[.int .u32 (e.1:Nat),.string e.2]:=by
 unfold kC;have h:(l++[e]).getD l.length default=e:=by simp[List.getD_eq_getElem?_getD]
 rw[h]
structure zn(M q Y N p sb fb B:Nat)(x:Im)(m:MS)(d:dL)(P:PlanD)(k:Nat)(A:PlanD.IS)(a:Nat->Option Addr)(c:Nat->Nat)(dn:Nat)(e:sI)(w:World)(st:Mv.St)(W:World):Prop where
 ic:m5 M q Y N p x m A.ino d P w W
 fi:At W fb 78 (Ki d P k).toArray
 u:aE W sb 88 1 N (λt=>[.slice (a t) (A.sl t).length (c t)])
 r:∀t,t<N->t≠dn->au W B 90 2 (.slice (a t) (A.sl t).length (c t)) (A.sl t).length (kC (A.sl t))
 ne:∀s t,s<N->t<N->s≠t->vQ (a s)=none\/vQ (a s)≠vQ (a t)
 s0:st.n<2->au W B 90 2 (.slice (a dn) (A.sl dn).length (c dn)) (A.sl dn).length (kC (A.sl dn))
 s1:st.n=1->∀g,st.v= .slice (some ⟨g,0,none⟩) 1 1->∀j u,([.int .u32 (e.1:Nat),.string e.2]:List Value)[j]? =some u->W.cell? ((⟨g,0,none⟩:Addr).add j)=some u
 s2:st.n=2->au W B 90 2 st.v ((A.sl dn).length+1) (kC (A.sl dn++[e]))/\∀t,t<N->t≠dn->vQ (a t)=none\/vQ (a t)≠st.v.ownBlock
section
variable {M q Y N p sb fb B k dn:Nat} {x:Im} {m:MS} {d:dL} {P:PlanD} {A:PlanD.IS} {a:Nat->Option Addr} {c:Nat->Nat} {e:sI} {w W W':World}
theorem zn.start(h:zq M q Y N p sb fb B x m d P k A a c w W)(hd:dn<N)(hb:Below W.heap.size W W'):zn M q Y N p sb fb B x m d P k A a c dn e w ⟨0,undef⟩ W':=by
 have h':=h.below hb;exact⟨h'.ic,h'.fi,h'.su.u,λt ht _=>h'.su.r t ht,h'.su.ne,λ_=>h'.su.r dn hd,(λe=>by cases e),λe=>by cases e⟩
theorem zn.alloc(h:zn M q Y N p sb fb B x m d P k A a c dn e w ⟨0,undef⟩ W):zn M q Y N p sb fb B x m d P k A a c dn e w ⟨1,.slice (some ⟨W.heap.size,0,none⟩) 1 1⟩ (W.alloc (.cells #[.int .u32 (e.1:Nat),.string e.2] 90)):=by
 have hb:Below W.heap.size W (W.alloc (.cells #[.int .u32 (e.1:Nat),.string e.2] 90)):=ag.alloc af _;refine⟨h.ic.below hb,h.fi.below hb h.fi.lt,h.u.below hb,λt ht hn=>(h.r t ht hn).below hb,h.ne,λ_=>(h.s0 (by decide)).below hb,?_,λe=>by cases e⟩;rintro _ g hg;injection hg with h1 h2 h3;injection h1 with h1;injection h1 with h1;subst h1
 exact eN W [.int .u32 (e.1:Nat),.string e.2] _
theorem zn.cell{st:Mv.St}(h:zn M q Y N p sb fb B x m d P k A a c dn e w st W)(hd:dn<N):W.cell? ⟨sb,dn,none⟩=some (.slice (a dn) (A.sl dn).length (c dn)):=by
 have:=h.u.bQ dn hd 0 _ rfl;rwa[Nat.zero_add,Nat.mul_one,Nat.add_zero] at this
theorem zn.app(h:zn M q Y N p sb fb B x m d P k A a c dn e w ⟨1,.slice (some ⟨g,0,none⟩) 1 1⟩ W)(hd:dn<N)(hB:w.heap.size<=B/\M<B/\q<B/\Y<B/\p<B/\sb<B){v':Value}(hg:W.grownBy W' (Value.slice (a dn) (A.sl dn).length (c dn)).ownBlock)
  (ho:W'.ownsRow B 90 2 v' ((A.sl dn).length+1) (Cs (kC (A.sl dn)) (A.sl dn).length++[.int .u32 (e.1:Nat),.string e.2])) (hv:v'.ownBlock=(Value.slice (a dn) (A.sl dn).length (c dn)).ownBlock\/v'.ownBlock=some W.heap.size):zn M q Y N p sb fb B x m d P k A a c dn e w ⟨2,v'⟩ W':=by
 have hown:=h.s0 (by show(1:Nat)<2;decide);have lR:∀r,(Value.slice (a dn) (A.sl dn).length (c dn)).ownBlock=some r->B<=r:=λr hr=>(World.ownsRow.lt hown r hr).1
 obtain⟨cu,hu,_⟩:=h.u.blk;have hne:∀t,t<N->t≠dn->vQ (a t)=none\/vQ (a t)≠(Value.slice (a dn) (A.sl dn).length (c dn)).ownBlock:=λt ht hn=>by rw[mI];exact h.ne t dn ht hd hn
 refine⟨h.ic.grown hg (λr e=>by have:=lR r e;omega),dE h.fi hg (dJ h.fi hown (by decide)),h.u.grown hg (λe=>dJ hu hown (by decide) e.symm),λt ht hn=>(h.r t ht hn).kept hg (by rw[mI];exact hne t ht hn),h.ne,(λe:(2:Nat)<2=>absurd e (by decide)),(λe=>by cases e),λ_=>⟨?_,λt ht hn=> ?_⟩⟩
 ·refine au.append (k:=1) (f:=kC (A.sl dn++[e])) (news:=[.int .u32 (e.1:Nat),.string e.2]) ?_ ?_
  ·rw[show Cs (kC (A.sl dn++[e])) (A.sl dn).length=Cs (kC (A.sl dn)) (A.sl dn).length from iS λt ht=>(E4 _ _ t ht).symm]
   exact ho
  show _=([]:List Value)++kC (A.sl dn++[e]) ((A.sl dn).length+0);rw[Nat.add_zero,E5];rfl
 rcases hv with hv|hv
 ·show vQ (a t)=none\/vQ (a t)≠v'.ownBlock
  rw[hv];exact hne t ht hn
 show vQ (a t)=none\/vQ (a t)≠v'.ownBlock;rw[hv];right
 intro e;have:=(World.ownsRow.lt (h.r t ht hn) W.heap.size (by rw[mI];exact e)).2;omega
theorem zn.fin{ca:Option Addr}{cc:Nat}(h:zn M q Y N p sb fb B x m d P k A a c dn e w ⟨2,.slice ca ((A.sl dn).length+1) cc⟩ W)(hd:dn<N)(Ny:w.heap.size<=sb):
  zq M q Y N p sb fb B x m d P k {A with sl:=ak A.sl dn (A.sl dn++[e])} (ak a dn ca) (ak c dn cc) w (W.setCell ⟨sb,dn,none⟩ (.slice ca ((A.sl dn).length+1) cc)):=by
 have ho:az sb W (W.setCell ⟨sb,dn,none⟩ (.slice ca ((A.sl dn).length+1) cc)):=az.setCell W ⟨sb,dn,none⟩ _;obtain⟨cu,hu,_⟩:=h.u.blk;obtain⟨f,hf⟩:=h.ic.pm.k;obtain⟨c1,h1,_⟩:=h.ic.pm.im.blk;obtain⟨c2,h2,_⟩:=h.ic.y.blk;obtain⟨hm,hne⟩:=h.s2 rfl;refine⟨h.ic.only ho ⟨Ny,(At.dk hf hu (by decide)).symm,(At.dk h1 hu (by decide)).symm,(At.dk h2 hu (by decide)).symm,(At.dk h.ic.bx hu (by decide)).symm⟩,h.fi.only ho (At.dk h.fi hu (by decide)),?_,λt ht=> ?_,λs t hs ht hst=> ?_⟩
 ·have:=h.u.dO (k:=dn) (j:=0) hd (by decide) (λ_=>rfl) (.slice ca ((A.sl dn).length+1) cc)
  rw[Nat.mul_one,Nat.add_zero] at this;refine this.congr λt ht=> ?_
  unfold ak;dsimp only
  by_cases e':t=dn
  ·subst e';rw[if_pos rfl,if_pos rfl,if_pos rfl,if_pos rfl,List.length_append];rfl
  rw[if_neg e',if_neg e',if_neg e',if_neg e']
 ·dsimp only
  unfold ak
  by_cases e':t=dn
  ·subst e'
   rw[if_pos rfl,if_pos rfl,if_pos rfl,List.length_append];exact fm hm ho (dJ hu hm (by decide))
  rw[if_neg e',if_neg e',if_neg e'];exact fm (h.r t ht e') ho (dJ hu (h.r t ht e') (by decide))
 unfold ak
 by_cases es:s=dn
 ·subst es
  rw[if_pos rfl,if_neg (λe=>hst e.symm)];rcases hne t ht (λe=>hst e.symm) with h1|h1
  ·cases J5:vQ ca with
   |none=>exact .inl rfl
   |some r=>right;rw[h1];exactλe=>by cases e
  right
  intro e;refine h1 ?_;show vQ (a t)=(Value.slice ca ((A.sl s).length+1) cc).ownBlock;rw[mI,e]
 rw[if_neg es]
 by_cases et:t=dn
 ·subst et
  rw[if_pos rfl];have:=hne s hs es;rw[show(⟨2,.slice ca ((A.sl t).length+1) cc⟩:Mv.St).v.ownBlock=(Value.slice ca ((A.sl t).length+1) cc).ownBlock from rfl,mI] at this;exact this
 rw[if_neg et];exact h.ne s t hs ht hst
end
theorem E6(l:List sI)(k:Nat):(kC l k).length=2:=rfl
theorem m5.slt{sl:Nat->List sI}{c:Nat->Nat}{W:World}(h:m5 M q Y N p x m ys d P w W)(hs:Bf W B sb N sl a c)(hB:M<B/\q<B/\Y<B):Eb M q Y N sb a c sl W:=by
 obtain⟨cu,hu,_⟩:=hs.u.blk;obtain⟨f,hf⟩:=h.pm.k;obtain⟨c1,h1,_⟩:=h.pm.im.blk;obtain⟨c2,h2,_⟩:=h.y.blk;refine⟨λk hk=> ?_,λk hk=>(hs.r k hk).row (E6 _),⟨hs.u.lt,?_⟩,λk b off hk e=> ?_⟩
 ·have:=hs.u.bQ k hk 0 _ rfl
  rwa[Nat.zero_add,Nat.mul_one,Nat.add_zero] at this
 ·rintro(e|e|e)
  ·exact At.dk hf hu (by decide) e.symm
  ·exact At.dk h1 hu (by decide) e.symm
  exact At.dk h2 hu (by decide) e.symm
 have:=World.ownsRow.lt (hs.r k hk) b (by rw[e];rfl);refine⟨this.2,?_⟩;rintro(e|e|e)<;>omega
theorem JJ(hx:x.Ok)(P:PlanD)(hB:P.Bd)(N n:Nat)(hN:N<=4096):iQ x ⟨iL x.g x.s x.i x.j,0⟩ (P.lg N N).ino n:=
 ⟨λ_=>0,MS.wf0 hx,λk hk q hq=>by
  rw[(P.Az hB N N hN k).2 q];exact⟨by decide,.inl rfl⟩⟩
theorem v7(P:PlanD)(hS:P.Small)(N:Nat)(hN:N<=P.nf)(k:Nat):((P.lg N N).sl k).length<=1000/\∀t,t<((P.lg N N).sl k).length->(((P.lg N N).sl k).getD t default).1<4294967296:=by
 obtain⟨h1,h2⟩:=P.vX N N k;have hcn:P.cn N<=P.cn P.nf:=by
  by_cases e:N=0
  ·subst e;exact Nat.zero_le _
  have:=PlanD.Ca P (k:=N-1) (n:=P.nf) (by omega);rwa[show N-1+1=N by omega] at this
 have:=hS.cn;have:=hS.nf;refine⟨by omega,λt ht=> ?_⟩;have hm:((P.lg N N).sl k).getD t default∈(P.lg N N).sl k:=by
  rw[List.getD_eq_getElem?_getD,List.getElem?_eq_getElem ht];exact List.getElem_mem ht
 have:=h2 _ hm;omega
theorem lP(G S I J:Int)(d:dL)(P:PlanD):(Tryz.prog.info? 27).map (·.size)=some (dK G S I J d P).size:=by kernel_rfl
set_option maxRecDepth 100000 in
set_option maxHeartbeats 16000000 in
theorem yE(G S I J:Int)(d:dL)(P:PlanD)(hB:P.Bd)(hS:P.Small)(w:World)(hP:iX w.heap.size d P w):
  Calls Tryz.prog 9 #[tZ G S I J d P] w λe w'=>wZ G S I J P w e w':=by
 have zI:=At.new w 27 (dK G S I J d P);have hb0:Below w.heap.size w (w.alloc (.cells (dK G S I J d P) 27)):=ag.alloc af _;have hrg:(w.alloc (.cells (dK G S I J d P) 27)).rangeAt w.heap.size 0 (ai G S I J).toList:=λk v hk=>by
  match k,hk with
  |0,hk=>injection hk with hk;subst hk;exact zI.cell (i:=0) rfl
  |1,hk=>injection hk with hk;subst hk;exact zI.cell (i:=1) rfl
  |2,hk=>injection hk with hk;subst hk;exact zI.cell (i:=2) rfl
  |3,hk=>injection hk with hk;subst hk;exact zI.cell (i:=3) rfl
  |k+4,hk=>cases hk
 have pK:=ah hb0;have Yo:=ah zI;have xu:=ah hB;have xr:=ah hS;have Mm:=ah hP;clear hb0 zI hB hS hP;cases hm:aT G S I J with
 |false=>
  have HM:=ah hm;clear hm;go_enter Tryz.func9,Tryz.ntmps9;go_wp2_with (first|(refine aH rfl 23 (.tmp 14) rfl w.heap.size 0 (ai G S I J).toList _ rfl hrg Tryz.underlying23 rfl (by kernel_rfl) ?_))
  refine(Fo G S I J HM.Z _).mono ?_;rintro e w1 ⟨rfl,hb1⟩;have jS:Hd (Below w.heap.size w w1):=pK.Z.trans (hb1.mono pK.Z.size);clear hb1 hrg;go_wp2_with fail;go_ret;exact⟨jS.Z,.inl ⟨HM.Z,rfl⟩⟩
 |true=>
  obtain⟨x,hx,YY,rfl,rfl,rfl,rfl⟩:=Va hm;have HX:=ah hx;have HXM:=ah YY;have eS:=hx.may;have Bk:=ah eS;have gi:=hx.iK;have uq:2<=x.n:=by have:=hx.n;omega
  have q0:((x.n:Int)==0)=false:=by simp;omega
  have hni:x.g*x.i<=256:=eX eS;have adj:4<=x.g*x.i:=by have:=dX eS;exact Nat.mul_le_mul this.1 this.2.2.2.2.1
  have JQ:P.nf<=300:=xr.Z.nf;clear hm hx YY eS;go_enter Tryz.func9,Tryz.ntmps9;go_wp2_with (first|(refine aH rfl 23 (.tmp 14) rfl w.heap.size 0 (ai x.g x.s x.i x.j).toList _ rfl hrg Tryz.underlying23 rfl (by kernel_rfl) ?_))
  refine(C8 x.g x.s x.i x.j Bk.Z _).mono ?_;rintro e w1 ⟨q,rfl,hI⟩;rw[<-HX.Z.n];have HI:Hd (aE w1 q 32 256 x.n (dR (iL x.g x.s x.i x.j))):=by show aE _ _ _ _ _ _;rw[HX.Z.n];exact hI.a
  have hle:=hI.le;have jS:Hd (Below w.heap.size w w1):=pK.Z.trans (hI.bel.mono pK.Z.size);have Bo:Hd (At w1 w.heap.size 27 (dK x.g x.s x.i x.j d P)):=Yo.Z.below hI.bel Yo.Z.lt;have hq1:=hI.a.lt;have hp1:=Bo.Z.lt;clear pK Yo hI hrg;have hrg:w1.rangeAt w.heap.size 0 (ai x.g x.s x.i x.j).toList:=λk v hk=>by
   match k,hk with
   |0,hk=>injection hk with hk;subst hk;exact Bo.Z.cell (i:=0) rfl
   |1,hk=>injection hk with hk;subst hk;exact Bo.Z.cell (i:=1) rfl
   |2,hk=>injection hk with hk;subst hk;exact Bo.Z.cell (i:=2) rfl
   |3,hk=>injection hk with hk;subst hk;exact Bo.Z.cell (i:=3) rfl
   |k+4,hk=>cases hk
  go_wp2_with (first|(refine aH rfl 23 (.tmp 24) rfl w.heap.size 0 (ai x.g x.s x.i x.j).toList _ rfl hrg Tryz.underlying23 rfl (by kernel_rfl) ?_))
  have dt:Hd (Mi w1.heap.size q w.heap.size x ⟨iL x.g x.s x.i x.j,0⟩ d P w (w1.alloc (.cells (vL q x.n x.g x.s x.i x.j 0 false) 85))):=by
   have hb:Below w1.heap.size w1 (w1.alloc (.cells (vL q x.n x.g x.s x.i x.j 0 false) 85)):=ag.alloc af _;exact⟨⟨⟨false,At.new _ _ _⟩,HI.Z.below hb⟩,Bo.Z.below hb hp1,(Mm.Z.below jS.Z).below (hb.mono jS.Z.size),jS.Z.trans (hb.mono jS.Z.size)⟩
  obtain⟨M,hM⟩:=aa w1.heap.size;have hqM:q≠M/\w.heap.size≠M/\w.heap.size<M/\w.heap.size<q:=by
   rw[World.size_alloc] at hle;omega
  rw[<-hM] at dt ⊢;clear hM HI jS Bo hq1 hp1 hrg hle;refine ar (Mi M q w.heap.size x ⟨iL x.g x.s x.i x.j,0⟩ d P w) (dt.Z.below ag.drew) ?_;clear dt;intro hne;have uv:∀y:a9 (Mi M q w.heap.size x ⟨iL x.g x.s x.i x.j,0⟩ d P w),y.W.cell? ⟨w.heap.size,4,none⟩=some (.slice d.fa P.nf d.fc):=λy=>y.h.bx.cell (i:=4) rfl
  repeat go_big_quiet_step (fail)
  refine aO rfl 23 (.tmp 31) rfl w.heap.size 0 rfl (ai x.g x.s x.i x.j).toList _ (λW h=>h.lT) Tryz.underlying23 rfl (by kernel_rfl) ?_;refine aj ?_
  go_big_quiet_want
  go_big_quiet_op
  refine⟨_,λs=>aN s (λW hW=>(vG x.g x.s x.i x.j Bk.Z hni W).mono λe w' h=>⟨h.1,hW.below h.2⟩),?_⟩
  go_big_quiet_on
  repeat go_big_quiet_step (fail)
  refine wpQuiet_nil ?_;intro w2 h2';have ST:=ah h2'.Z;clear h2' hne uv;obtain⟨N,hN⟩:=aa (P.n x);have hNn:N<=P.nf/\N+1<=x.g*x.i:=by rw[hN];unfold PlanD.n Im.ni;omega
  have hmin:min (P.nf:Int) ((x.g:Int)*(x.i:Int)-1)=(N:Int):=by rw[hN];unfold PlanD.n Im.ni;rw[<-Int.natCast_mul];omega
  rw[hmin];have HN:=ah hN;have Px:N<=300:=by omega
  obtain⟨Y,hY⟩:=aa w2.heap.size;have V2:=λW=>CW N (by omega) W
  have V1:=λW=>CV N (by omega) W
  have zD:Hd (aE ((w2.alloc (.cells (madeCells aS.nil.val.cells ((N+1)*16)) 63)).alloc (.cells (madeCells #[.slice none 0 0] (N+1)) 88)) Y 63 16 (N+1) (vZ λ_=>aS.nil)):=by
   have h1:=aE.made (m:=16) w2 aS.nil.val.cells rfl (by decide) (N+1) 63;rw[<-hY] at h1;exact(h1.congr λ_ _=>rfl).below (ag.alloc af _)
  have Bp:Hd (aE ((w2.alloc (.cells (madeCells aS.nil.val.cells ((N+1)*16)) 63)).alloc (.cells (madeCells #[.slice none 0 0] (N+1)) 88)) (Y+1) 88 1 (N+1) (λ_=>[.slice none 0 0])):=by
   have h1:=aE.made (m:=1) (w2.alloc (.cells (madeCells aS.nil.val.cells ((N+1)*16)) 63)) #[.slice none 0 0] rfl (by decide) (N+1) 88;rw[World.size_alloc,<-hY,Nat.mul_one] at h1;exact h1
  have hbb:Below w2.heap.size w2 ((w2.alloc (.cells (madeCells aS.nil.val.cells ((N+1)*16)) 63)).alloc (.cells (madeCells #[.slice none 0 0] (N+1)) 88)):=(ag.alloc af _).alloc (by simp) _;have LV:M<Y/\q<Y/\w.heap.size<Y:=by
   rw[hY];exact⟨ST.Z.pm.lM,ST.Z.pm.im.lt,ST.Z.bx.lt⟩
  have bh:Hd (m5 M q Y (N+1) w.heap.size x ⟨iL x.g x.s x.i x.j,0⟩ (λ_=>aS.nil) d P w ((w2.alloc (.cells (madeCells aS.nil.val.cells ((N+1)*16)) 63)).alloc (.cells (madeCells #[.slice none 0 0] (N+1)) 88))):=
   ⟨ST.Z.pm.below hbb,zD.Z,ST.Z.bx.below hbb ST.Z.bx.lt,ST.Z.r.below (hbb.mono ST.Z.bel.size),ST.Z.bel.trans (hbb.mono ST.Z.bel.size),by omega⟩
  have SL1:Hd (Bf ((w2.alloc (.cells (madeCells aS.nil.val.cells ((N+1)*16)) 63)).alloc (.cells (madeCells #[.slice none 0 0] (N+1)) 88)) (Y+2) (Y+1) (N+1) (λ_=>[]) (λ_=>none) (λ_=>0)):=
   ⟨Bp.Z,λt _=>au.nil _ _ _ _ _,λs t _ _ _=> .inl rfl⟩
  have gG:=zD.Z.there (k:=0) (by omega);rw[Nat.zero_mul] at gG;clear hN hmin hbb ST zD Bp;subst hY;go_wp2_with (first|(refine iY rfl 63 (.tmp 44) (.tmp 43) rfl w2.heap.size 0 (⟨2,1,1,0,λ_=>0,0⟩:aS).arr.toList rfl rfl gG (by kernel_rfl) (BO _) ?_))
  intro w3 hw3;obtain⟨Sn,lS⟩:=bh.Z.Ji (i:=0) (by omega) (⟨2,1,1,0,λ_=>0,0⟩:aS) (W':=w3) hw3.Z;have bW:Hd (m5 M q w2.heap.size (N+1) w.heap.size x ⟨iL x.g x.s x.i x.j,0⟩ (P.lg N 0).ino d P w w3):=Sn;obtain⟨cy,Zw,-⟩:=bh.Z.y.blk;have T2:Hd (Bf w3 (w2.heap.size+2) (w2.heap.size+1) (N+1) (P.lg N 0).sl (λ_=>none) (λ_=>0)):=SL1.Z.only lS Zw (by decide) (by omega);have hs2:w2.heap.size+2<=w3.heap.size:=by have:=T2.Z.u.lt;omega
  clear bh SL1 Sn lS Zw gG hw3 V2 V1;obtain⟨Y,hY⟩:=aa w2.heap.size;rw[<-hY] at bW T2 LV hs2 ⊢;clear hY;go_wp2_with fail;go_loopw [9,10,11,12] (λu _ _ _ wr=>∃(k:Nat) (a:Nat->Option Addr) (c:Nat->Nat),k<=N/\u= .int .i64 ((k:Int)+1)/\m5 M q Y (N+1) w.heap.size x ⟨iL x.g x.s x.i x.j,0⟩ (P.lg N k).ino d P w wr/\Bf wr (Y+2) (Y+1) (N+1) (P.lg N k).sl a c) (λu _ _ _ _=>N+1-(intOf u).toNat)
  case atStart=>exact⟨0,_,_,Nat.zero_le _,rfl,bW.Z,T2.Z⟩
  clear bW T2;obtain⟨k,a,c,hk,rfl,st,sl⟩:=hrel;have ST:=ah st;have SL:=ah sl;have c4:wr.cell? ⟨w.heap.size,4,none⟩=some (.slice d.fa P.nf d.fc):=st.bx.cell (i:=4) rfl;clear st sl
  by_cases hlt:k<N
  ·have hlt':(k:Int)+1<=(N:Int):=by omega
   have DM:k<P.nf:=by omega
   have We:(k:Int)<(P.nf:Int):=by omega
   obtain⟨fb,fo,tq,-⟩:=ST.Z.r.f.cell (j:=0) DM rfl;have hrg:wr.rangeAt fb (fo+k*6) (Ki d P k):=λj v hv=>by
    obtain⟨b',o',e,hc⟩:=ST.Z.r.f.cell DM hv;rw[tq] at e;cases e;exact hc
   rw[tq] at c4;clear tq;have hA0:At (wr.alloc (.cells #[.int .u8 0,.int .i64 0,.slice none 0 0,.slice none 0 0,.bool false,.int .i64 0] 78)) wr.heap.size 78 #[.int .u8 0,.int .i64 0,.slice none 0 0,.slice none 0 0,.bool false,.int .i64 0]:=At.new _ _ _;go_wp2_with (first|(refine aH rfl 78 (.tmp 54) rfl fb (fo+k*6) (Ki d P k) _ rfl hrg Tryz.underlying78 rfl (by kernel_rfl) ?_)|(refine aD rfl 78 (.tmp 10) (.tmp 55) rfl wr.heap.size (Ki d P k).toArray _ rfl rfl hA0 (DA k d P) rfl (FM k d P) ?_))
   intro w4 Zz ke;have IM:=ah (zq.start (A:=P.lg N k) ST.Z SL.Z Zz ke);clear ST SL Zz ke hA0 hrg c4;obtain⟨DX,Rp⟩:=aa wr.heap.size;rw[<-Rp] at IM ⊢;clear Rp;have k0:w4.cell? ⟨DX,0,none⟩=some (.int .u8 (P.f k).kind):=IM.Z.fi.cell (i:=0) rfl;have k5:w4.cell? ⟨DX,5,none⟩=some (.int .i64 (P.f k).aQ):=IM.Z.fi.cell (i:=5) rfl;have k1:w4.cell? ⟨DX,1,none⟩=some (.int .i64 (P.f k).size):=IM.Z.fi.cell (i:=1) rfl;have gG:=IM.Z.ic.y.there (k:=k+1) (by omega);have Zp:k<=300:=by omega
   have hw1:IntKind.u32.wrap ((k:Int)+1)=(k:Int)+1:=IntWalk.u32_in _ (by omega);go_wp2_with (first|(refine iY rfl 63 (.tmp 67) (.tmp 66) rfl Y ((k+1)*16) (⟨(P.f k).kind,(P.f k).aQ,(k:Int)+1,(P.f k).size,λ_=>0,0⟩:aS).arr.toList rfl rfl gG (by kernel_rfl) (BO _) ?_))
   intro w5 Y3;have IM2:=ah (IM.Z.Ji (i:=k+1) (by omega) (⟨(P.f k).kind,(P.f k).aQ,(k:Int)+1,(P.f k).size,λ_=>0,0⟩:aS) Y3.Z);clear hw1;clear IM gG Y3 k0 k5 k1;obtain⟨At',RM⟩:∃At':Nat->PlanD.IS,At'=λt=>P.Lp N k t:=⟨_,rfl⟩
   have uW:Hd (At' 0={P.lg N k with ino:=ak (P.lg N k).ino (k+1) ⟨(P.f k).kind,(P.f k).aQ,((k+1:Nat):Int),(P.f k).size,λ_=>0,0⟩}):=by show _=_;rw[RM];rfl
   have HAS:Hd (∀t,At' (t+1)=P.iJ N (k+1) t (At' t)):=λt=>by rw[RM];rfl
   have Uv:Hd (P.lg N (k+1)=At' (P.f k).nn):=by show _=_;rw[RM];rfl
   have hcn:P.cn (k+1)<=1000:=Nat.le_trans (PlanD.Ca P DM) xr.Z.cn;have zC:Hd (∀t r,t<=(P.f k).nn->((At' t).sl r).length<=1000):=λt r ht=>by rw[RM];exact P.FE N k t r hcn ht
   have adi:(P.f k).nn<=1000:=by
    rw[PlanD.cn] at hcn;omega
   clear hcn;have IM3:Hd (zq M q Y (N+1) w.heap.size (Y+1) DX (Y+2) x ⟨iL x.g x.s x.i x.j,0⟩ d P k (At' 0) a c w w5):=by show zq _ _ _ _ _ _ _ _ _ _ _ _ _ _ _ _ _ _;rw[uW.Z];exact IM2.Z
   clear IM2 RM uW;go_wp2_with fail;go_loopw [11,12] (λu _ wr=>∃(t:Nat) (a:Nat->Option Addr) (c:Nat->Nat),t<=(P.f k).nn/\u= .int .i64 (t:Int)/\zq M q Y (N+1) w.heap.size (Y+1) DX (Y+2) x ⟨iL x.g x.s x.i x.j,0⟩ d P k (At' t) a c w wr) (λu _ _=>(P.f k).nn-(intOf u).toNat)
   case atStart=>exact⟨0,_,_,Nat.zero_le _,rfl,IM3.Z⟩
   clear IM3 a c;obtain⟨t,a,c,ht,rfl,im⟩:=hrel;have IM:=ah im;have c3:wr.cell? ⟨DX,3,none⟩=some (.slice (d.na k) (P.f k).nn (d.nc k)):=im.fi.cell (i:=3) rfl;clear im
   by_cases Ih:t<(P.f k).nn
   ·have ND:(t:Int)<((P.f k).nn:Int):=by omega
    obtain⟨nb,no,Pj,cd⟩:=(IM.Z.ic.r.n k DM).cell (j:=0) Ih rfl;have zw:Hd (∀W,m5 M q Y (N+1) w.heap.size x ⟨iL x.g x.s x.i x.j,0⟩ (At' t).ino d P w W->W.cell? ⟨nb,no+t*2+1,none⟩=some (.string ((P.f k).nm t))):=λW h=>by
     obtain⟨b',o',e,hc⟩:=(h.r.n k DM).cell (j:=1) Ih rfl;rw[Pj] at e;cases e;exact hc
    rw[Pj] at c3;have HNA:=ah Pj;rw[Nat.add_zero] at cd;clear Pj;obtain⟨dr,hdr⟩:=aa ((P.f k).dir t);rw[<-hdr] at cd;have OZ:=ah hdr;clear hdr;have zD:Hd (At' (t+1)=if 0<=dr/\dr<=(N:Int) then⟨ak (At' t).ino (k+1) {(At' t).ino (k+1) with aQ:=IntKind.i64.wrap (((At' t).ino (k+1)).aQ+1)},ak (At' t).sl dr.toNat ((At' t).sl dr.toNat++[(k+1+1,(P.f k).nm t)])⟩ else At' t):=by
     show _=_;rw[HAS.Z t,PlanD.iJ,Nat.add_sub_cancel,<-OZ.Z]
    by_cases hin:0<=dr/\dr<=(N:Int)
    rotate_left
    ·have Bp:Hd (At' (t+1)=At' t):=by show _=_;rw[zD.Z,if_neg hin]
     by_cases h0:0<=dr
     ·have hn:¬dr<=(N:Int):=λh=>hin ⟨h0,h⟩
      clear hin;go_wp2_with fail;go_roundw
      case rel=>first|exact⟨t+1,a,c,by omega,by go_num,by rw[Bp.Z];exact IM.Z⟩|((repeat apply Exists.intro);refine⟨?_,rfl⟩;exact⟨t+1,a,c,by omega,by go_num,by rw[Bp.Z];exact IM.Z⟩)
      simp[intOf];omega
     clear hin;go_wp2_with fail;go_roundw
     case rel=>first|exact⟨t+1,a,c,by omega,by go_num,by rw[Bp.Z];exact IM.Z⟩|((repeat apply Exists.intro);refine⟨?_,rfl⟩;exact⟨t+1,a,c,by omega,by go_num,by rw[Bp.Z];exact IM.Z⟩)
     simp[intOf];omega
    obtain⟨dn,rfl⟩:∃dn:Nat,dr=(dn:Int):=⟨dr.toNat,by omega⟩;have mo:dn<N+1:=by omega
    have Gv:(dn:Int)<(N:Int)+1:=by omega
    obtain⟨Wj,Wi⟩:=hin;have Bp:Hd (At' (t+1)=⟨ak (At' t).ino (k+1) {(At' t).ino (k+1) with aQ:=IntKind.i64.wrap (((At' t).ino (k+1)).aQ+1)},ak (At' t).sl dn ((At' t).sl dn++[(k+1+1,(P.f k).nm t)])⟩):=by show _=_;rw[zD.Z,if_pos ⟨Wj,Wi⟩,Int.toNat_natCast]
    have hw2:IntKind.u32.wrap ((k:Int)+1+1)=(k:Int)+1+1:=IntWalk.u32_in _ (by omega);clear zD;go_wp2_with fail;refine vd (zn M q Y (N+1) w.heap.size (Y+1) DX (Y+2) x ⟨iL x.g x.s x.i x.j,0⟩ d P k (At' t) a c dn (k+1+1,(P.f k).nm t) w) ⟨0,undef⟩ 19 (by kernel_rfl) (by kernel_rfl) (by kernel_rfl) (by kernel_rfl) (by kernel_rfl) (by kernel_rfl) (by decide) (zn.start IM.Z mo ag.drew) ?_;clear IM c3 cd;intro hne;have nV:∀y:a9 (λW=>∃s,zn M q Y (N+1) w.heap.size (Y+1) DX (Y+2) x ⟨iL x.g x.s x.i x.j,0⟩ d P k (At' t) a c dn (k+1+1,(P.f k).nm t) w s W),y.W.cell? ⟨Y+1,dn,none⟩=some (.slice (a dn) ((At' t).sl dn).length (c dn)):=λy=>by
     obtain⟨_,h⟩:=y.h;exact h.cell mo
    have hc3:∀y:a9 (λW=>∃s,zn M q Y (N+1) w.heap.size (Y+1) DX (Y+2) x ⟨iL x.g x.s x.i x.j,0⟩ d P k (At' t) a c dn (k+1+1,(P.f k).nm t) w s W),y.W.cell? ⟨DX,3,none⟩=some (.slice (some ⟨nb,no,none⟩) (P.f k).nn (d.nc k)):=λy=>by
     obtain⟨_,h⟩:=y.h;rw[<-HNA.Z];exact h.fi.cell (i:=3) rfl
    have hcs:∀y:a9 (λW=>∃s,zn M q Y (N+1) w.heap.size (Y+1) DX (Y+2) x ⟨iL x.g x.s x.i x.j,0⟩ d P k (At' t) a c dn (k+1+1,(P.f k).nm t) w s W),y.W.cell? ⟨nb,no+t*2+1,none⟩=some (.string ((P.f k).nm t)):=λy=>by
     obtain⟨_,h⟩:=y.h;exact zw.Z _ h.ic
    (refine Mv.aX 16 (by kernel_rfl) ?_;simp only[List.take,List.drop])
    repeat go_big_quiet_step (fail)
    refine wpQuiet_nil ?_;refine Mv.j6 rfl _ _ _ _ rfl λW hW=>⟨_,_,⟨1,.slice (some ⟨W.heap.size,0,none⟩) 1 1⟩,oE ((k:Int)+1+1) ((P.f k).nm t) W,hW.alloc,?_⟩
    generalize W.heap.size=g0 at*;clear hW;refine Mv.frame ?_;obtain⟨i0,hi0,hz0,hz1,hz2⟩:=info_parts j9;refine Mv.j7 rfl _ _ _ rfl λW hW=> ?_
    have hown:=hW.s0 (by show(1:Nat)<2;decide);obtain⟨v',w',hr,ho,hg,hv⟩:=q9 (P:=Tryz.prog) W (Y+2) 88 88 90 i0 (.agg #[.int .u32 0,.string ByteArray.empty]) 2 24 Tryz.underlying88 hi0 hz0 hz1 hz2 rfl (by decide) (.slice (a dn) ((At' t).sl dn).length (c dn)) ((At' t).sl dn).length (Cs (kC ((At' t).sl dn)) ((At' t).sl dn).length) hown ⟨g0,0,none⟩ 1 1 [.int .u32 ((k:Int)+1+1),.string ((P.f k).nm t)] rfl
     (λj u hj=>hW.s1 rfl g0 rfl j u (by show([.int .u32 ((k+1+1:Nat):Int),.string ((P.f k).nm t)]:List Value)[j]? =some u;rw[show((k+1+1:Nat):Int)=(k:Int)+1+1 from rfl];exact hj)) (qf _ _) (by have:=zC.Z t dn ht;unfold maxLen;omega) (by have:=zC.Z t dn ht;omega) (by have:=hW.u.lt;omega) (by decide)
    refine⟨v',w',⟨2,v'⟩,hr,hW.app mo (by omega) hg ho hv,?_⟩;clear hr ho hg hW hown hv;refine Mv.frame ?_
    (refine Mv.aX 1 (by kernel_rfl) ?_;simp only[List.take,List.drop])
    go_big_quiet_step (fail)
    refine wpQuiet_nil ?_;refine Mv.bI ?_;intro w6 h6;clear nV hc3 hcs hne;obtain⟨ca,cc,rfl⟩:∃a c,v'= .slice a (((At' t).sl dn).length+1) c:=au.form (h6.s2 rfl).1;have cd:=h6.cell mo;have fd:=h6.u.soft dn;have XU:=ah (h6.fin mo (by omega));have fl:w6.frozen? ⟨Y,(k+1)*16+1,none⟩=false:=h6.ic.y.soft _;have cl:(w6.setCell ⟨Y+1,dn,none⟩ (.slice ca (((At' t).sl dn).length+1) cc)).cell? ⟨Y,(k+1)*16+1,none⟩=some (.int .i64 ((At' t).ino (k+1)).aQ):=XU.Z.ic.aQ (i:=k+1) (by omega);have IM6:=ah (XU.Z.M5 (i:=k+1) (by omega) (wrap64 (((At' t).ino (k+1)).aQ+1)));clear h6 XU;go_wp2_with fail;have HA3:Hd (At' (t+1)=⟨ak (At' t).ino (k+1) {(At' t).ino (k+1) with aQ:=wrap64 (((At' t).ino (k+1)).aQ+1)},ak (At' t).sl dn ((At' t).sl dn++[(k+1+1,(P.f k).nm t)])⟩):=by
     show _=_;rw[Bp.Z,PlanD.CD]
    go_roundw
    case rel=>first|exact⟨t+1,_,_,by omega,by go_num,by rw[HA3.Z];exact IM6.Z⟩|((repeat apply Exists.intro);refine⟨?_,rfl⟩;exact⟨t+1,_,_,by omega,by go_num,by rw[HA3.Z];exact IM6.Z⟩)
    simp[intOf];omega
   obtain rfl:t=(P.f k).nn:=by omega
   go_wp2_with fail;go_roundw
   case rel=>first|exact⟨k+1,a,c,by omega,by first|rfl|go_num,by rw[Uv.Z];exact IM.Z.ic,by rw[Uv.Z];exact IM.Z.su⟩|((repeat apply Exists.intro);refine⟨?_,rfl⟩;exact⟨k+1,a,c,by omega,by first|rfl|go_num,by rw[Uv.Z];exact IM.Z.ic,by rw[Uv.Z];exact IM.Z.su⟩)
   simp[intOf];omega
  obtain rfl:k=N:=by omega
  have zI:=ST.Z.bx;obtain⟨F,hF⟩:=aa (P.fill x ⟨(P.lg k k).ino,(P.lg k k).sl⟩ ⟨iL x.g x.s x.i x.j,0⟩ (k+1));have HE:Hd (P.QI x=P.pQ x F.m.L F.ino k):=by show _=_;rw[hF,HN.Z];exact P.JK x
  have Hm:Hd (∀j,MY M q Y j->w.heap.size<=j):=λj hj=>by rcases hj with rfl|rfl|rfl<;>omega
  have SZ:Hd (g9 M q Y (k+1) x ⟨iL x.g x.s x.i x.j,0⟩ (P.lg k k).ino wr wr):=⟨ST.Z.pm,ST.Z.y,.refl _ _⟩;have OR:Hd (∀j,MY M q Y j->j<wr.heap.size):=λj hj=>by
   obtain⟨l1,l2,l3,l4⟩:=ST.Z.YP;rcases hj with rfl|rfl|rfl<;>assumption
  have hcall:=Av w.heap.size M q Y (k+1) (Y+1) x HX.Z ⟨iL x.g x.s x.i x.j,0⟩ (P.lg k k).ino (JJ HX.Z P xu.Z k (k+1) (by omega)) (by omega) x.g x.s x.i x.j d P xu.Z xr.Z (by omega) a c (P.lg k k).sl
   (λt _=>⟨Nat.le_trans (v7 P xr.Z k (by omega) t).1 (by decide),(v7 P xr.Z k (by omega) t).2⟩) wr SZ.Z ST.Z.r ST.Z.bel.size (λj hj h=>by have:=Hm.Z j h;omega) (ST.Z.slt SL.Z (by omega)) OR.Z
  rw[<-hF] at hcall;have HFY:Hd (∀t,(F.ino t).Ok):=λt=>by
   rw[hF];exact PlanD.B2 P gi (λt=>(P.Az xu.Z k k (by omega) t).1) (λt=>Nat.le_trans (v7 P xr.Z k (by omega) t).1 (by decide)) (k+1) t
  have HC:=ah hcall;have kJ:=ah hNn;clear hF hcall SL c4;go_wp2_with (first|(refine aB rfl 27 (.tmp 1) rfl _ _ _ rfl zI Tryz.underlying27 rfl (lP _ _ _ _ _ _) ?_))
  refine HC.Z.mono ?_;rintro e w6 ⟨rfl,Nz,Zr⟩;have Rw:At w6 w.heap.size 27 (dK x.g x.s x.i x.j d P):=zI.pw Nz.gr (λh=>by rcases h with h|h|h<;>omega);have HS6:Hd (g9 M q Y (k+1) x F.m F.ino w6 w6):=⟨Nz.p,Nz.y,.refl _ _⟩;have Mt:Hd (Below w.heap.size w w6):=ST.Z.bel.trans (Nz.gr.below ST.Z.bel.size Hm.Z);have HR6:Hd (iX w.heap.size d P w6):=ST.Z.r.pw Nz.gr ST.Z.bel.size (λj hj h=>by have:=Hm.Z j h;omega);have HI6:=ah Zr;have Ye:Hd (∀j,MY M q Y j->j<w6.heap.size):=λj hj=>Nat.lt_of_lt_of_le (OR.Z j hj) Nz.gr.size
  clear Nz Zr zI HC ST SZ OR;go_wp2_with (first|(refine aB rfl 27 (.tmp 1) rfl _ _ _ rfl Rw Tryz.underlying27 rfl (lP _ _ _ _ _ _) ?_))
  refine(Dn w.heap.size M q Y (k+1) x HX.Z F.m F.ino HI6.Z.jx.1 (λt _=>HFY.Z t) (by omega) (by exact kJ.Z.2) d P xu.Z xr.Z (by have:=kJ.Z.1;omega) w6 HS6.Z HR6.Z Mt.Z.size (λj hj h=>by have:=Hm.Z j h;omega) Ye.Z).mono ?_;rintro e w7 ⟨rfl,hby,Vx⟩;have OX:Hd (wZ x.g x.s x.i x.j P w (.returned (.slice (some ⟨q,0,none⟩) x.n x.n)) w7):=by
   refine⟨Mt.Z.trans (Vx.gr.below Mt.Z.size Hm.Z),.inr ⟨x,q,HX.Z,HXM.Z,rfl,rfl,rfl,rfl,rfl,by omega,?_,?_⟩⟩
   ·rw[HE.Z];exact Vx.p.im
   rw[HE.Z];exact hby
  clear hby Vx Rw;go_wp2_with fail;go_ret;exact OX.Z
end Go.Proofs.YtphamecphmbipaaGreatDoor
