/- Texts of this claim, merged. -/
import Derived.Test.YtphamecphmbipaaGreatDoorK31
set_option linter.unusedVariables false
namespace Go.Proofs.YtphamecphmbipaaGreatDoor
open Go.RowKit
open Lib (hid)
variable {M q p base sb g Y N fb B k i:Nat} {x:Im} {m:MS} {d:dy} {P:PlanD} {w W':World} {a:Nat->Option Addr} {cs:Array Value} {ys:Nat->aK}
def wH(G S I J:Int)(P:PlanD)(w:World)(e:Ending)(w':World):Prop:=
 Below w.heap.size w w'/\((aM G S I J=false/\e= .returned (.slice none 0 0))\/
  (∃(x:Im) (q:Nat),x.Ok/\x=MF x.g x.s x.i x.j/\G=x.g/\S=x.s/\I=x.i/\J=x.j/\e= .returned (.slice (some ⟨q,0,none⟩) x.n x.n)/\w.heap.size<=q/\
   az w' q 32 256 x.n (dW (P.Qg x))/\∀b,bm (P.Qg x b)))
theorem UG{G S I J:Int}(hm:aM G S I J=true):∃x:Im,x.Ok/\x=MF x.g x.s x.i x.j/\G=x.g/\S=x.s/\I=x.i/\J=x.j:=by
 obtain⟨h1,h2,h3,h4,h5,h6,h7,h8,h9,h10,h11⟩:=(aX G S I J).1 hm;obtain⟨g,rfl⟩:∃g:Nat,G=g:=⟨G.toNat,by omega⟩;obtain⟨s,rfl⟩:∃s:Nat,S=s:=⟨S.toNat,by omega⟩;obtain⟨i,rfl⟩:∃i:Nat,I=i:=⟨I.toNat,by omega⟩;obtain⟨j,rfl⟩:∃j:Nat,J=j:=⟨J.toNat,by omega⟩;exact⟨MF g s i j,⟨λb=>Bv g s i j b,hm,rfl,(by decide:(0:Nat)<4294967296)⟩,rfl,rfl,rfl,rfl,rfl⟩
structure LN(M q p:Nat)(x:Im)(m:MS)(d:dy)(P:PlanD)(w W:World):Prop where
 pm:jh M q x m W
 bx:At W p 27 (dx x.g x.s x.i x.j d P)
 r:iJ w.heap.size d P W
 bel:Below w.heap.size w W
theorem LN.below{W:World}(h:LN M q p x m d P w W)(hb:Below W.heap.size W W'):LN M q p x m d P w W':=
 ⟨h.pm.below hb,h.bx.below hb h.bx.lt,h.r.below (hb.mono h.bel.size),h.bel.trans (hb.mono h.bel.size)⟩
theorem LN.lH{W:World}(h:LN M q p x m d P w W):W.rangeAt p 0 (aa x.g x.s x.i x.j).toList:=λk v hk=>by
 match k,hk with
 |0,hk=>injection hk with hk;subst hk;exact h.bx.cell (i:=0) rfl
 |1,hk=>injection hk with hk;subst hk;exact h.bx.cell (i:=1) rfl
 |2,hk=>injection hk with hk;subst hk;exact h.bx.cell (i:=2) rfl
 |3,hk=>injection hk with hk;subst hk;exact h.bx.cell (i:=3) rfl
 |k+4,hk=>cases hk
theorem AX.grown{W:World}{n:Nat}{sl:Nat->List sn}{c:Nat->Nat}(h:AX W base sb n sl a c){row:Option Nat}(hg:W.grownBy W' row)(hs:row≠some sb)(hr:∀t,t<n->vD (a t)=none\/vD (a t)≠row):AX W' base sb n sl a c:=
 ⟨h.u.grown hg (λe=>hs e.symm),λt ht=>(h.r t ht).kept hg (by rw[my];exact hr t ht),h.ne⟩
theorem AX.only{W:World}{n:Nat}{sl:Nat->List sn}{c:Nat->Nat}(h:AX W base sb n sl a c)(ho:an g W W'){T:TypeId}(hA:At W g T cs)(hT:90≠T)(hs:g≠sb):AX W' base sb n sl a c:=
 h.grown (fp ho) (λe=>by injection e with e;exact hs e) λt ht=> .inr (by rw[<-my (a t) (sl t).length (c t)];exact dw hA (h.r t ht) hT)
theorem FN:(Tryz.prog.info? 88).map (λi=>(i.zero,i.size,i.bytes))=some (some (.slice none 0 0),1,24):=by kernel_rfl
theorem CH(n:Nat)(hn:n<=2048)(W:World):(Instr.makeSlice 87 (.int .i64 ((n:Int)+1)) (.int .i64 ((n:Int)+1))).run Tryz.prog W= .ok (.slice (some ⟨W.heap.size,0,none⟩) (n+1) (n+1)) (W.alloc (.cells (madeCells #[.slice none 0 0] (n+1)) 88)):=by
 have h:=dg (P:=Tryz.prog) 87 88 (.slice none 0 0) 1 24 Tryz.underlying87 FN .i64 .i64 (n+1) (by omega) (by omega) W;rw[Nat.mul_one] at h;exact h
theorem CI(n:Nat)(hn:n<=2048)(W:World):(Instr.makeSlice 86 (.int .i64 ((n:Int)+1)) (.int .i64 ((n:Int)+1))).run Tryz.prog W= .ok (.slice (some ⟨W.heap.size,0,none⟩) (n+1) (n+1)) (W.alloc (.cells (madeCells aK.nil.val.cells ((n+1)*16)) 63)):=
 dg (P:=Tryz.prog) 86 63 aK.nil.val 16 80 Tryz.underlying86 mC .i64 .i64 (n+1) (by omega) (by omega) W
theorem BA(y:aK):∀v∈y.arr.toList,v.oneCell'=true:=by
 intro v hv;have:y.arr.toList.all (·.oneCell')=true:=by kernel_rfl
 exact(List.all_eq_true.1 this) v hv
theorem Dl(i:Nat)(d:dy)(P:PlanD):(Tryz.prog.info? 78).map (·.size)=some (JS d P i).toArray.size:=by kernel_rfl
theorem Fp(i:Nat)(d:dy)(P:PlanD):(JS d P i).toArray.all (·.oneCell')=true:=by kernel_rfl
structure y8(M q Y N p sb fb B:Nat)(x:Im)(m:MS)(d:dy)(P:PlanD)(k:Nat)(A:PlanD.IS)(a:Nat->Option Addr)(c:Nat->Nat)(w W:World):Prop where
 ic:mQ M q Y N p x m A.ino d P w W
 fi:At W fb 78 (JS d P k).toArray
 su:AX W B sb N A.sl a c
theorem y8.below{A:PlanD.IS}{c:Nat->Nat}{W:World}(h:y8 M q Y N p sb fb B x m d P k A a c w W)(hb:Below W.heap.size W W'):y8 M q Y N p sb fb B x m d P k A a c w W':=
 ⟨h.ic.below hb,h.fi.below hb h.fi.lt,h.su.below hb⟩
theorem mQ.Yj{W:World}(h:mQ M q Y N p x m ys d P w W):M<W.heap.size/\q<W.heap.size/\Y<W.heap.size/\p<W.heap.size:=⟨h.pm.lM,h.pm.im.lt,h.y.lt,h.bx.lt⟩
theorem y8.start{A:PlanD.IS}{c:Nat->Nat}{W:World}(h:mQ M q Y N p x m A.ino d P w W)(hs:AX W B sb N A.sl a c)(ha:At W' W.heap.size 78 (JS d P k).toArray)(ho:an W.heap.size (W.alloc (.cells cs 78)) W'):
  y8 M q Y N p sb W.heap.size B x m d P k A a c w W':=by
 have hb:Below W.heap.size W (W.alloc (.cells cs 78)):=(Below.refl _ _).alloc (Nat.le_refl _) _;obtain⟨l1,l2,l3,l4⟩:=h.Yj;have l5:=hs.u.lt;have l6:=h.bel.size;refine⟨(h.below hb).only ho (by omega),ha,(hs.below hb).only ho (At.new W 78 cs) (by decide) (by omega)⟩
theorem y8.IN{A:PlanD.IS}{c:Nat->Nat}{W:World}(h:y8 M q Y N p sb fb B x m d P k A a c w W)(hi:i<N)(y:aK)(hW:W'=W.setCells Y (i*16) y.arr.toList):y8 M q Y N p sb fb B x m d P k {A with ino:=af A.ino i y} a c w W':=by
 obtain⟨h1,h2⟩:=h.ic.IN hi y hW;obtain⟨cs,hc,_⟩:=h.ic.y.blk;obtain⟨cu,hu,_⟩:=h.su.u.blk;exact⟨h1,h.fi.only h2 (At.cR h.fi hc (by decide)),h.su.only h2 hc (by decide) (At.cR hc hu (by decide))⟩
theorem y8.My{A:PlanD.IS}{c:Nat->Nat}{W:World}(h:y8 M q Y N p sb fb B x m d P k A a c w W)(hi:i<N)(v:Int):y8 M q Y N p sb fb B x m d P k {A with ino:=af A.ino i {A.ino i with aJ:=v}} a c w (W.setCell ⟨Y,i*16+1,none⟩ (.int .i64 v)):=by
 obtain⟨h1,h2⟩:=h.ic.My hi v;obtain⟨cs,hc,_⟩:=h.ic.y.blk;obtain⟨cu,hu,_⟩:=h.su.u.blk;exact⟨h1,h.fi.only h2 (At.cR h.fi hc (by decide)),h.su.only h2 hc (by decide) (At.cR hc hu (by decide))⟩
theorem EI(l:List sn)(e:sn)(t:Nat)(ht:t<l.length):kj l t=kj (l++[e]) t:=by
 unfold kj;have h:(l++[e]).getD t default=l.getD t default:=by simp[List.getD_eq_getElem?_getD,List.getElem?_append_left ht]
 rw[h]
theorem EJ(l:List sn)(e:sn):kj (l++[e]) l.length=[.int .u32 (e.1:Nat),.string e.2]:=by
 unfold kj;have h:(l++[e]).getD l.length default=e:=by simp[List.getD_eq_getElem?_getD]
 rw[h]
structure yZ(M q Y N p sb fb B:Nat)(x:Im)(m:MS)(d:dy)(P:PlanD)(k:Nat)(A:PlanD.IS)(a:Nat->Option Addr)(c:Nat->Nat)(dn:Nat)(e:sn)(w:World)(st:Mv.St)(W:World):Prop where
 ic:mQ M q Y N p x m A.ino d P w W
 fi:At W fb 78 (JS d P k).toArray
 u:az W sb 88 1 N (λt=>[.slice (a t) (A.sl t).length (c t)])
 r:∀t,t<N->t≠dn->ah W B 90 2 (.slice (a t) (A.sl t).length (c t)) (A.sl t).length (kj (A.sl t))
 ne:∀s t,s<N->t<N->s≠t->vD (a s)=none\/vD (a s)≠vD (a t)
 s0:st.n<2->ah W B 90 2 (.slice (a dn) (A.sl dn).length (c dn)) (A.sl dn).length (kj (A.sl dn))
 s1:st.n=1->∀g,st.v= .slice (some ⟨g,0,none⟩) 1 1->∀j u,([.int .u32 (e.1:Nat),.string e.2]:List Value)[j]? =some u->W.cell? ((⟨g,0,none⟩:Addr).add j)=some u
 s2:st.n=2->ah W B 90 2 st.v ((A.sl dn).length+1) (kj (A.sl dn++[e]))/\∀t,t<N->t≠dn->vD (a t)=none\/vD (a t)≠st.v.ownBlock
section
variable {M q Y N p sb fb B k dn:Nat} {x:Im} {m:MS} {d:dy} {P:PlanD} {A:PlanD.IS} {a:Nat->Option Addr} {c:Nat->Nat} {e:sn} {w W W':World}
theorem yZ.start(h:y8 M q Y N p sb fb B x m d P k A a c w W)(hd:dn<N)(hb:Below W.heap.size W W'):yZ M q Y N p sb fb B x m d P k A a c dn e w ⟨0,undef⟩ W':=by
 have h':=h.below hb;exact⟨h'.ic,h'.fi,h'.su.u,λt ht _=>h'.su.r t ht,h'.su.ne,λ_=>h'.su.r dn hd,(λe=>by cases e),λe=>by cases e⟩
theorem yZ.alloc(h:yZ M q Y N p sb fb B x m d P k A a c dn e w ⟨0,undef⟩ W):yZ M q Y N p sb fb B x m d P k A a c dn e w ⟨1,.slice (some ⟨W.heap.size,0,none⟩) 1 1⟩ (W.alloc (.cells #[.int .u32 (e.1:Nat),.string e.2] 90)):=by
 have hb:Below W.heap.size W (W.alloc (.cells #[.int .u32 (e.1:Nat),.string e.2] 90)):=(Below.refl _ _).alloc (Nat.le_refl _) _;refine⟨h.ic.below hb,h.fi.below hb h.fi.lt,h.u.below hb,λt ht hn=>(h.r t ht hn).below hb,h.ne,λ_=>(h.s0 (by decide)).below hb,?_,λe=>by cases e⟩;rintro _ g hg;injection hg with h1 h2 h3;injection h1 with h1;injection h1 with h1;subst h1
 exact ez W [.int .u32 (e.1:Nat),.string e.2] _
theorem yZ.cell{st:Mv.St}(h:yZ M q Y N p sb fb B x m d P k A a c dn e w st W)(hd:dn<N):W.cell? ⟨sb,dn,none⟩=some (.slice (a dn) (A.sl dn).length (c dn)):=by
 have:=h.u.bI dn hd 0 _ rfl;rwa[Nat.zero_add,Nat.mul_one,Nat.add_zero] at this
theorem yZ.app(h:yZ M q Y N p sb fb B x m d P k A a c dn e w ⟨1,.slice (some ⟨g,0,none⟩) 1 1⟩ W)(hd:dn<N)(hB:w.heap.size<=B/\M<B/\q<B/\Y<B/\p<B/\sb<B){v':Value}(hg:W.grownBy W' (Value.slice (a dn) (A.sl dn).length (c dn)).ownBlock)
  (ho:W'.ownsRow B 90 2 v' ((A.sl dn).length+1) (Cs (kj (A.sl dn)) (A.sl dn).length++[.int .u32 (e.1:Nat),.string e.2])) (hv:v'.ownBlock=(Value.slice (a dn) (A.sl dn).length (c dn)).ownBlock\/v'.ownBlock=some W.heap.size):yZ M q Y N p sb fb B x m d P k A a c dn e w ⟨2,v'⟩ W':=by
 have hown:=h.s0 (by show(1:Nat)<2;decide);have lG:∀r,(Value.slice (a dn) (A.sl dn).length (c dn)).ownBlock=some r->B<=r:=λr hr=>(World.ownsRow.lt hown r hr).1
 obtain⟨cu,hu,_⟩:=h.u.blk;have hne:∀t,t<N->t≠dn->vD (a t)=none\/vD (a t)≠(Value.slice (a dn) (A.sl dn).length (c dn)).ownBlock:=λt ht hn=>by rw[my];exact h.ne t dn ht hd hn
 refine⟨h.ic.grown hg (λr e=>by have:=lG r e;omega),dq h.fi hg (dw h.fi hown (by decide)),h.u.grown hg (λe=>dw hu hown (by decide) e.symm),λt ht hn=>(h.r t ht hn).kept hg (by rw[my];exact hne t ht hn),h.ne,(λe:(2:Nat)<2=>absurd e (by decide)),(λe=>by cases e),λ_=>⟨?_,λt ht hn=> ?_⟩⟩
 ·refine ah.append (k:=1) (f:=kj (A.sl dn++[e])) (news:=[.int .u32 (e.1:Nat),.string e.2]) ?_ ?_
  ·rw[show Cs (kj (A.sl dn++[e])) (A.sl dn).length=Cs (kj (A.sl dn)) (A.sl dn).length from gC λt ht=>(EI _ _ t ht).symm]
   exact ho
  show _=([]:List Value)++kj (A.sl dn++[e]) ((A.sl dn).length+0);rw[Nat.add_zero,EJ];rfl
 rcases hv with hv|hv
 ·show vD (a t)=none\/vD (a t)≠v'.ownBlock
  rw[hv];exact hne t ht hn
 show vD (a t)=none\/vD (a t)≠v'.ownBlock;rw[hv];right
 intro e;have:=(World.ownsRow.lt (h.r t ht hn) W.heap.size (by rw[my];exact e)).2;omega
theorem yZ.fin{ca:Option Addr}{cc:Nat}(h:yZ M q Y N p sb fb B x m d P k A a c dn e w ⟨2,.slice ca ((A.sl dn).length+1) cc⟩ W)(hd:dn<N)(M6:w.heap.size<=sb):
  y8 M q Y N p sb fb B x m d P k {A with sl:=af A.sl dn (A.sl dn++[e])} (af a dn ca) (af c dn cc) w (W.setCell ⟨sb,dn,none⟩ (.slice ca ((A.sl dn).length+1) cc)):=by
 have ho:an sb W (W.setCell ⟨sb,dn,none⟩ (.slice ca ((A.sl dn).length+1) cc)):=an.setCell W ⟨sb,dn,none⟩ _;obtain⟨cu,hu,_⟩:=h.u.blk;obtain⟨f,hf⟩:=h.ic.pm.k;obtain⟨c1,h1,_⟩:=h.ic.pm.im.blk;obtain⟨c2,h2,_⟩:=h.ic.y.blk;obtain⟨hm,hne⟩:=h.s2 rfl;refine⟨h.ic.only ho ⟨M6,(At.cR hf hu (by decide)).symm,(At.cR h1 hu (by decide)).symm,(At.cR h2 hu (by decide)).symm,(At.cR h.ic.bx hu (by decide)).symm⟩,h.fi.only ho (At.cR h.fi hu (by decide)),?_,λt ht=> ?_,λs t hs ht hst=> ?_⟩
 ·have:=h.u.dz (k:=dn) (j:=0) hd (by decide) (λ_=>rfl) (.slice ca ((A.sl dn).length+1) cc)
  rw[Nat.mul_one,Nat.add_zero] at this;refine this.congr λt ht=> ?_
  unfold af;dsimp only
  by_cases e':t=dn
  ·subst e';rw[if_pos rfl,if_pos rfl,if_pos rfl,if_pos rfl,List.length_append];rfl
  rw[if_neg e',if_neg e',if_neg e',if_neg e']
 ·dsimp only
  unfold af
  by_cases e':t=dn
  ·subst e'
   rw[if_pos rfl,if_pos rfl,if_pos rfl,List.length_append];exact eT hm ho (dw hu hm (by decide))
  rw[if_neg e',if_neg e',if_neg e'];exact eT (h.r t ht e') ho (dw hu (h.r t ht e') (by decide))
 unfold af
 by_cases es:s=dn
 ·subst es
  rw[if_pos rfl,if_neg (λe=>hst e.symm)];rcases hne t ht (λe=>hst e.symm) with h1|h1
  ·cases JD:vD ca with
   |none=>exact .inl rfl
   |some r=>right;rw[h1];exactλe=>by cases e
  right
  intro e;refine h1 ?_;show vD (a t)=(Value.slice ca ((A.sl s).length+1) cc).ownBlock;rw[my,e]
 rw[if_neg es]
 by_cases et:t=dn
 ·subst et
  rw[if_pos rfl];have:=hne s hs es;rw[show(⟨2,.slice ca ((A.sl t).length+1) cc⟩:Mv.St).v.ownBlock=(Value.slice ca ((A.sl t).length+1) cc).ownBlock from rfl,my] at this;exact this
 rw[if_neg et];exact h.ne s t hs ht hst
end
theorem EK(l:List sn)(k:Nat):(kj l k).length=2:=rfl
theorem mQ.slt{sl:Nat->List sn}{c:Nat->Nat}{W:World}(h:mQ M q Y N p x m ys d P w W)(hs:AX W B sb N sl a c)(hB:M<B/\q<B/\Y<B):DU M q Y N sb a c sl W:=by
 obtain⟨cu,hu,_⟩:=hs.u.blk;obtain⟨f,hf⟩:=h.pm.k;obtain⟨c1,h1,_⟩:=h.pm.im.blk;obtain⟨c2,h2,_⟩:=h.y.blk;refine⟨λk hk=> ?_,λk hk=>(hs.r k hk).row (EK _),⟨hs.u.lt,?_⟩,λk b off hk e=> ?_⟩
 ·have:=hs.u.bI k hk 0 _ rfl
  rwa[Nat.zero_add,Nat.mul_one,Nat.add_zero] at this
 ·rintro(e|e|e)
  ·exact At.cR hf hu (by decide) e.symm
  ·exact At.cR h1 hu (by decide) e.symm
  exact At.cR h2 hu (by decide) e.symm
 have:=World.ownsRow.lt (hs.r k hk) b (by rw[e];rfl);refine⟨this.2,?_⟩;rintro(e|e|e)<;>omega
theorem Ji(hx:x.Ok)(P:PlanD)(hB:P.Bd)(N n:Nat)(hN:N<=4096):iB x ⟨iw x.g x.s x.i x.j,0⟩ (P.kR N N).ino n:=
 ⟨λ_=>0,MS.wf0 hx,λk hk q hq=>by
  rw[(P.Ah hB N N hN k).2 q];exact⟨by decide,.inl rfl⟩⟩
theorem vN(P:PlanD)(hS:P.Small)(N:Nat)(hN:N<=P.nf)(k:Nat):((P.kR N N).sl k).length<=1000/\∀t,t<((P.kR N N).sl k).length->(((P.kR N N).sl k).getD t default).1<4294967296:=by
 obtain⟨h1,h2⟩:=P.vK N N k;have hcn:P.cn N<=P.cn P.nf:=by
  by_cases e:N=0
  ·subst e;exact Nat.zero_le _
  have:=PlanD.BU P (k:=N-1) (n:=P.nf) (by omega);rwa[show N-1+1=N by omega] at this
 have:=hS.cn;have:=hS.nf;refine⟨by omega,λt ht=> ?_⟩;have hm:((P.kR N N).sl k).getD t default∈(P.kR N N).sl k:=by
  rw[List.getD_eq_getElem?_getD,List.getElem?_eq_getElem ht];exact List.getElem_mem ht
 have:=h2 _ hm;omega
theorem lE(G S I J:Int)(d:dy)(P:PlanD):(Tryz.prog.info? 27).map (·.size)=some (dx G S I J d P).size:=by kernel_rfl
set_option maxRecDepth 100000 in
set_option maxHeartbeats 16000000 in
theorem yk(G S I J:Int)(d:dy)(P:PlanD)(hB:P.Bd)(hS:P.Small)(w:World)(hP:iJ w.heap.size d P w):
  Calls Tryz.prog 9 #[tK G S I J d P] w λe w'=>wH G S I J P w e w':=by
 have zn:=At.new w 27 (dx G S I J d P);have hb0:Below w.heap.size w (w.alloc (.cells (dx G S I J d P) 27)):=(Below.refl _ _).alloc (Nat.le_refl _) _;have hrg:(w.alloc (.cells (dx G S I J d P) 27)).rangeAt w.heap.size 0 (aa G S I J).toList:=λk v hk=>by
  match k,hk with
  |0,hk=>injection hk with hk;subst hk;exact zn.cell (i:=0) rfl
  |1,hk=>injection hk with hk;subst hk;exact zn.cell (i:=1) rfl
  |2,hk=>injection hk with hk;subst hk;exact zn.cell (i:=2) rfl
  |3,hk=>injection hk with hk;subst hk;exact zn.cell (i:=3) rfl
  |k+4,hk=>cases hk
 have pn:=hid hb0;have XR:=hid zn;have wX:=hid hB;have wW:=hid hS;have LS:=hid hP;clear hb0 zn hB hS hP;cases hm:aM G S I J with
 |false=>
  have HM:=hid hm;clear hm;go_enter Tryz.func9,Tryz.ntmps9;go_wp2_with (first|(refine aB rfl 23 (.tmp 14) rfl w.heap.size 0 (aa G S I J).toList _ rfl hrg Tryz.underlying23 rfl (by kernel_rfl) ?_))
  refine(E3 G S I J HM.out _).mono ?_;rintro e w1 ⟨rfl,hb1⟩;have jE:Hid (Below w.heap.size w w1):=pn.out.trans (hb1.mono pn.out.size);clear hb1 hrg;go_wp2_with fail;go_ret;exact⟨jE.out,.inl ⟨HM.out,rfl⟩⟩
 |true=>
  obtain⟨x,hx,Yr,rfl,rfl,rfl,rfl⟩:=UG hm;have HX:=hid hx;have HXM:=hid Yr;have eE:=hx.may;have A5:=hid eE;have fY:=hx.iu;have tW:2<=x.n:=by have:=hx.n;omega
  have q0:((x.n:Int)==0)=false:=by simp;omega
  have hni:x.g*x.i<=256:=eK eE;have acO:4<=x.g*x.i:=by have:=dL eE;exact Nat.mul_le_mul this.1 this.2.2.2.2.1
  have Jo:P.nf<=300:=wW.out.nf;clear hm hx Yr eE;go_enter Tryz.func9,Tryz.ntmps9;go_wp2_with (first|(refine aB rfl 23 (.tmp 14) rfl w.heap.size 0 (aa x.g x.s x.i x.j).toList _ rfl hrg Tryz.underlying23 rfl (by kernel_rfl) ?_))
  refine(CP x.g x.s x.i x.j A5.out _).mono ?_;rintro e w1 ⟨q,rfl,hI⟩;rw[<-HX.out.n];have HI:Hid (az w1 q 32 256 x.n (dW (iw x.g x.s x.i x.j))):=by show az _ _ _ _ _ _;rw[HX.out.n];exact hI.a
  have hle:=hI.le;have jE:Hid (Below w.heap.size w w1):=pn.out.trans (hI.bel.mono pn.out.size);have A9:Hid (At w1 w.heap.size 27 (dx x.g x.s x.i x.j d P)):=XR.out.below hI.bel XR.out.lt;have hq1:=hI.a.lt;have hp1:=A9.out.lt;clear pn XR hI hrg;have hrg:w1.rangeAt w.heap.size 0 (aa x.g x.s x.i x.j).toList:=λk v hk=>by
   match k,hk with
   |0,hk=>injection hk with hk;subst hk;exact A9.out.cell (i:=0) rfl
   |1,hk=>injection hk with hk;subst hk;exact A9.out.cell (i:=1) rfl
   |2,hk=>injection hk with hk;subst hk;exact A9.out.cell (i:=2) rfl
   |3,hk=>injection hk with hk;subst hk;exact A9.out.cell (i:=3) rfl
   |k+4,hk=>cases hk
  go_wp2_with (first|(refine aB rfl 23 (.tmp 24) rfl w.heap.size 0 (aa x.g x.s x.i x.j).toList _ rfl hrg Tryz.underlying23 rfl (by kernel_rfl) ?_))
  have cX:Hid (LN w1.heap.size q w.heap.size x ⟨iw x.g x.s x.i x.j,0⟩ d P w (w1.alloc (.cells (vy q x.n x.g x.s x.i x.j 0 false) 85))):=by
   have hb:Below w1.heap.size w1 (w1.alloc (.cells (vy q x.n x.g x.s x.i x.j 0 false) 85)):=(Below.refl _ _).alloc (Nat.le_refl _) _;exact⟨⟨⟨false,At.new _ _ _⟩,HI.out.below hb⟩,A9.out.below hb hp1,(LS.out.below jE.out).below (hb.mono jE.out.size),jE.out.trans (hb.mono jE.out.size)⟩
  obtain⟨M,hM⟩:∃M,M=w1.heap.size:=⟨_,rfl⟩;have hqM:q≠M/\w.heap.size≠M/\w.heap.size<M/\w.heap.size<q:=by
   rw[World.size_alloc] at hle;omega
  rw[<-hM] at cX ⊢;clear hM HI jE A9 hq1 hp1 hrg hle;refine ai (LN M q w.heap.size x ⟨iw x.g x.s x.i x.j,0⟩ d P w) (by kernel_rfl) (by kernel_rfl) (cX.out.below (Below.refl _ _).drew) ?_;clear cX;intro hne;have tY:∀y:aT (LN M q w.heap.size x ⟨iw x.g x.s x.i x.j,0⟩ d P w),y.W.cell? ⟨w.heap.size,4,none⟩=some (.slice d.fa P.nf d.fc):=λy=>y.h.bx.cell (i:=4) rfl
  repeat go_big_quiet_step (fail)
  refine aH rfl 23 (.tmp 31) rfl w.heap.size 0 rfl (aa x.g x.s x.i x.j).toList _ (λW h=>h.lH) Tryz.underlying23 rfl (by kernel_rfl) ?_;refine ae ?_
  go_big_quiet_want
  go_big_quiet_op
  refine⟨_,λs=>aG s (λW hW=>(vr x.g x.s x.i x.j A5.out hni W).mono λe w' h=>⟨h.1,hW.below h.2⟩),?_⟩
  go_big_quiet_on
  repeat go_big_quiet_step (fail)
  refine wpQuiet_nil ?_;intro w2 h2';have ST:=hid h2'.out;clear h2' hne tY;obtain⟨N,hN⟩:∃N,N=P.n x:=⟨_,rfl⟩;have hNn:N<=P.nf/\N+1<=x.g*x.i:=by rw[hN];unfold PlanD.n Im.ni;omega
  have hmin:min (P.nf:Int) ((x.g:Int)*(x.i:Int)-1)=(N:Int):=by rw[hN];unfold PlanD.n Im.ni;rw[<-Int.natCast_mul];omega
  rw[hmin];have HN:=hid hN;have O1:N<=300:=by omega
  obtain⟨Y,hY⟩:∃Y,Y=w2.heap.size:=⟨_,rfl⟩;have Vq:=λW=>CI N (by omega) W
  have Vo:=λW=>CH N (by omega) W
  have zi:Hid (az ((w2.alloc (.cells (madeCells aK.nil.val.cells ((N+1)*16)) 63)).alloc (.cells (madeCells #[.slice none 0 0] (N+1)) 88)) Y 63 16 (N+1) (vM λ_=>aK.nil)):=by
   have h1:=az.made (m:=16) w2 aK.nil.val.cells rfl (by decide) (N+1) 63;rw[<-hY] at h1;exact(h1.congr λ_ _=>rfl).below ((Below.refl _ _).alloc (Nat.le_refl _) _)
  have Ba:Hid (az ((w2.alloc (.cells (madeCells aK.nil.val.cells ((N+1)*16)) 63)).alloc (.cells (madeCells #[.slice none 0 0] (N+1)) 88)) (Y+1) 88 1 (N+1) (λ_=>[.slice none 0 0])):=by
   have h1:=az.made (m:=1) (w2.alloc (.cells (madeCells aK.nil.val.cells ((N+1)*16)) 63)) #[.slice none 0 0] rfl (by decide) (N+1) 88;rw[World.size_alloc,<-hY,Nat.mul_one] at h1;exact h1
  have hbb:Below w2.heap.size w2 ((w2.alloc (.cells (madeCells aK.nil.val.cells ((N+1)*16)) 63)).alloc (.cells (madeCells #[.slice none 0 0] (N+1)) 88)):=((Below.refl _ _).alloc (Nat.le_refl _) _).alloc (by simp) _;have Lt:M<Y/\q<Y/\w.heap.size<Y:=by
   rw[hY];exact⟨ST.out.pm.lM,ST.out.pm.im.lt,ST.out.bx.lt⟩
  have aV:Hid (mQ M q Y (N+1) w.heap.size x ⟨iw x.g x.s x.i x.j,0⟩ (λ_=>aK.nil) d P w ((w2.alloc (.cells (madeCells aK.nil.val.cells ((N+1)*16)) 63)).alloc (.cells (madeCells #[.slice none 0 0] (N+1)) 88))):=
   ⟨ST.out.pm.below hbb,zi.out,ST.out.bx.below hbb ST.out.bx.lt,ST.out.r.below (hbb.mono ST.out.bel.size),ST.out.bel.trans (hbb.mono ST.out.bel.size),by omega⟩
  have SL1:Hid (AX ((w2.alloc (.cells (madeCells aK.nil.val.cells ((N+1)*16)) 63)).alloc (.cells (madeCells #[.slice none 0 0] (N+1)) 88)) (Y+2) (Y+1) (N+1) (λ_=>[]) (λ_=>none) (λ_=>0)):=
   ⟨Ba.out,λt _=>ah.nil _ _ _ _ _,λs t _ _ _=> .inl rfl⟩
  have gn:=zi.out.there (k:=0) (by omega);rw[Nat.zero_mul] at gn;clear hN hmin hbb ST zi Ba;subst hY;go_wp2_with (first|(refine iK rfl 63 (.tmp 44) (.tmp 43) rfl w2.heap.size 0 (⟨2,1,1,0,λ_=>0,0⟩:aK).arr.toList rfl rfl gn (by kernel_rfl) (BA _) ?_))
  intro w3 hw3;obtain⟨RP,nU⟩:=aV.out.IN (i:=0) (by omega) (⟨2,1,1,0,λ_=>0,0⟩:aK) (W':=w3) hw3.out;have cf:Hid (mQ M q w2.heap.size (N+1) w.heap.size x ⟨iw x.g x.s x.i x.j,0⟩ (P.kR N 0).ino d P w w3):=RP;obtain⟨cy,Y0,-⟩:=aV.out.y.blk;have TB:Hid (AX w3 (w2.heap.size+2) (w2.heap.size+1) (N+1) (P.kR N 0).sl (λ_=>none) (λ_=>0)):=SL1.out.only nU Y0 (by decide) (by omega);have hs2:w2.heap.size+2<=w3.heap.size:=by have:=TB.out.u.lt;omega
  clear aV SL1 RP nU Y0 gn hw3 Vq Vo;obtain⟨Y,hY⟩:∃Y,Y=w2.heap.size:=⟨_,rfl⟩;rw[<-hY] at cf TB Lt hs2 ⊢;clear hY;go_wp2_with fail;go_loopw [9,10,11,12] (λu _ _ _ wr=>∃(k:Nat) (a:Nat->Option Addr) (c:Nat->Nat),k<=N/\u= .int .i64 ((k:Int)+1)/\mQ M q Y (N+1) w.heap.size x ⟨iw x.g x.s x.i x.j,0⟩ (P.kR N k).ino d P w wr/\AX wr (Y+2) (Y+1) (N+1) (P.kR N k).sl a c) (λu _ _ _ _=>N+1-(intOf u).toNat)
  case atStart=>exact⟨0,_,_,Nat.zero_le _,rfl,cf.out,TB.out⟩
  clear cf TB;obtain⟨k,a,c,hk,rfl,st,sl⟩:=hrel;have ST:=hid st;have SL:=hid sl;have c4:wr.cell? ⟨w.heap.size,4,none⟩=some (.slice d.fa P.nf d.fc):=st.bx.cell (i:=4) rfl;clear st sl
  by_cases hlt:k<N
  ·have hlt':(k:Int)+1<=(N:Int):=by omega
   have Dv:k<P.nf:=by omega
   have Vy:(k:Int)<(P.nf:Int):=by omega
   obtain⟨fb,fo,s5,-⟩:=ST.out.r.f.cell (j:=0) Dv rfl;have hrg:wr.rangeAt fb (fo+k*6) (JS d P k):=λj v hv=>by
    obtain⟨b',o',e,hc⟩:=ST.out.r.f.cell Dv hv;rw[s5] at e;cases e;exact hc
   rw[s5] at c4;clear s5;have hA0:At (wr.alloc (.cells #[.int .u8 0,.int .i64 0,.slice none 0 0,.slice none 0 0,.bool false,.int .i64 0] 78)) wr.heap.size 78 #[.int .u8 0,.int .i64 0,.slice none 0 0,.slice none 0 0,.bool false,.int .i64 0]:=At.new _ _ _;go_wp2_with (first|(refine aB rfl 78 (.tmp 54) rfl fb (fo+k*6) (JS d P k) _ rfl hrg Tryz.underlying78 rfl (by kernel_rfl) ?_)|(refine ax rfl 78 (.tmp 10) (.tmp 55) rfl wr.heap.size (JS d P k).toArray _ rfl rfl hA0 (Dl k d P) rfl (Fp k d P) ?_))
   intro w4 Y3 kv;have IM:=hid (y8.start (A:=P.kR N k) ST.out SL.out Y3 kv);clear ST SL Y3 kv hA0 hrg c4;obtain⟨DJ,QV⟩:∃DJ,DJ=wr.heap.size:=⟨_,rfl⟩;rw[<-QV] at IM ⊢;clear QV;have k0:w4.cell? ⟨DJ,0,none⟩=some (.int .u8 (P.f k).kind):=IM.out.fi.cell (i:=0) rfl;have k5:w4.cell? ⟨DJ,5,none⟩=some (.int .i64 (P.f k).aJ):=IM.out.fi.cell (i:=5) rfl;have k1:w4.cell? ⟨DJ,1,none⟩=some (.int .i64 (P.f k).size):=IM.out.fi.cell (i:=1) rfl;have gn:=IM.out.ic.y.there (k:=k+1) (by omega);have YS:k<=300:=by omega
   have hw1:IntKind.u32.wrap ((k:Int)+1)=(k:Int)+1:=IntWalk.u32_in _ (by omega);go_wp2_with (first|(refine iK rfl 63 (.tmp 67) (.tmp 66) rfl Y ((k+1)*16) (⟨(P.f k).kind,(P.f k).aJ,(k:Int)+1,(P.f k).size,λ_=>0,0⟩:aK).arr.toList rfl rfl gn (by kernel_rfl) (BA _) ?_))
   intro w5 Yv;have IM2:=hid (IM.out.IN (i:=k+1) (by omega) (⟨(P.f k).kind,(P.f k).aJ,(k:Int)+1,(P.f k).size,λ_=>0,0⟩:aK) Yv.out);clear hw1;clear IM gn Yv k0 k5 k1;obtain⟨At',Rh⟩:∃At':Nat->PlanD.IS,At'=λt=>P.KZ N k t:=⟨_,rfl⟩
   have uK:Hid (At' 0={P.kR N k with ino:=af (P.kR N k).ino (k+1) ⟨(P.f k).kind,(P.f k).aJ,((k+1:Nat):Int),(P.f k).size,λ_=>0,0⟩}):=by show _=_;rw[Rh];rfl
   have HAS:Hid (∀t,At' (t+1)=P.ir N (k+1) t (At' t)):=λt=>by rw[Rh];rfl
   have T2:Hid (P.kR N (k+1)=At' (P.f k).nn):=by show _=_;rw[Rh];rfl
   have hcn:P.cn (k+1)<=1000:=Nat.le_trans (PlanD.BU P Dv) wW.out.cn;have zh:Hid (∀t r,t<=(P.f k).nn->((At' t).sl r).length<=1000):=λt r ht=>by rw[Rh];exact P.Fh N k t r hcn ht
   have acN:(P.f k).nn<=1000:=by
    rw[PlanD.cn] at hcn;omega
   clear hcn;have IM3:Hid (y8 M q Y (N+1) w.heap.size (Y+1) DJ (Y+2) x ⟨iw x.g x.s x.i x.j,0⟩ d P k (At' 0) a c w w5):=by show y8 _ _ _ _ _ _ _ _ _ _ _ _ _ _ _ _ _ _;rw[uK.out];exact IM2.out
   clear IM2 Rh uK;go_wp2_with fail;go_loopw [11,12] (λu _ wr=>∃(t:Nat) (a:Nat->Option Addr) (c:Nat->Nat),t<=(P.f k).nn/\u= .int .i64 (t:Int)/\y8 M q Y (N+1) w.heap.size (Y+1) DJ (Y+2) x ⟨iw x.g x.s x.i x.j,0⟩ d P k (At' t) a c w wr) (λu _ _=>(P.f k).nn-(intOf u).toNat)
   case atStart=>exact⟨0,_,_,Nat.zero_le _,rfl,IM3.out⟩
   clear IM3 a c;obtain⟨t,a,c,ht,rfl,im⟩:=hrel;have IM:=hid im;have c3:wr.cell? ⟨DJ,3,none⟩=some (.slice (d.na k) (P.f k).nn (d.nc k)):=im.fi.cell (i:=3) rfl;clear im
   by_cases Hh:t<(P.f k).nn
   ·have Na:(t:Int)<((P.f k).nn:Int):=by omega
    obtain⟨nb,no,OO,cd⟩:=(IM.out.ic.r.n k Dv).cell (j:=0) Hh rfl;have zd:Hid (∀W,mQ M q Y (N+1) w.heap.size x ⟨iw x.g x.s x.i x.j,0⟩ (At' t).ino d P w W->W.cell? ⟨nb,no+t*2+1,none⟩=some (.string ((P.f k).nm t))):=λW h=>by
     obtain⟨b',o',e,hc⟩:=(h.r.n k Dv).cell (j:=1) Hh rfl;rw[OO] at e;cases e;exact hc
    rw[OO] at c3;have HNA:=hid OO;rw[Nat.add_zero] at cd;clear OO;obtain⟨dr,hdr⟩:∃dr,dr=(P.f k).dir t:=⟨_,rfl⟩;rw[<-hdr] at cd;have Ou:=hid hdr;clear hdr;have zi:Hid (At' (t+1)=if 0<=dr/\dr<=(N:Int) then⟨af (At' t).ino (k+1) {(At' t).ino (k+1) with aJ:=IntKind.i64.wrap (((At' t).ino (k+1)).aJ+1)},af (At' t).sl dr.toNat ((At' t).sl dr.toNat++[(k+1+1,(P.f k).nm t)])⟩ else At' t):=by
     show _=_;rw[HAS.out t,PlanD.ir,Nat.add_sub_cancel,<-Ou.out]
    by_cases hin:0<=dr/\dr<=(N:Int)
    rotate_left
    ·have Ba:Hid (At' (t+1)=At' t):=by show _=_;rw[zi.out,if_neg hin]
     by_cases h0:0<=dr
     ·have hn:¬dr<=(N:Int):=λh=>hin ⟨h0,h⟩
      clear hin;go_wp2_with fail;go_roundw
      case rel=>first|exact⟨t+1,a,c,by omega,by go_num,by rw[Ba.out];exact IM.out⟩|((repeat apply Exists.intro);refine⟨?_,rfl⟩;exact⟨t+1,a,c,by omega,by go_num,by rw[Ba.out];exact IM.out⟩)
      simp[intOf];omega
     clear hin;go_wp2_with fail;go_roundw
     case rel=>first|exact⟨t+1,a,c,by omega,by go_num,by rw[Ba.out];exact IM.out⟩|((repeat apply Exists.intro);refine⟨?_,rfl⟩;exact⟨t+1,a,c,by omega,by go_num,by rw[Ba.out];exact IM.out⟩)
     simp[intOf];omega
    obtain⟨dn,rfl⟩:∃dn:Nat,dr=(dn:Int):=⟨dr.toNat,by omega⟩;have lY:dn<N+1:=by omega
    have F8:(dn:Int)<(N:Int)+1:=by omega
    obtain⟨VC,VB⟩:=hin;have Ba:Hid (At' (t+1)=⟨af (At' t).ino (k+1) {(At' t).ino (k+1) with aJ:=IntKind.i64.wrap (((At' t).ino (k+1)).aJ+1)},af (At' t).sl dn ((At' t).sl dn++[(k+1+1,(P.f k).nm t)])⟩):=by show _=_;rw[zi.out,if_pos ⟨VC,VB⟩,Int.toNat_natCast]
    have hw2:IntKind.u32.wrap ((k:Int)+1+1)=(k:Int)+1+1:=IntWalk.u32_in _ (by omega);clear zi;go_wp2_with fail;refine uO (yZ M q Y (N+1) w.heap.size (Y+1) DJ (Y+2) x ⟨iw x.g x.s x.i x.j,0⟩ d P k (At' t) a c dn (k+1+1,(P.f k).nm t) w) ⟨0,undef⟩ 19 (by kernel_rfl) (by kernel_rfl) (by kernel_rfl) (by kernel_rfl) (by kernel_rfl) (by kernel_rfl) (by decide) (yZ.start IM.out lY (Below.refl _ _).drew) ?_;clear IM c3 cd;intro hne;have rK:∀y:aT (λW=>∃s,yZ M q Y (N+1) w.heap.size (Y+1) DJ (Y+2) x ⟨iw x.g x.s x.i x.j,0⟩ d P k (At' t) a c dn (k+1+1,(P.f k).nm t) w s W),y.W.cell? ⟨Y+1,dn,none⟩=some (.slice (a dn) ((At' t).sl dn).length (c dn)):=λy=>by
     obtain⟨_,h⟩:=y.h;exact h.cell lY
    have hc3:∀y:aT (λW=>∃s,yZ M q Y (N+1) w.heap.size (Y+1) DJ (Y+2) x ⟨iw x.g x.s x.i x.j,0⟩ d P k (At' t) a c dn (k+1+1,(P.f k).nm t) w s W),y.W.cell? ⟨DJ,3,none⟩=some (.slice (some ⟨nb,no,none⟩) (P.f k).nn (d.nc k)):=λy=>by
     obtain⟨_,h⟩:=y.h;rw[<-HNA.out];exact h.fi.cell (i:=3) rfl
    have hcs:∀y:aT (λW=>∃s,yZ M q Y (N+1) w.heap.size (Y+1) DJ (Y+2) x ⟨iw x.g x.s x.i x.j,0⟩ d P k (At' t) a c dn (k+1+1,(P.f k).nm t) w s W),y.W.cell? ⟨nb,no+t*2+1,none⟩=some (.string ((P.f k).nm t)):=λy=>by
     obtain⟨_,h⟩:=y.h;exact zd.out _ h.ic
    (refine Mv.aO 16 (by kernel_rfl) ?_;simp only[List.take,List.drop])
    repeat go_big_quiet_step (fail)
    refine wpQuiet_nil ?_;refine Mv.jS rfl _ _ _ _ rfl λW hW=>⟨_,_,⟨1,.slice (some ⟨W.heap.size,0,none⟩) 1 1⟩,od ((k:Int)+1+1) ((P.f k).nm t) W,hW.alloc,?_⟩
    generalize W.heap.size=g0 at*;clear hW;refine Mv.frame ?_;obtain⟨i0,hi0,hz0,hz1,hz2⟩:=info_parts jV;refine Mv.jT rfl _ _ _ rfl λW hW=> ?_
    have hown:=hW.s0 (by show(1:Nat)<2;decide);obtain⟨v',w',hr,ho,hg,hv⟩:=qL (P:=Tryz.prog) W (Y+2) 88 88 90 i0 (.agg #[.int .u32 0,.string ByteArray.empty]) 2 24 Tryz.underlying88 hi0 hz0 hz1 hz2 rfl (by decide) (.slice (a dn) ((At' t).sl dn).length (c dn)) ((At' t).sl dn).length (Cs (kj ((At' t).sl dn)) ((At' t).sl dn).length) hown ⟨g0,0,none⟩ 1 1 [.int .u32 ((k:Int)+1+1),.string ((P.f k).nm t)] rfl
     (λj u hj=>hW.s1 rfl g0 rfl j u (by show([.int .u32 ((k+1+1:Nat):Int),.string ((P.f k).nm t)]:List Value)[j]? =some u;rw[show((k+1+1:Nat):Int)=(k:Int)+1+1 from rfl];exact hj)) (pN _ _) (by have:=zh.out t dn ht;unfold maxLen;omega) (by have:=zh.out t dn ht;omega) (by have:=hW.u.lt;omega) (by decide)
    refine⟨v',w',⟨2,v'⟩,hr,hW.app lY (by omega) hg ho hv,?_⟩;clear hr ho hg hW hown hv;refine Mv.frame ?_
    (refine Mv.aO 1 (by kernel_rfl) ?_;simp only[List.take,List.drop])
    go_big_quiet_step (fail)
    refine wpQuiet_nil ?_;refine Mv.bu ?_;intro w6 h6;clear rK hc3 hcs hne;obtain⟨ca,cc,rfl⟩:∃a c,v'= .slice a (((At' t).sl dn).length+1) c:=ah.form (h6.s2 rfl).1;have cd:=h6.cell lY;have fd:=h6.u.soft dn;have Xn:=hid (h6.fin lY (by omega));have fl:w6.frozen? ⟨Y,(k+1)*16+1,none⟩=false:=h6.ic.y.soft _;have cl:(w6.setCell ⟨Y+1,dn,none⟩ (.slice ca (((At' t).sl dn).length+1) cc)).cell? ⟨Y,(k+1)*16+1,none⟩=some (.int .i64 ((At' t).ino (k+1)).aJ):=Xn.out.ic.aJ (i:=k+1) (by omega);have IM6:=hid (Xn.out.My (i:=k+1) (by omega) (wrap64 (((At' t).ino (k+1)).aJ+1)));clear h6 Xn;go_wp2_with fail;have HA3:Hid (At' (t+1)=⟨af (At' t).ino (k+1) {(At' t).ino (k+1) with aJ:=wrap64 (((At' t).ino (k+1)).aJ+1)},af (At' t).sl dn ((At' t).sl dn++[(k+1+1,(P.f k).nm t)])⟩):=by
     show _=_;rw[Ba.out,PlanD.Co]
    go_roundw
    case rel=>first|exact⟨t+1,_,_,by omega,by go_num,by rw[HA3.out];exact IM6.out⟩|((repeat apply Exists.intro);refine⟨?_,rfl⟩;exact⟨t+1,_,_,by omega,by go_num,by rw[HA3.out];exact IM6.out⟩)
    simp[intOf];omega
   obtain rfl:t=(P.f k).nn:=by omega
   go_wp2_with fail;go_roundw
   case rel=>first|exact⟨k+1,a,c,by omega,by first|rfl|go_num,by rw[T2.out];exact IM.out.ic,by rw[T2.out];exact IM.out.su⟩|((repeat apply Exists.intro);refine⟨?_,rfl⟩;exact⟨k+1,a,c,by omega,by first|rfl|go_num,by rw[T2.out];exact IM.out.ic,by rw[T2.out];exact IM.out.su⟩)
   simp[intOf];omega
  obtain rfl:k=N:=by omega
  have zn:=ST.out.bx;obtain⟨F,hF⟩:∃F,F=P.fill x ⟨(P.kR k k).ino,(P.kR k k).sl⟩ ⟨iw x.g x.s x.i x.j,0⟩ (k+1):=⟨_,rfl⟩;have HE:Hid (P.Qg x=P.pA x F.m.L F.ino k):=by show _=_;rw[hF,HN.out];exact P.Jj x
  have GY:Hid (∀j,MY M q Y j->w.heap.size<=j):=λj hj=>by rcases hj with rfl|rfl|rfl<;>omega
  have Sw:Hid (gP M q Y (k+1) x ⟨iw x.g x.s x.i x.j,0⟩ (P.kR k k).ino wr wr):=⟨ST.out.pm,ST.out.y,.refl _ _⟩;have Oj:Hid (∀j,MY M q Y j->j<wr.heap.size):=λj hj=>by
   obtain⟨l1,l2,l3,l4⟩:=ST.out.Yj;rcases hj with rfl|rfl|rfl<;>assumption
  have hcall:=Ae w.heap.size M q Y (k+1) (Y+1) x HX.out ⟨iw x.g x.s x.i x.j,0⟩ (P.kR k k).ino (Ji HX.out P wX.out k (k+1) (by omega)) (by omega) x.g x.s x.i x.j d P wX.out wW.out (by omega) a c (P.kR k k).sl
   (λt _=>⟨Nat.le_trans (vN P wW.out k (by omega) t).1 (by decide),(vN P wW.out k (by omega) t).2⟩) wr Sw.out ST.out.r ST.out.bel.size (λj hj h=>by have:=GY.out j h;omega) (ST.out.slt SL.out (by omega)) Oj.out
  rw[<-hF] at hcall;have HFY:Hid (∀t,(F.ino t).Ok):=λt=>by
   rw[hF];exact PlanD.BM P fY (λt=>(P.Ah wX.out k k (by omega) t).1) (λt=>Nat.le_trans (vN P wW.out k (by omega) t).1 (by decide)) (k+1) t
  have HC:=hid hcall;have ky:=hid hNn;clear hF hcall SL c4;go_wp2_with (first|(refine ar rfl 27 (.tmp 1) rfl _ _ _ rfl zn Tryz.underlying27 rfl (lE _ _ _ _ _ _) ?_))
  refine HC.out.mono ?_;rintro e w6 ⟨rfl,M7,YV⟩;have Q2:At w6 w.heap.size 27 (dx x.g x.s x.i x.j d P):=zn.o5 M7.gr (λh=>by rcases h with h|h|h<;>omega);have HS6:Hid (gP M q Y (k+1) x F.m F.ino w6 w6):=⟨M7.p,M7.y,.refl _ _⟩;have Cd:Hid (Below w.heap.size w w6):=ST.out.bel.trans (M7.gr.below ST.out.bel.size GY.out);have HR6:Hid (iJ w.heap.size d P w6):=ST.out.r.o5 M7.gr ST.out.bel.size (λj hj h=>by have:=GY.out j h;omega);have HI6:=hid YV;have XJ:Hid (∀j,MY M q Y j->j<w6.heap.size):=λj hj=>Nat.lt_of_lt_of_le (Oj.out j hj) M7.gr.size
  clear M7 YV zn HC ST Sw Oj;go_wp2_with (first|(refine ar rfl 27 (.tmp 1) rfl _ _ _ rfl Q2 Tryz.underlying27 rfl (lE _ _ _ _ _ _) ?_))
  refine(C8 w.heap.size M q Y (k+1) x HX.out F.m F.ino HI6.out.jg.1 (λt _=>HFY.out t) (by omega) (by exact ky.out.2) d P wX.out wW.out (by have:=ky.out.1;omega) w6 HS6.out HR6.out Cd.out.size (λj hj h=>by have:=GY.out j h;omega) XJ.out).mono ?_;rintro e w7 ⟨rfl,hby,UW⟩;have Oq:Hid (wH x.g x.s x.i x.j P w (.returned (.slice (some ⟨q,0,none⟩) x.n x.n)) w7):=by
   refine⟨Cd.out.trans (UW.gr.below Cd.out.size GY.out),.inr ⟨x,q,HX.out,HXM.out,rfl,rfl,rfl,rfl,rfl,by omega,?_,?_⟩⟩
   ·rw[HE.out];exact UW.p.im
   rw[HE.out];exact hby
  clear hby UW Q2;go_wp2_with fail;go_ret;exact Oq.out
end Go.Proofs.YtphamecphmbipaaGreatDoor
