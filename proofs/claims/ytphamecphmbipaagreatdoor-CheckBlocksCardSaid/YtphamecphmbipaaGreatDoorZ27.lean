/- Texts of this claim, merged. -/
import Derived.Test.YtphamecphmbipaaGreatDoorZ12
import Derived.Test.YtphamecphmbipaaGreatDoorZ15
set_option linter.unusedVariables false
set_option maxRecDepth 100000
set_option maxHeartbeats 16000000

namespace Go.Proofs.YtphamecphmbipaaGreatDoor
open Go.RowKit
variable {W' w:World} {p g s i j x qa ca q gd cd qb:Nat} {im:Nat->Nat->Int} {P:Nat->Bool}
theorem Ae(x y v:Int)(w:World):(Instr.buildSlice 51 1 #[(0,kF x y v)]).run Tryz.prog w= .ok (.slice (some ⟨w.heap.size,0,none⟩) 1 1) (w.alloc (.cells #[.int .i64 x,.int .i64 y,.int .i64 v] 67)):=by kernel_rfl
theorem AG:(Tryz.prog.info? 4).map (λi=>(i.zero,i.size,i.bytes))=some (some (.bool false),1,1):=by kernel_rfl
theorem lN{W:World}{base k:Nat}{v:Value}{e:TypeId}{size:Nat}{xs:List Value}(h:W.ownsRow base e size v k xs)(ho:az p W W')(hp:v.ownBlock≠some p):W'.ownsRow base e size v k xs:=
 World.ownsRow.kept h (row:=some p) ⟨ho.os,ho.tape,ho.output,by rw[ho.size];exact Nat.le_refl _,λk _ hk=>ho.block k (λe=>hk (by rw[e]))⟩ (.inr hp)
structure zL(w:World)(g s i j n qa ca q:Nat)(im:Nat->Nat->Int)(W:World):Prop where
 ge:At W w.heap.size 23 (ai g s i j)
 al:au W (w.heap.size+1) 134 4 (.slice (some ⟨qa,0,none⟩) n ca) n (gZ s (i/4) j)
 im:aE W q 32 256 n (λb=>Ks .u8 256 (im b))
 bel:Below w.heap.size w W
 o1:w.heap.size<qa
 o2:qa<q
section
variable {w:World} {g s i j n qa ca q:Nat} {im im':Nat->Nat->Int} {W W':World}
theorem zL.below(h:zL w g s i j n qa ca q im W)(hb:Below W.heap.size W W'):zL w g s i j n qa ca q im W':=
 ⟨h.ge.below hb h.ge.lt,au.below h.al hb,h.im.below hb,h.bel.trans (hb.mono h.bel.size),h.o1,h.o2⟩
theorem zL.grown(h:zL w g s i j n qa ca q im W){row:Option Nat}(hg:W.grownBy W' row)(hr:∀p,row=some p->q<p):zL w g s i j n qa ca q im W':=
 ⟨h.ge.grown hg (λe=>by have:=hr _ e.symm;have:=h.o1;have:=h.o2;omega),World.ownsRow.kept h.al hg (by
   rw[show(Value.slice (some ⟨qa,0,none⟩) n ca).ownBlock=some qa from rfl];exact .inr (λe=>by have:=hr _ e.symm;have:=h.o2;omega)),h.im.grown hg (λe=>by have:=hr _ e.symm;omega),h.bel.grown hg h.bel.size (λk e=>by have:=hr k e;have:=h.o1;have:=h.o2;omega),h.o1,h.o2⟩
theorem zL.put(h:zL w g s i j n qa ca q im W)(hA:aE W' q 32 256 n (λb=>Ks .u8 256 (im' b)))(ho:az q W W'):zL w g s i j n qa ca q im' W':=
 ⟨h.ge.only ho (by have:=h.o1;have:=h.o2;omega),lN h.al ho (λe=>by have e':some qa=some q:=e;injection e' with e';have:=h.o2;omega),hA,h.bel.trans (ho.below (by have:=h.o1;have:=h.o2;omega)),h.o1,h.o2⟩
theorem zL.congr(h:zL w g s i j n qa ca q im W)(e:∀b,b<n->im b=im' b):zL w g s i j n qa ca q im' W:=⟨h.ge,h.al,h.im.congr λb hb=>by rw[e b hb],h.bel,h.o1,h.o2⟩
end
structure uS(w:World)(g s i j n qa ca q:Nat)(im:Nat->Nat->Int)(gd cd:Nat)(W:World):Prop where
 m:zL w g s i j n qa ca q im W
 d:au W (q+1) 67 3 (.slice (some ⟨gd,0,none⟩) g cd) g (df (PG g s i j) (Iu i) Iv)
section
variable {w:World} {g s i j n qa ca q gd cd:Nat} {im im':Nat->Nat->Int} {W W':World}
theorem uS.below(h:uS w g s i j n qa ca q im gd cd W)(hb:Below W.heap.size W W'):uS w g s i j n qa ca q im gd cd W':=⟨h.m.below hb,au.below h.d hb⟩
theorem uS.put(h:uS w g s i j n qa ca q im gd cd W)(hA:aE W' q 32 256 n (λb=>Ks .u8 256 (im' b)))(ho:az q W W'):uS w g s i j n qa ca q im' gd cd W':=
 ⟨h.m.put hA ho,lN h.d ho (λe=>by have:=(World.ownsRow.lt h.d _ e).1;omega)⟩
theorem uS.congr(h:uS w g s i j n qa ca q im gd cd W)(e:∀b,b<n->im b=im' b):uS w g s i j n qa ca q im' gd cd W:=⟨h.m.congr e,h.d⟩
theorem uS.set(h:uS w g s i j n qa ca q im gd cd W){b:Nat}(hb:b<n)(z:Nat->Int):uS w g s i j n qa ca q (λx=>if x=b then z else im x) gd cd (W.setCells q (b*256) (Ks .u8 256 z)):=by
 have hs:=h.m.im.set hb (vs:=Ks .u8 256 z) (by simp[Ks]) (λi=>by simp[Ks]);exact h.put (hs.1.congr λx _=>by by_cases e:x=b<;>simp[e]) hs.2
end
def Bz(g s i j b x:Nat):Nat->Int:=if x<b then iL g s i j x elseλ_=>0
theorem yc{b:Nat}(z:Nat->Int)(hz:z=iL g s i j b):(if x=b then z else Bz g s i j b x)=Bz g s i j (b+1) x:=by
 unfold Bz
 by_cases e:x=b
 ·rw[if_pos e,if_pos (by omega),e,hz]
 rw[if_neg e]
 by_cases e2:x<b
 ·rw[if_pos e2,if_pos (by omega)]
 rw[if_neg e2,if_neg (by omega)]
theorem lK{b:Nat}(z z0:Nat->Int)(hz:z=iL g s i j b):(if x=b then z else if x=b then z0 else Bz g s i j b x)=Bz g s i j (b+1) x:=by
 rw[<-yc z hz]
 by_cases e:x=b
 ·rw[if_pos e,if_pos e]
 rw[if_neg e,if_neg e,if_neg e]
theorem uS.only{n:Nat}{W:World}(h:uS w g s i j n qa ca q im gd cd W)(ho:az p W W')(hp:q<p)(hd:gd<p):uS w g s i j n qa ca q im gd cd W':=
 ⟨⟨h.m.ge.only ho (by have:=h.m.o1;have:=h.m.o2;omega),lN h.m.al ho (λe=>by have e':some qa=some p:=e;injection e' with e';have:=h.m.o2;omega),h.m.im.only ho (by omega),h.m.bel.trans (ho.below (by have:=h.m.o1;have:=h.m.o2;omega)),h.m.o1,h.m.o2⟩,
  lN h.d ho (λe=>by have e':some gd=some p:=e;injection e' with e';omega)⟩
theorem nk{ops:Array Oper}{rest:List Oper}{o:Oper}{a:Act}{Q:Exit->Act->World->Prop}{n:Nat}{W:World}(hgd:o.guard=none)(x y:Operand)(ho:o.op= .store 32 x y)(h:uS w g s i j n qa ca q im gd cd W){b:Nat}(hb:b<n)(z:Nat->Int)(off:Nat)
  (hx:a.eval x= .pointer (some ⟨q,off,none⟩)) (hy:a.eval y=aR z) (hoff:off=b*256) (hk:∀w',uS w g s i j n qa ca q (λx=>if x=b then z else im x) gd cd w'->wpList Tryz.prog ops Q rest (a.put o.dst undef) w'):wpList Tryz.prog ops Q (o::rest) a W:=
 wpList_store_mid hgd 32 x y ho q (b*256) (Ks .u8 256 z).toArray (by rw[hx,hoff]) hy (by have:=h.m.im.there hb;simpa[Ks] using this) (aW _) (fF _ _ _) (hk _ (h.set hb z))
structure QmD(w:World)(g s i j n qa ca q k:Nat)(v:Value)(Da:Int)(st:Mv.St)(W:World):Prop where
 m:zL w g s i j n qa ca q (λ_ _=>0) W
 s0:st.n<2->au W (q+1) 67 3 v k (df (λ_=>Da) (λ_=>(i:Int)) (λ_=>0))
 s1:st.n=1->∀p,st.v= .slice (some ⟨p,0,none⟩) 1 1->∀x u,(df (λ_=>Da) (λ_=>(i:Int)) (λ_=>0) k)[x]? =some u->W.cell? ((⟨p,0,none⟩:Addr).add x)=some u
 s2:st.n=2->au W (q+1) 67 3 st.v (k+1) (df (λ_=>Da) (λ_=>(i:Int)) (λ_=>0))
 z:q+1<=W.heap.size
def Ez(P:Nat->Bool)(x y:Nat):List Value:=[.bool (if y<x then P y else false)]
theorem km{W:World}(h:aE W qb 4 1 2048 (Ez P x))(hx:x<2048)(v:Bool)(hv:v=P x):aE (W.setCell ⟨qb,x,none⟩ (.bool v)) qb 4 1 2048 (Ez P (x+1)):=by
 have:=h.dO hx (j:=0) (by omega) (λ_=>rfl) (.bool v);rw[Nat.mul_one,Nat.add_zero] at this;refine this.congr λy hy=> ?_
 unfold Ez
 by_cases e:y=x
 ·rw[if_pos e,if_neg (by omega),if_pos (by omega),e,hv];rfl
 rw[if_neg e]
 by_cases e2:y<x
 ·rw[if_pos e2,if_pos (by omega)]
 rw[if_neg e2,if_neg (by omega)]
theorem Ow{W:World}(h:aE W qb 4 1 2048 (Ez P x))(hv:P x=false):aE W qb 4 1 2048 (Ez P (x+1)):=h.congr λy hy=>by
 unfold Ez
 by_cases e:y=x
 ·rw[if_neg (by omega),if_pos (by omega),e,hv]
 by_cases e2:y<x
 ·rw[if_pos e2,if_pos (by omega)]
 rw[if_neg e2,if_neg (by omega)]
theorem G4{W:World}(h:aE W qb 4 1 2048 (Ez P x))(hx:x<2048):W.cell? ⟨qb,x,none⟩=some (.bool false)/\W.frozen? ⟨qb,x,none⟩=false:=by
 have h1:=h.bQ x hx 0 (.bool false) (by unfold Ez;rw[if_neg (by omega)];rfl);rw[Nat.zero_add,Nat.mul_one,Nat.add_zero] at h1;have h2:=(h.there hx 0 (by omega)).2;rw[Nat.mul_one,Nat.add_zero] at h2;exact⟨h1,h2⟩
theorem Kz{W:World}(h:aE W qb 4 1 2048 (Ez P 2048)):cU W (some ⟨qb,0,none⟩) 1 2048 (kH P):=
 .inr ⟨qb,0,rfl,λx hx j v hj=>h.bQ x hx j v (by unfold Ez;rw[if_pos hx];exact hj)⟩
theorem Fo(G S I J:Int)(hm:aT G S I J=false)(w:World):
  Calls Tryz.prog 27 #[bV G S I J] w λe w'=>e= .returned (.tuple #[.slice none 0 0,.int .i64 50])/\Below w.heap.size w w':=by
 have hs0:=At.new w 23 (ai G S I J);have uw:Hd (Below w.heap.size w (w.alloc (.cells (ai G S I J) 23))):=ag.alloc af _;go_enter Tryz.func27,Tryz.ntmps27;go_wp2_with (first|(refine aB rfl 23 (.tmp 1) rfl _ _ _ rfl hs0 Tryz.underlying23 rfl (by kernel_rfl) ?_))
 refine(eu G S I J _).mono ?_;rintro e w1 ⟨rfl,hb1⟩;rw[hm];have HL:=ah (uw.Z.trans (hb1.mono uw.Z.size));clear hs0 uw hb1;go_wp2_with fail
 go_ret2
 exact⟨rfl,HL.Z⟩
theorem C8(g s i j:Nat)(hm:aT g s i j=true)(w:World):
  Calls Tryz.prog 27 #[bV g s i j] w λe w'=>∃q,e= .returned (.tuple #[.slice (some ⟨q,0,none⟩) (2+j+g*s) (2+j+g*s),.int .i64 0])/\Ss w g s i j q w':=by
 obtain⟨h1,h2,h3,h4,h5,h6,h7,h8,h9,h10,h11⟩:=dX hm;have hs0:=At.new w 23 (ai g s i j);have uw:Below w.heap.size w (w.alloc (.cells (ai g s i j) 23)):=ag.alloc af _;have HM:=ah hm;clear hm;go_enter Tryz.func27,Tryz.ntmps27;go_wp2_with (first|(refine aB rfl 23 (.tmp 1) rfl _ _ _ rfl hs0 Tryz.underlying23 rfl (by kernel_rfl) ?_))
 refine(eu g s i j _).mono ?_;rintro e w1 ⟨rfl,hb1⟩;rw[HM.Z];have hs1:=hs0.below hb1 hs0.lt;have kB:=ah (uw.trans (hb1.mono uw.size));clear hs0 uw hb1;go_wp2_with (first|(refine aB rfl 23 (.tmp 1) rfl _ _ _ rfl hs1 Tryz.underlying23 rfl (by kernel_rfl) ?_))
 refine(nK g s i j _).mono ?_;rintro e w2 ⟨hb2,h|⟨_,v,rfl,hv⟩⟩
 ·rw[HM.Z] at h;cases h.1
 simp only[Int.toNat_natCast] at hv;obtain⟨n,hn⟩:=aa (2+j+g*s);have VZ:n<=2048:=by omega
 have adn:58<=n:=by have:=Nat.mul_le_mul h1 h3;omega
 have kJ:=ah hn;rw[<-hn] at hv;clear hn h11;obtain⟨qa,ca,rfl,VE,VD,J5,WG⟩:=hv.nZ (by omega);have V8:=hs1.lt;have hs2:=hs1.below hb2 hs1.lt;have ju:=ah (kB.Z.trans (hb2.mono kB.Z.size));have PR:=ah (au.low hv (base':=w.heap.size+1) (by omega));have hmk:=λW=>xR n VZ W
 obtain⟨q,hq⟩:=aa w2.heap.size;have fh:Hd (zL w g s i j n qa ca q (λ_ _=>0) (w2.alloc (.cells (madeCells (Ks .u8 256 λ_=>0).toArray (n*256)) 32))):=by
  rw[hq];exact⟨hs2.alloc _,au.alloc PR.Z _,AJ w2 n,ju.Z.alloc ju.Z.size _,by omega,by omega⟩
 obtain⟨W3,hW3⟩:=aa (w2.alloc (.cells (madeCells (Ks .u8 256 λ_=>0).toArray (n*256)) 32));have RA:Hd (W3=w2.alloc (.cells (madeCells (Ks .u8 256 λ_=>0).toArray (n*256)) 32)):=hW3;have QQ:q+1<=W3.heap.size:=by rw[hW3,hq];simp
 rw[<-hW3] at fh;have HQ:=ah hq;clear hv hs1 hs2 kB ju PR hb2 hW3 hq VE VD V8 WG;go_wp2_with fail;rw[<-RA.Z,<-HQ.Z];clear RA HQ hmk;have Ej:Hd (∀W,Calls Tryz.prog 58 #[bV g s i j] W λe w'=>e= .returned (.int .i64 (ti g s i j))/\Below W.heap.size W w'):=λW=>ry g s i j W
 obtain⟨Da,Xk⟩:=aa (ti (g:Int) s i j);rw[<-Xk] at Ej;have HDD:=ah Xk;clear Xk;obtain⟨i0,hi0,hzz⟩:=Option.map_eq_some_iff.1 ka;simp only[Prod.mk.injEq] at hzz;obtain⟨hz0,hz1,hz2⟩:=hzz;go_loopw [6,7] (λv u wr=>∃(a:Option Addr) (c k:Nat),v= .slice a k c/\u= .int .i64 (k:Int)/\k<=g/\zL w g s i j n qa ca q (λ_ _=>0) wr/\au wr (q+1) 67 3 (.slice a k c) k (df (λ_=>Da) (λ_=>(i:Int)) (λ_=>0))/\q+1<=wr.heap.size) (λ_ u _=>g-(intOf u).toNat)
 case atStart=>exact⟨none,0,0,rfl,rfl,Nat.zero_le _,fh.Z,au.nil _ _ _ _ _,QQ⟩
 clear fh QQ;obtain⟨da,dc,k,rfl,rfl,hk,st,hd,hsz⟩:=hrel;have c0:wr.cell? ⟨w.heap.size,0,none⟩=some (.int .i64 (g:Int)):=st.ge.cell (i:=0) rfl
 by_cases hlt:k<g
 ·have hlt':(k:Int)<(g:Int):=by omega
  go_wp2_with fail;clear c0;refine Mv.bH (QmD w g s i j n qa ca q k (.slice da k dc) Da) ⟨0,undef⟩ (by kernel_rfl) (by kernel_rfl) (by kernel_rfl) ⟨st.below (ag.drew),λ_=>hd,(λh=>by cases h),(λh=>by cases h),hsz⟩ ?_;clear st hd hsz;intro hne;have c2:∀y:a9 (λW=>∃t,QmD w g s i j n qa ca q k (.slice da k dc) Da t W),y.W.cell? ⟨w.heap.size,2,none⟩=some (.int .i64 (i:Int)):=λy=>by obtain⟨_,h⟩:=y.h;exact h.m.ge.cell (i:=2) rfl
  (refine Mv.aX 2 (by kernel_rfl) ?_;simp only[List.take,List.drop])
  go_big_quiet_step (fail)
  refine aO rfl 23 (.tmp 1) rfl _ _ rfl (ai g s i j).toList _ (λW h=>by obtain⟨_,h⟩:=h;exact h.m.ge.range) Tryz.underlying23 rfl (by kernel_rfl) ?_;refine aj ?_;refine wpQuiet_nil ?_;refine Mv.cf rfl rfl 58 #[bV g s i j] (.int .i64 Da) ⟨0,undef⟩ (λW=>by kernel_rfl) (λW hW=> ?c0) ?_
  case c0=>exact(Ej.Z W).mono λe w' h=>⟨h.1,hW.m.below h.2,λh0=>au.below (hW.s0 h0) h.2,(λh=>by cases h),(λh=>by cases h),by have:=hW.z;have:=h.2.size;omega⟩
  refine Mv.frame ?_
  (refine Mv.aX 3 (by kernel_rfl) ?_;simp only[List.take,List.drop])
  iterate 3 go_big_quiet_step (fail)
  refine wpQuiet_nil ?_;refine Mv.j6 rfl _ _ _ _ rfl λW hW=>⟨_,_,⟨1,.slice (some ⟨W.heap.size,0,none⟩) 1 1⟩,Ae _ _ _ W,?_,?_⟩
  ·refine⟨hW.m.below (ag.alloc af _),λ_=>au.alloc (hW.s0 (by decide)) _,?_,(λh=>by cases h),by have:=hW.z;simp;omega⟩
   rintro _ p hp;injection hp with h1 h2 h3;injection h1 with h1;injection h1 with h1;subst h1
   exact eN W (df (λ_=>Da) (λ_=>(i:Int)) (λ_=>0) k) _
  generalize W.heap.size=g0 at*;clear hW;refine Mv.frame ?_;refine Mv.j7 rfl _ _ _ rfl λW hW=> ?_
  have hown:=hW.s0 (by show(1:Nat)<2;decide);obtain⟨v',w',hr,ho,hg,_⟩:=run_append_own (P:=Tryz.prog) W (q+1) 51 51 67 i0 (kF 0 0 0) 3 24 Tryz.underlying51 hi0 hz0 hz1 hz2 rfl (by decide) (.slice da k dc) k (Cs (df (λ_=>Da) (λ_=>(i:Int)) (λ_=>0)) k) hown ⟨g0,0,none⟩ 1 1 (df (λ_=>Da) (λ_=>(i:Int)) (λ_=>0) k) rfl
   (hW.s1 rfl g0 rfl) (GW _ _ _ k) (by unfold maxLen;omega) (by omega) hW.z
  refine⟨v',w',⟨2,v'⟩,hr,?_,?_⟩
  ·have lR:∀p,(Value.slice da k dc).ownBlock=some p->q+1<=p:=λp hp=>(World.ownsRow.lt hown p hp).1
   exact⟨hW.m.grown hg (λp e=>by have:=lR p e;omega),(λh=>absurd h (by show¬(2:Nat)<2;decide)),(λh=>by cases h),λ_=>au.append ho (by rfl),by have:=hW.z;have:=hg.size;omega⟩
  clear hr ho hg hW hown;refine Mv.frame ?_
  (refine Mv.aX 1 (by kernel_rfl) ?_;simp only[List.take,List.drop])
  go_big_quiet_step (fail)
  refine wpQuiet_nil ?_;refine Mv.bI ?_;intro w9 h9;have Il:=h9.s2 rfl;obtain⟨da9,dc9,rfl⟩:=au.form Il;have oo:=ah h9.m;have O0:=ah Il;have QL:=h9.z;clear h9 hne c2 Il;go_wp2_with fail;go_roundw
  case rel=>(try((repeat apply Exists.intro);refine⟨?_,rfl⟩));exact⟨da9,dc9,k+1,rfl,by first|rfl|go_num,by omega,oo.Z,O0.Z,QL⟩
  simp[intOf];omega
 obtain rfl:g=k:=by omega
 obtain⟨gd,cd,hv,hgd,Wq,nV,WC⟩:=hd.nZ (by omega);injection hv with hv1 hv2 hv3
 subst hv1 hv3;have b1:wr.cell? ⟨gd,1,none⟩=some (.int .i64 (i:Int)):=by
  have:=au.bQ hd (ss _ _ _) 0 (by omega) 1 (.int .i64 (i:Int)) rfl;simpa using this
 have b2:wr.cell? ⟨gd,2,none⟩=some (.int .i64 0):=by
  have:=au.bQ hd (ss _ _ _) 0 (by omega) 2 (.int .i64 0) rfl;simpa using this
 have f1:wr.frozen? ⟨gd,1,none⟩=false:=World.ownsRow.frozenAt hd 1;have f2:wr.frozen? ⟨gd,2,none⟩=false:=World.ownsRow.frozenAt hd 2;have c2:wr.cell? ⟨w.heap.size,2,none⟩=some (.int .i64 (i:Int)):=st.ge.cell (i:=2) rfl;have e1:IntKind.i64.wrap ((i:Int)-1)=(i:Int)-1:=IntWalk.i64_in _ (by omega);have y1:=World.ownsRow.stored hd 1 (.int .i64 ((i:Int)-1));have y2:=World.ownsRow.stored y1.1 2 (.int .i64 1);have STL:Hd (uS w g s i j n qa ca q (Bz g s i j 0) gd dc ((wr.setCell ⟨gd,1,none⟩ (.int .i64 ((i:Int)-1))).setCell ⟨gd,2,none⟩ (.int .i64 1))):=by
  refine⟨((st.grown y1.2 (λp e=>by injection e with e;omega)).grown y2.2 (λp e=>by injection e with e;omega)).congr λb _=>rfl,?_⟩;have:=y2.1;rw[Hy Da i g h1,HDD.Z] at this;exact this
 have hg0:(0:Int)<(g:Int):=by omega
 have ord:gd<((wr.setCell ⟨gd,1,none⟩ (.int .i64 ((i:Int)-1))).setCell ⟨gd,2,none⟩ (.int .i64 1)).heap.size:=by simpa using Wq
 clear y1 y2 hd st WC;go_wp2_with fail;clear b1 b2 f1 f2 c2 c0;have SH:Hd (∀W,(Instr.makeSlice 132 (.int .i64 2048) (.int .i64 2048)).run Tryz.prog W= .ok (.slice (some ⟨W.heap.size,0,none⟩) 2048 2048) (W.alloc (.cells (madeCells (Value.bool false).cells (2048*1)) 4))):=λW=>dx (P:=Tryz.prog) 132 4 (.bool false) 1 1 Tryz.underlying132 AG .i64 .i64 2048 (by omega) (by omega) W
 obtain⟨BC,Xo⟩:=aa (madeCells (Value.bool false).cells (2048*1));rw[<-Xo] at SH;have HBC:=ah Xo;clear Xo;go_loopw [8,9,10] (λu _ _ wr=>∃b:Nat,u= .int .i64 (b:Int)/\b<=n/\uS w g s i j n qa ca q (Bz g s i j b) gd dc wr) (λu _ _ _=>n-(intOf u).toNat)
 case atStart=>exact⟨0,rfl,Nat.zero_le _,STL.Z⟩
 clear STL ord;obtain⟨b,rfl,ll,my⟩:=hrel
 by_cases hlt:b<n
 ·have hlt':(b:Int)<(n:Int):=by omega
  have bb0:(0:Int)<=(b:Int):=by omega
  obtain⟨K,γ,A,O,gG,⟨ZS,hK2⟩,hrf⟩:=ME HM.Z (b:=b) (by have:=kJ.Z;omega);have K2:=ah hrf;have Bj:=ah gG;have hmb:=SH.Z;obtain⟨qb,Q0⟩:=aa wr.heap.size;have NY:aE (wr.alloc (.cells BC 4)) qb 4 1 2048 (Ez (uj s i K γ) 0):=by
   rw[Q0,HBC.Z];exact(aE.made (m:=1) wr (Value.bool false).cells rfl (by omega) 2048 4).congr λy _=>rfl
  have hq1:q<qb:=by rw[Q0];exact my.m.im.lt
  have hq2:gd<qb:=by rw[Q0];exact(World.ownsRow.lt my.d gd rfl).2
  have PZ:=ah (my.below ((Below.refl wr.heap.size wr).alloc af (.cells BC 4)));have Ys:=ah NY;have Nw:qb<(wr.alloc (.cells BC 4)).heap.size:=NY.lt;obtain⟨W4,Ps⟩:=aa (wr.alloc (.cells BC 4));have HW4:=ah Ps;have HQB:=ah Q0;rw[<-Ps] at PZ Ys Nw;clear my NY Ps Q0 hrf gG;go_wp2_with fail;rw[<-HW4.Z,<-HQB.Z];clear HW4 HQB hmb;obtain⟨t4,ht4⟩:=aa (i/4);have ac2:(i:Int).tdiv 4=(t4:Int):=by rw[Int.tdiv_eq_ediv_of_nonneg (by omega)];omega
  have acU:t4<=16:=by omega
  go_loopw [10] (λu wq=>∃x:Nat,u= .int .i64 (x:Int)/\x<=2048/\uS w g s i j n qa ca q (Bz g s i j b) gd dc wq/\aE wq qb 4 1 2048 (Ez (uj s i K γ) x)/\qb<wq.heap.size) (λu _=>2048-(intOf u).toNat)
  case atStart=>exact⟨0,rfl,Nat.zero_le _,PZ.Z,Ys.Z,Nw⟩
  clear PZ Ys Nw;obtain⟨x,rfl,hx2,my,wB,hsz⟩:=hrel;have hrow:wr.rangeAt qa (b*4) (tv K γ A O):=by
   have:=(au.bQ my.m.al (qd s (i/4) j)).range b hlt;rw[Bj.Z,Nat.zero_add] at this;exact this
  have cK:wr.cell? ⟨qa,b*4,none⟩=some (.int .u8 K):=hrow 0 _ rfl;have cG:wr.cell? ⟨qa,b*4+1,none⟩=some (.int .i64 γ):=hrow 1 _ rfl;have cO:wr.cell? ⟨qa,b*4+3,none⟩=some (.int .i64 O):=hrow 3 _ rfl;have g1:wr.cell? ⟨w.heap.size,1,none⟩=some (.int .i64 (s:Int)):=my.m.ge.cell (i:=1) rfl;have g2:wr.cell? ⟨w.heap.size,2,none⟩=some (.int .i64 (i:Int)):=my.m.ge.cell (i:=2) rfl;clear hrow;have n1:¬qa=qb:=by have:=my.m.o2;omega
  have n2:¬qb=qa:=by omega
  have n3:¬w.heap.size=qb:=by have:=my.m.o2;have:=my.m.o1;omega
  have n4:¬qb=w.heap.size:=by omega
  by_cases hx:x<2048
  ·have hx':(x:Int)<2048:=by omega
   have x0:(0:Int)<=(x:Int):=by omega
   obtain⟨c9,f9⟩:=G4 wB hx;have yJ:K=4\/K=5\/(K≠4/\K≠5):=by omega
   rcases yJ with rfl|rfl|⟨k4,k5⟩
   ·by_cases ha:x<2+t4
    ·have ha':(x:Int)<2+(t4:Int):=by omega
     have hv:(true:Bool)=uj s i 4 γ x:=by rw[BN];unfold lf;rw[show decide (x<2+i/4)=true from decide_eq_true (by omega)];rfl
     have jQ:=ah (km wB hx _ hv);have ju:=ah (my.only (az.setCell wr ⟨qb,x,none⟩ (.bool (true))) hq1 hq2);have gT:=hsz;clear wB my hv;go_wp2_with fail;go_roundw
     case rel=>exact⟨x+1,by first|rfl|go_num,by omega,ju.Z,jQ.Z,by simpa using gT⟩
     first|(simp[intOf];done)|(simp[intOf];omega)
    have ha':¬(x:Int)<2+(t4:Int):=by omega
    by_cases hb:s<=x
    ·have hb':(s:Int)<=(x:Int):=by omega
     have hv:(true:Bool)=uj s i 4 γ x:=by rw[BN];unfold lf;rw[show decide (s<=x)=true from decide_eq_true hb,show decide (x<2048)=true from decide_eq_true hx];simp
     have jQ:=ah (km wB hx _ hv);have ju:=ah (my.only (az.setCell wr ⟨qb,x,none⟩ (.bool (true))) hq1 hq2);have gT:=hsz;clear wB my hv;go_wp2_with fail;go_roundw
     case rel=>exact⟨x+1,by first|rfl|go_num,by omega,ju.Z,jQ.Z,by simpa using gT⟩
     first|(simp[intOf];done)|(simp[intOf];omega)
    have hb':(x:Int)<(s:Int):=by omega
    have hb2:decide ((s:Int)<=(x:Int))=false:=decide_eq_false (by omega);have hb3:decide ((x:Int)<2+(i:Int)/4)=false:=decide_eq_false (by omega);have hv:(false:Bool)=uj s i 4 γ x:=by rw[BN];unfold lf;rw[show decide (x<2+i/4)=false from decide_eq_false (by omega),show decide (s<=x)=false from decide_eq_false hb];rfl
    have jQ:=ah (km wB hx _ hv);have ju:=ah (my.only (az.setCell wr ⟨qb,x,none⟩ (.bool (false))) hq1 hq2);have gT:=hsz;clear wB my hv;go_wp2_with fail;go_roundw
    case rel=>exact⟨x+1,by first|rfl|go_num,by omega,ju.Z,jQ.Z,by simpa using gT⟩
    first|(simp[intOf];done)|(simp[intOf];omega)
   ·by_cases ha:i<=x
    ·have ha':(i:Int)<=(x:Int):=by omega
     have hv:(true:Bool)=uj s i 5 γ x:=by rw[yu];unfold lf;rw[show decide (i<=x)=true from decide_eq_true ha,show decide (x<2048)=true from decide_eq_true hx];simp
     have jQ:=ah (km wB hx _ hv);have ju:=ah (my.only (az.setCell wr ⟨qb,x,none⟩ (.bool (true))) hq1 hq2);have gT:=hsz;clear wB my hv;go_wp2_with fail;go_roundw
     case rel=>exact⟨x+1,by first|rfl|go_num,by omega,ju.Z,jQ.Z,by simpa using gT⟩
     first|(simp[intOf];done)|(simp[intOf];omega)
    have ha':¬(i:Int)<=(x:Int):=by omega
    by_cases hb:x=0
    ·subst hb
     by_cases hc:γ=0
     ·subst hc
      have hv:(true:Bool)=uj s i 5 0 0:=by rw[yu];unfold lf;rw[if_pos rfl];simp
      have jQ:=ah (km wB hx _ hv);have ju:=ah (my.only (az.setCell wr ⟨qb,0,none⟩ (.bool (true))) hq1 hq2);have gT:=hsz;clear wB my hv;go_wp2_with fail;go_roundw
      case rel=>exact⟨0+1,by first|rfl|go_num,by omega,ju.Z,jQ.Z,by simpa using gT⟩
      first|(simp[intOf];done)|(simp[intOf];omega)
     have hc':(γ==0)=false:=by rw[beq_eq_false_iff_ne];exact hc
     have hv:(false:Bool)=uj s i 5 γ 0:=by rw[yu];unfold lf;rw[if_neg hc];first|(simp;done)|(simp;omega)
     have jQ:=ah (km wB hx _ hv);have ju:=ah (my.only (az.setCell wr ⟨qb,0,none⟩ (.bool (false))) hq1 hq2);have gT:=hsz;clear wB my hv;go_wp2_with fail;go_roundw
     case rel=>exact⟨0+1,by first|rfl|go_num,by omega,ju.Z,jQ.Z,by simpa using gT⟩
     first|(simp[intOf];done)|(simp[intOf];omega)
    have hb':((x:Int)==0)=false:=by rw[beq_eq_false_iff_ne];omega
    have hv:(false:Bool)=uj s i 5 γ x:=by rw[yu];unfold lf;rw[show decide (i<=x)=false from decide_eq_false ha];by_cases hc:γ=0<;>simp[hc]<;>try omega
    have jQ:=ah (km wB hx _ hv);have ju:=ah (my.only (az.setCell wr ⟨qb,x,none⟩ (.bool (false))) hq1 hq2);have gT:=hsz;clear wB my hv;go_wp2_with fail;go_roundw
    case rel=>exact⟨x+1,by first|rfl|go_num,by omega,ju.Z,jQ.Z,by simpa using gT⟩
    first|(simp[intOf];done)|(simp[intOf];omega)
   have q4:(K==4)=false:=by rw[beq_eq_false_iff_ne];exact k4
   have q5:(K==5)=false:=by rw[beq_eq_false_iff_ne];exact k5
   have jQ:=ah (Ow wB (by rw[vW k4 k5]));have ju:=ah my;clear wB my c9 f9;go_wp2_with fail;go_roundw
   case rel=>(try((repeat apply Exists.intro);refine⟨?_,rfl⟩));exact⟨x+1,by first|rfl|go_num,by omega,ju.Z,jQ.Z,hsz⟩
   simp[intOf];omega
  obtain rfl:x=2048:=by omega
  have hrow:=Kz wB;have Zj:∀b' off,(some ⟨qb,0,none⟩:Option Addr)=some ⟨b',off,none⟩->b'<wr.heap.size:=λb' off e=>by injection e with e;injection e with e1;omega
  have Sm:=ah my;clear my wB cK cG cO g1 g2;go_wp2_with fail;refine(rz (uj s i K γ) (some ⟨qb,0,none⟩) 2048 wr hrow Zj).mono ?_;rintro e w6 ⟨rfl,m4⟩;obtain⟨z,hz⟩:=aa (bZ (uj s i K γ));have HZ:=ah hz;rw[<-hz];have Qf:=Sm.Z.below m4;clear Sm m4 hrow Zj hz;go_wp2_with (first|(refine nk rfl (.tmp 103) (.tmp 102) rfl Qf hlt z _ rfl rfl (by omega) ?_))
  intro w7 Qe;have n8:=ah Qe;clear Qf Qe;have Gu:=n8.Z.m.ge;have Xy:w7.cell? ⟨qa,b*4+3,none⟩=some (.int .i64 O):=by
   have:=(au.bQ n8.Z.m.al (qd s (i/4) j)).range b hlt;rw[Bj.Z,Nat.zero_add] at this;exact this 3 _ rfl
  have Gj:w7.rangeAt q (b*256) (Ks .u8 256 z):=by
   have:=n8.Z.m.im.bQ.range b hlt;rw[Nat.zero_add,if_pos rfl] at this;exact this
  by_cases b0:b=0
  ·have q0:((b:Int)==0)=true:=by rw[beq_iff_eq];omega
   clear Gj Xy;go_wp2_with (first|(refine aB rfl 23 (.tmp 1) rfl _ _ _ rfl Gu Tryz.underlying23 rfl (by kernel_rfl) ?_)|fail)
   refine(pb g s i j 0 (by decide) _).mono ?_;rintro e w8 ⟨rfl,oh⟩;obtain⟨y,hy⟩:=aa (oz (g:Int) s i j 0);have HY:=ah hy;rw[<-hy];have qR:=n8.Z.below oh;have OO:Hd (y=iL g s i j b):=by show _=_;rw[<-K2.Z];unfold Lk;rw[if_pos b0];exact HY.Z
   clear n8 oh hy;go_wp2_with (first|(refine nk rfl (.tmp 115) (.tmp 113) rfl qR hlt y _ rfl rfl (by omega) ?_))
   intro w9 qQ;have xm:=ah (qQ.congr (im':=Bz g s i j (b+1)) λx _=>by have h:=lK (x:=x) y z OO.Z;first|exact h|(rw[b0] at h ⊢;exact h)|(rw[b1] at h ⊢;exact h)|(rw[b2] at h ⊢;exact h));clear qR qQ;go_wp2_with fail;go_roundw
   case rel=>(try((repeat apply Exists.intro);refine⟨?_,rfl⟩));exact⟨b+1,by first|rfl|go_num,by omega,xm.Z⟩
   simp[intOf];omega
  have q0:((b:Int)==0)=false:=by rw[beq_eq_false_iff_ne];omega
  by_cases b1:b=1
  ·have q1:((b:Int)==1)=true:=by rw[beq_iff_eq];omega
   clear Gj Xy;go_wp2_with (first|(refine aB rfl 23 (.tmp 1) rfl _ _ _ rfl Gu Tryz.underlying23 rfl (by kernel_rfl) ?_)|fail)
   refine(jC g s i j (some ⟨gd,0,none⟩) g dc (PG g s i j) (Iu i) Iv (by omega) _ (au.row n8.Z.d (ss _ _ _))).mono ?_;rintro e w8 ⟨rfl,oh⟩;obtain⟨y,hy⟩:=aa (ky (g:Int) s i j g (PG g s i j) (Iu i) Iv);have HY:=ah hy;rw[<-hy];have qR:=n8.Z.below oh;have OO:Hd (y=iL g s i j b):=by show _=_;rw[<-K2.Z];unfold Lk;rw[if_neg b0,if_pos b1];exact HY.Z
   clear n8 oh hy;go_wp2_with (first|(refine nk rfl (.tmp 127) (.tmp 125) rfl qR hlt y _ rfl rfl (by omega) ?_))
   intro w9 qQ;have xm:=ah (qQ.congr (im':=Bz g s i j (b+1)) λx _=>by have h:=lK (x:=x) y z OO.Z;first|exact h|(rw[b0] at h ⊢;exact h)|(rw[b1] at h ⊢;exact h)|(rw[b2] at h ⊢;exact h));clear qR qQ;go_wp2_with fail;go_roundw
   case rel=>(try((repeat apply Exists.intro);refine⟨?_,rfl⟩));exact⟨b+1,by first|rfl|go_num,by omega,xm.Z⟩
   simp[intOf];omega
  have q1:((b:Int)==1)=false:=by rw[beq_eq_false_iff_ne];omega
  by_cases b2:b=2
  ·have q2:((b:Int)==2)=true:=by rw[beq_iff_eq];omega
   clear Gj Gu Xy;go_wp2_with (first|fail)
   refine(rq 1 0 _ (by omega) (by omega)).mono ?_;rintro e w8 ⟨rfl,oh⟩;obtain⟨y,hy⟩:=aa (lj 1 0);have HY:=ah hy;rw[<-hy];have qR:=n8.Z.below oh;have OO:Hd (y=iL g s i j b):=by show _=_;rw[<-K2.Z];unfold Lk;rw[if_neg b0,if_neg b1,if_pos b2];exact HY.Z
   clear n8 oh hy;go_wp2_with (first|(refine nk rfl (.tmp 138) (.tmp 136) rfl qR hlt y _ rfl rfl (by omega) ?_))
   intro w9 qQ;have xm:=ah (qQ.congr (im':=Bz g s i j (b+1)) λx _=>by have h:=lK (x:=x) y z OO.Z;first|exact h|(rw[b0] at h ⊢;exact h)|(rw[b1] at h ⊢;exact h)|(rw[b2] at h ⊢;exact h));clear qR qQ;go_wp2_with fail;go_roundw
   case rel=>(try((repeat apply Exists.intro);refine⟨?_,rfl⟩));exact⟨b+1,by first|rfl|go_num,by omega,xm.Z⟩
   simp[intOf];omega
  have q2:((b:Int)==2)=false:=by rw[beq_eq_false_iff_ne];omega
  by_cases hO:O=1
  ·have qO:(O==1)=true:=by rw[beq_iff_eq];exact hO
   clear Gu;go_wp2_with (first|(refine aH rfl 32 (.tmp 151) rfl q (b*256) (Ks .u8 256 z) _ rfl Gj Tryz.underlying32 rfl (by rw[bD];exact aA) ?_)|fail)
   refine(xV z (by rw[HZ.Z];exact Bc _) 0 pc Fm _ MW).mono ?_;rintro e w8 ⟨rfl,oh⟩;obtain⟨y,hy⟩:=aa (over z (0:Int).toNat 64 pc.byte);have HY:=ah hy;rw[<-hy];have qR:=n8.Z.below oh;have OO:Hd (y=iL g s i j b):=by show _=_;rw[<-K2.Z];unfold Lk;rw[if_neg b0,if_neg b1,if_neg b2,if_pos hO];rw[<-HZ.Z];exact HY.Z
   clear n8 oh hy;go_wp2_with (first|(refine nk rfl (.tmp 157) (.tmp 155) rfl qR hlt y _ rfl rfl (by omega) ?_))
   intro w9 qQ;have xm:=ah (qQ.congr (im':=Bz g s i j (b+1)) λx _=>by have h:=lK (x:=x) y z OO.Z;first|exact h|(rw[b0] at h ⊢;exact h)|(rw[b1] at h ⊢;exact h)|(rw[b2] at h ⊢;exact h));clear qR qQ;go_wp2_with fail;go_roundw
   case rel=>(try((repeat apply Exists.intro);refine⟨?_,rfl⟩));exact⟨b+1,by first|rfl|go_num,by omega,xm.Z⟩
   simp[intOf];omega
  have qO:(O==1)=false:=by rw[beq_eq_false_iff_ne];exact hO
  have xm:=ah (n8.Z.congr (im':=Bz g s i j (b+1)) λx _=>yc z (by rw[<-K2.Z];unfold Lk;rw[if_neg b0,if_neg b1,if_neg b2,if_neg hO];exact HZ.Z));clear n8 Gj Gu;go_wp2_with fail;go_roundw
  case rel=>(try((repeat apply Exists.intro);refine⟨?_,rfl⟩));exact⟨b+1,by first|rfl|go_num,by omega,xm.Z⟩
  simp[intOf];omega
 obtain rfl:n=b:=by omega
 have OE:=ah my;clear my;go_wp2_with fail
 go_ret2
 refine⟨q,by rw[<-kJ.Z];rfl,by have:=OE.Z.m.o1;have:=OE.Z.m.o2;omega,?_,OE.Z.m.bel⟩;rw[<-kJ.Z];exact OE.Z.m.im.congr λx hx=>by unfold Bz;rw[if_pos hx]
end Go.Proofs.YtphamecphmbipaaGreatDoor
