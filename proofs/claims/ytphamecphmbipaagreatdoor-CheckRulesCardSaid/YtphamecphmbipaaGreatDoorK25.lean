/- Texts of this claim, merged. -/
import Derived.Test.YtphamecphmbipaaGreatDoorK13
import Derived.Test.YtphamecphmbipaaGreatDoorK15
set_option linter.unusedVariables false
set_option maxRecDepth 100000
set_option maxHeartbeats 16000000

namespace Go.Proofs.YtphamecphmbipaaGreatDoor
open Go.RowKit
open Lib (hid)
variable {W' w:World} {p b g s i j x qa ca q gd cd qb:Nat} {im:Nat->Nat->Int} {P:Nat->Bool}
theorem zR(x y v:Int)(w:World):(Instr.buildSlice 51 1 #[(0,kp x y v)]).run Tryz.prog w= .ok (.slice (some ⟨w.heap.size,0,none⟩) 1 1) (w.alloc (.cells #[.int .i64 x,.int .i64 y,.int .i64 v] 67)):=by kernel_rfl
theorem An:(Tryz.prog.info? 4).map (λi=>(i.zero,i.size,i.bytes))=some (some (.bool false),1,1):=by kernel_rfl
theorem lC{W:World}{base k:Nat}{v:Value}{e:TypeId}{size:Nat}{xs:List Value}(h:W.ownsRow base e size v k xs)(ho:an p W W')(hp:v.ownBlock≠some p):W'.ownsRow base e size v k xs:=
 World.ownsRow.kept h (row:=some p) ⟨ho.os,ho.tape,ho.output,by rw[ho.size];exact Nat.le_refl _,λk _ hk=>ho.block k (λe=>hk (by rw[e]))⟩ (.inr hp)
structure zr(w:World)(g s i j n qa ca q:Nat)(im:Nat->Nat->Int)(W:World):Prop where
 ge:At W w.heap.size 23 (aa g s i j)
 al:ah W (w.heap.size+1) 134 4 (.slice (some ⟨qa,0,none⟩) n ca) n (gN s (i/4) j)
 im:az W q 32 256 n (λb=>Ks .u8 256 (im b))
 bel:Below w.heap.size w W
 o1:w.heap.size<qa
 o2:qa<q
section
variable {w:World} {g s i j n qa ca q:Nat} {im im':Nat->Nat->Int} {W W':World}
theorem zr.below(h:zr w g s i j n qa ca q im W)(hb:Below W.heap.size W W'):zr w g s i j n qa ca q im W':=
 ⟨h.ge.below hb h.ge.lt,ah.below h.al hb,h.im.below hb,h.bel.trans (hb.mono h.bel.size),h.o1,h.o2⟩
theorem zr.grown(h:zr w g s i j n qa ca q im W){row:Option Nat}(hg:W.grownBy W' row)(hr:∀p,row=some p->q<p):zr w g s i j n qa ca q im W':=
 ⟨h.ge.grown hg (λe=>by have:=hr _ e.symm;have:=h.o1;have:=h.o2;omega),World.ownsRow.kept h.al hg (by
   rw[show(Value.slice (some ⟨qa,0,none⟩) n ca).ownBlock=some qa from rfl];exact .inr (λe=>by have:=hr _ e.symm;have:=h.o2;omega)),h.im.grown hg (λe=>by have:=hr _ e.symm;omega),h.bel.grown hg h.bel.size (λk e=>by have:=hr k e;have:=h.o1;have:=h.o2;omega),h.o1,h.o2⟩
theorem zr.put(h:zr w g s i j n qa ca q im W)(hA:az W' q 32 256 n (λb=>Ks .u8 256 (im' b)))(ho:an q W W'):zr w g s i j n qa ca q im' W':=
 ⟨h.ge.only ho (by have:=h.o1;have:=h.o2;omega),lC h.al ho (λe=>by have e':some qa=some q:=e;injection e' with e';have:=h.o2;omega),hA,h.bel.trans (ho.below (by have:=h.o1;have:=h.o2;omega)),h.o1,h.o2⟩
theorem zr.congr(h:zr w g s i j n qa ca q im W)(e:∀b,b<n->im b=im' b):zr w g s i j n qa ca q im' W:=⟨h.ge,h.al,h.im.congr λb hb=>by rw[e b hb],h.bel,h.o1,h.o2⟩
end
structure uE(w:World)(g s i j n qa ca q:Nat)(im:Nat->Nat->Int)(gd cd:Nat)(W:World):Prop where
 m:zr w g s i j n qa ca q im W
 d:ah W (q+1) 67 3 (.slice (some ⟨gd,0,none⟩) g cd) g (df (O9 g s i j) (Hr i) Hs)
section
variable {w:World} {g s i j n qa ca q gd cd:Nat} {im im':Nat->Nat->Int} {W W':World}
theorem uE.below(h:uE w g s i j n qa ca q im gd cd W)(hb:Below W.heap.size W W'):uE w g s i j n qa ca q im gd cd W':=⟨h.m.below hb,ah.below h.d hb⟩
theorem uE.put(h:uE w g s i j n qa ca q im gd cd W)(hA:az W' q 32 256 n (λb=>Ks .u8 256 (im' b)))(ho:an q W W'):uE w g s i j n qa ca q im' gd cd W':=
 ⟨h.m.put hA ho,lC h.d ho (λe=>by have:=(World.ownsRow.lt h.d _ e).1;omega)⟩
theorem uE.congr(h:uE w g s i j n qa ca q im gd cd W)(e:∀b,b<n->im b=im' b):uE w g s i j n qa ca q im' gd cd W:=⟨h.m.congr e,h.d⟩
theorem uE.set(h:uE w g s i j n qa ca q im gd cd W)(hb:b<n)(z:Nat->Int):uE w g s i j n qa ca q (λx=>if x=b then z else im x) gd cd (W.setCells q (b*256) (Ks .u8 256 z)):=by
 have hs:=h.m.im.set hb (vs:=Ks .u8 256 z) (by simp[Ks]) (λi=>by simp[Ks]);exact h.put (hs.1.congr λx _=>by by_cases e:x=b<;>simp[e]) hs.2
end
def Bl(g s i j b x:Nat):Nat->Int:=if x<b then iw g s i j x elseλ_=>0
theorem xR(z:Nat->Int)(hz:z=iw g s i j b):(if x=b then z else Bl g s i j b x)=Bl g s i j (b+1) x:=by
 unfold Bl
 by_cases e:x=b
 ·rw[if_pos e,if_pos (by omega),e,hz]
 ·rw[if_neg e]
  by_cases e2:x<b
  ·rw[if_pos e2,if_pos (by omega)]
  ·rw[if_neg e2,if_neg (by omega)]
theorem lA(z z0:Nat->Int)(hz:z=iw g s i j b):(if x=b then z else if x=b then z0 else Bl g s i j b x)=Bl g s i j (b+1) x:=by
 rw[<-xR z hz]
 by_cases e:x=b
 ·rw[if_pos e,if_pos e]
 ·rw[if_neg e,if_neg e,if_neg e]
theorem uE.only{n:Nat}{W:World}(h:uE w g s i j n qa ca q im gd cd W)(ho:an p W W')(hp:q<p)(hd:gd<p):uE w g s i j n qa ca q im gd cd W':=
 ⟨⟨h.m.ge.only ho (by have:=h.m.o1;have:=h.m.o2;omega),lC h.m.al ho (λe=>by have e':some qa=some p:=e;injection e' with e';have:=h.m.o2;omega),h.m.im.only ho (by omega),h.m.bel.trans (ho.below (by have:=h.m.o1;have:=h.m.o2;omega)),h.m.o1,h.m.o2⟩,
  lC h.d ho (λe=>by have e':some gd=some p:=e;injection e' with e';omega)⟩
theorem mX{ops:Array Oper}{rest:List Oper}{o:Oper}{a:Act}{Q:Exit->Act->World->Prop}{n:Nat}{W:World}(hgd:o.guard=none)(x y:Operand)(ho:o.op= .store 32 x y)(h:uE w g s i j n qa ca q im gd cd W)(hb:b<n)(z:Nat->Int)(off:Nat)
  (hx:a.eval x= .pointer (some ⟨q,off,none⟩)) (hy:a.eval y=aL z) (hoff:off=b*256) (hk:∀w',uE w g s i j n qa ca q (λx=>if x=b then z else im x) gd cd w'->wpList Tryz.prog ops Q rest (a.put o.dst undef) w'):wpList Tryz.prog ops Q (o::rest) a W:=
 wpList_store_mid hgd 32 x y ho q (b*256) (Ks .u8 256 z).toArray (by rw[hx,hoff]) hy (by have:=h.m.im.there hb;simpa[Ks] using this) (a9 _) (iD _ _ _) (hk _ (h.set hb z))
structure QmD(w:World)(g s i j n qa ca q k:Nat)(v:Value)(Da:Int)(st:Mv.St)(W:World):Prop where
 m:zr w g s i j n qa ca q (λ_ _=>0) W
 s0:st.n<2->ah W (q+1) 67 3 v k (df (λ_=>Da) (λ_=>(i:Int)) (λ_=>0))
 s1:st.n=1->∀p,st.v= .slice (some ⟨p,0,none⟩) 1 1->∀x u,(df (λ_=>Da) (λ_=>(i:Int)) (λ_=>0) k)[x]? =some u->W.cell? ((⟨p,0,none⟩:Addr).add x)=some u
 s2:st.n=2->ah W (q+1) 67 3 st.v (k+1) (df (λ_=>Da) (λ_=>(i:Int)) (λ_=>0))
 z:q+1<=W.heap.size
def Eh(P:Nat->Bool)(x y:Nat):List Value:=[.bool (if y<x then P y else false)]
theorem j4{W:World}(h:az W qb 4 1 2048 (Eh P x))(hx:x<2048)(v:Bool)(hv:v=P x):az (W.setCell ⟨qb,x,none⟩ (.bool v)) qb 4 1 2048 (Eh P (x+1)):=by
 have:=h.dz hx (j:=0) (by omega) (λ_=>rfl) (.bool v);rw[Nat.mul_one,Nat.add_zero] at this;refine this.congr λy hy=> ?_
 unfold Eh
 by_cases e:y=x
 ·rw[if_pos e,if_neg (by omega),if_pos (by omega),e,hv];rfl
 ·rw[if_neg e]
  by_cases e2:y<x
  ·rw[if_pos e2,if_pos (by omega)]
  ·rw[if_neg e2,if_neg (by omega)]
theorem NY{W:World}(h:az W qb 4 1 2048 (Eh P x))(hv:P x=false):az W qb 4 1 2048 (Eh P (x+1)):=h.congr λy hy=>by
 unfold Eh
 by_cases e:y=x
 ·rw[if_neg (by omega),if_pos (by omega),e,hv]
 ·by_cases e2:y<x
  ·rw[if_pos e2,if_pos (by omega)]
  ·rw[if_neg e2,if_neg (by omega)]
theorem GD{W:World}(h:az W qb 4 1 2048 (Eh P x))(hx:x<2048):W.cell? ⟨qb,x,none⟩=some (.bool false)/\W.frozen? ⟨qb,x,none⟩=false:=by
 have h1:=h.bI x hx 0 (.bool false) (by unfold Eh;rw[if_neg (by omega)];rfl);rw[Nat.zero_add,Nat.mul_one,Nat.add_zero] at h1;have h2:=(h.there hx 0 (by omega)).2;rw[Nat.mul_one,Nat.add_zero] at h2;exact⟨h1,h2⟩
theorem J8{W:World}(h:az W qb 4 1 2048 (Eh P 2048)):cY W (some ⟨qb,0,none⟩) 1 2048 (kr P):=
 .inr ⟨qb,0,rfl,λx hx j v hj=>h.bI x hx j v (by unfold Eh;rw[if_pos hx];exact hj)⟩
theorem E3(G S I J:Int)(hm:aM G S I J=false)(w:World):
  Calls Tryz.prog 27 #[bN G S I J] w λe w'=>e= .returned (.tuple #[.slice none 0 0,.int .i64 50])/\Below w.heap.size w w':=by
 have hs0:=At.new w 23 (aa G S I J);have tZ:Hid (Below w.heap.size w (w.alloc (.cells (aa G S I J) 23))):=(Below.refl _ _).alloc (Nat.le_refl _) _;go_enter Tryz.func27,Tryz.ntmps27;go_wp2_with (first|(refine ar rfl 23 (.tmp 1) rfl _ _ _ rfl hs0 Tryz.underlying23 rfl (by kernel_rfl) ?_))
 refine(dY G S I J _).mono ?_;rintro e w1 ⟨rfl,hb1⟩;rw[hm];have HL:=hid (tZ.out.trans (hb1.mono tZ.out.size));clear hs0 tZ hb1;go_wp2_with fail
 go_ret2
 exact⟨rfl,HL.out⟩
theorem CP(g s i j:Nat)(hm:aM g s i j=true)(w:World):
  Calls Tryz.prog 27 #[bN g s i j] w λe w'=>∃q,e= .returned (.tuple #[.slice (some ⟨q,0,none⟩) (2+j+g*s) (2+j+g*s),.int .i64 0])/\RV w g s i j q w':=by
 obtain⟨h1,h2,h3,h4,h5,h6,h7,h8,h9,h10,h11⟩:=dL hm;have hs0:=At.new w 23 (aa g s i j);have tZ:Below w.heap.size w (w.alloc (.cells (aa g s i j) 23)):=(Below.refl _ _).alloc (Nat.le_refl _) _;have HM:=hid hm;clear hm;go_enter Tryz.func27,Tryz.ntmps27;go_wp2_with (first|(refine ar rfl 23 (.tmp 1) rfl _ _ _ rfl hs0 Tryz.underlying23 rfl (by kernel_rfl) ?_))
 refine(dY g s i j _).mono ?_;rintro e w1 ⟨rfl,hb1⟩;rw[HM.out];have hs1:=hs0.below hb1 hs0.lt;have lq:=hid (tZ.trans (hb1.mono tZ.size));clear hs0 tZ hb1;go_wp2_with (first|(refine ar rfl 23 (.tmp 1) rfl _ _ _ rfl hs1 Tryz.underlying23 rfl (by kernel_rfl) ?_))
 refine(nu g s i j _).mono ?_;rintro e w2 ⟨hb2,h|⟨_,v,rfl,hv⟩⟩
 ·rw[HM.out] at h;cases h.1
 simp only[Int.toNat_natCast] at hv;obtain⟨n,hn⟩:∃n,n=2+j+g*s:=⟨_,rfl⟩;have Vk:n<=2048:=by omega
 have acS:58<=n:=by have:=Nat.mul_le_mul h1 h3;omega
 have ky:=hid hn;rw[<-hn] at hv;clear hn h11;obtain⟨qa,ca,rfl,U3,U2,JD,V9⟩:=hv.nM (by omega);have Vs:=hs1.lt;have hs2:=hs1.below hb2 hs1.lt;have je:=hid (lq.out.trans (hb2.mono lq.out.size));have Pk:=hid (ah.low hv (base':=w.heap.size+1) (by omega));have hmk:=λW=>xy n Vk W
 obtain⟨q,hq⟩:∃q,q=w2.heap.size:=⟨_,rfl⟩;have eP:Hid (zr w g s i j n qa ca q (λ_ _=>0) (w2.alloc (.cells (madeCells (Ks .u8 256 λ_=>0).toArray (n*256)) 32))):=by
  rw[hq];exact⟨hs2.alloc _,ah.alloc Pk.out _,Aq w2 n,je.out.alloc je.out.size _,by omega,by omega⟩
 obtain⟨W3,hW3⟩:∃W,W=w2.alloc (.cells (madeCells (Ks .u8 256 λ_=>0).toArray (n*256)) 32):=⟨_,rfl⟩;have Q6:Hid (W3=w2.alloc (.cells (madeCells (Ks .u8 256 λ_=>0).toArray (n*256)) 32)):=hW3;have Qo:q+1<=W3.heap.size:=by rw[hW3,hq];simp
 rw[<-hW3] at eP;have HQ:=hid hq;clear hv hs1 hs2 lq je Pk hb2 hW3 hq U3 U2 Vs V9;go_wp2_with fail;rw[<-Q6.out,<-HQ.out];clear Q6 HQ hmk;have D2:Hid (∀W,Calls Tryz.prog 58 #[bN g s i j] W λe w'=>e= .returned (.int .i64 (sX g s i j))/\Below W.heap.size W w'):=λW=>qV g s i j W
 obtain⟨Da,WD⟩:∃Da,Da=sX (g:Int) s i j:=⟨_,rfl⟩;rw[<-WD] at D2;have HDD:=hid WD;clear WD;obtain⟨i0,hi0,hzz⟩:=Option.map_eq_some_iff.1 jW;simp only[Prod.mk.injEq] at hzz;obtain⟨hz0,hz1,hz2⟩:=hzz;go_loopw [6,7] (λv u wr=>∃(a:Option Addr) (c k:Nat),v= .slice a k c/\u= .int .i64 (k:Int)/\k<=g/\zr w g s i j n qa ca q (λ_ _=>0) wr/\ah wr (q+1) 67 3 (.slice a k c) k (df (λ_=>Da) (λ_=>(i:Int)) (λ_=>0))/\q+1<=wr.heap.size) (λ_ u _=>g-(intOf u).toNat)
 case atStart=>exact⟨none,0,0,rfl,rfl,Nat.zero_le _,eP.out,ah.nil _ _ _ _ _,Qo⟩
 case round=>
  clear eP Qo;obtain⟨da,dc,k,rfl,rfl,hk,st,hd,hsz⟩:=hrel;have c0:wr.cell? ⟨w.heap.size,0,none⟩=some (.int .i64 (g:Int)):=st.ge.cell (i:=0) rfl
  by_cases hlt:k<g
  ·have hlt':(k:Int)<(g:Int):=by omega
   go_wp2_with fail;clear c0;refine Mv.bs (QmD w g s i j n qa ca q k (.slice da k dc) Da) ⟨0,undef⟩ (by kernel_rfl) (by kernel_rfl) (by kernel_rfl) ⟨st.below ((Below.refl _ _).drew),λ_=>hd,(λh=>by cases h),(λh=>by cases h),hsz⟩ ?_;clear st hd hsz;intro hne;have c2:∀y:aT (λW=>∃t,QmD w g s i j n qa ca q k (.slice da k dc) Da t W),y.W.cell? ⟨w.heap.size,2,none⟩=some (.int .i64 (i:Int)):=λy=>by obtain⟨_,h⟩:=y.h;exact h.m.ge.cell (i:=2) rfl
   (refine Mv.aO 2 (by kernel_rfl) ?_;simp only[List.take,List.drop])
   go_big_quiet_step (fail)
   refine aH rfl 23 (.tmp 1) rfl _ _ rfl (aa g s i j).toList _ (λW h=>by obtain⟨_,h⟩:=h;exact h.m.ge.range) Tryz.underlying23 rfl (by kernel_rfl) ?_;refine ae ?_;refine wpQuiet_nil ?_;refine Mv.bR rfl rfl 58 #[bN g s i j] (.int .i64 Da) ⟨0,undef⟩ (λW=>by kernel_rfl) (λW hW=> ?c0) ?_
   case c0=>exact(D2.out W).mono λe w' h=>⟨h.1,hW.m.below h.2,λh0=>ah.below (hW.s0 h0) h.2,(λh=>by cases h),(λh=>by cases h),by have:=hW.z;have:=h.2.size;omega⟩
   refine Mv.frame ?_
   (refine Mv.aO 3 (by kernel_rfl) ?_;simp only[List.take,List.drop])
   iterate 3 go_big_quiet_step (fail)
   refine wpQuiet_nil ?_;refine Mv.jS rfl _ _ _ _ rfl λW hW=>⟨_,_,⟨1,.slice (some ⟨W.heap.size,0,none⟩) 1 1⟩,zR _ _ _ W,?_,?_⟩
   ·refine⟨hW.m.below ((Below.refl _ _).alloc (Nat.le_refl _) _),λ_=>ah.alloc (hW.s0 (by decide)) _,?_,(λh=>by cases h),by have:=hW.z;simp;omega⟩
    rintro _ p hp;injection hp with h1 h2 h3;injection h1 with h1;injection h1 with h1;subst h1
    exact ez W (df (λ_=>Da) (λ_=>(i:Int)) (λ_=>0) k) _
   generalize W.heap.size=g0 at*;clear hW;refine Mv.frame ?_;refine Mv.jT rfl _ _ _ rfl λW hW=> ?_
   have hown:=hW.s0 (by show(1:Nat)<2;decide);obtain⟨v',w',hr,ho,hg,_⟩:=run_append_own (P:=Tryz.prog) W (q+1) 51 51 67 i0 (kp 0 0 0) 3 24 Tryz.underlying51 hi0 hz0 hz1 hz2 rfl (by decide) (.slice da k dc) k (Cs (df (λ_=>Da) (λ_=>(i:Int)) (λ_=>0)) k) hown ⟨g0,0,none⟩ 1 1 (df (λ_=>Da) (λ_=>(i:Int)) (λ_=>0) k) rfl
    (hW.s1 rfl g0 rfl) (Gx _ _ _ k) (by unfold maxLen;omega) (by omega) hW.z
   refine⟨v',w',⟨2,v'⟩,hr,?_,?_⟩
   ·have lG:∀p,(Value.slice da k dc).ownBlock=some p->q+1<=p:=λp hp=>(World.ownsRow.lt hown p hp).1
    exact⟨hW.m.grown hg (λp e=>by have:=lG p e;omega),(λh=>absurd h (by show¬(2:Nat)<2;decide)),(λh=>by cases h),λ_=>ah.append ho (by rfl),by have:=hW.z;have:=hg.size;omega⟩
   clear hr ho hg hW hown;refine Mv.frame ?_
   (refine Mv.aO 1 (by kernel_rfl) ?_;simp only[List.take,List.drop])
   go_big_quiet_step (fail)
   refine wpQuiet_nil ?_;refine Mv.bu ?_;intro w9 h9;have Hl:=h9.s2 rfl;obtain⟨da9,dc9,rfl⟩:=ah.form Hl;have nW:=hid h9.m;have Ov:=hid Hl;have Qj:=h9.z;clear h9 hne c2 Hl;go_wp2_with fail;go_roundw
   case rel=>(try((repeat apply Exists.intro);refine⟨?_,rfl⟩));exact⟨da9,dc9,k+1,rfl,by first|rfl|go_num,by omega,nW.out,Ov.out,Qj⟩
   case measure=>simp[intOf];omega
  ·obtain rfl:g=k:=by omega
   obtain⟨gd,cd,hv,hgd,VN,rK,V2⟩:=hd.nM (by omega);injection hv with hv1 hv2 hv3
   subst hv1 hv3;have b1:wr.cell? ⟨gd,1,none⟩=some (.int .i64 (i:Int)):=by
    have:=ah.bI hd (rW _ _ _) 0 (by omega) 1 (.int .i64 (i:Int)) rfl;simpa using this
   have b2:wr.cell? ⟨gd,2,none⟩=some (.int .i64 0):=by
    have:=ah.bI hd (rW _ _ _) 0 (by omega) 2 (.int .i64 0) rfl;simpa using this
   have f1:wr.frozen? ⟨gd,1,none⟩=false:=World.ownsRow.frozenAt hd 1;have f2:wr.frozen? ⟨gd,2,none⟩=false:=World.ownsRow.frozenAt hd 2;have c2:wr.cell? ⟨w.heap.size,2,none⟩=some (.int .i64 (i:Int)):=st.ge.cell (i:=2) rfl;have e1:IntKind.i64.wrap ((i:Int)-1)=(i:Int)-1:=IntWalk.i64_in _ (by omega);have y1:=World.ownsRow.stored hd 1 (.int .i64 ((i:Int)-1));have y2:=World.ownsRow.stored y1.1 2 (.int .i64 1);have STL:Hid (uE w g s i j n qa ca q (Bl g s i j 0) gd dc ((wr.setCell ⟨gd,1,none⟩ (.int .i64 ((i:Int)-1))).setCell ⟨gd,2,none⟩ (.int .i64 1))):=by
    refine⟨((st.grown y1.2 (λp e=>by injection e with e;omega)).grown y2.2 (λp e=>by injection e with e;omega)).congr λb _=>rfl,?_⟩;have:=y2.1;rw[G9 Da i g h1,HDD.out] at this;exact this
   have hg0:(0:Int)<(g:Int):=by omega
   have ord:gd<((wr.setCell ⟨gd,1,none⟩ (.int .i64 ((i:Int)-1))).setCell ⟨gd,2,none⟩ (.int .i64 1)).heap.size:=by simpa using VN
   clear y1 y2 hd st V2;go_wp2_with fail;clear b1 b2 f1 f2 c2 c0;have HSD:Hid (∀W,(Instr.makeSlice 132 (.int .i64 2048) (.int .i64 2048)).run Tryz.prog W= .ok (.slice (some ⟨W.heap.size,0,none⟩) 2048 2048) (W.alloc (.cells (madeCells (Value.bool false).cells (2048*1)) 4))):=λW=>dg (P:=Tryz.prog) 132 4 (.bool false) 1 1 Tryz.underlying132 An .i64 .i64 2048 (by omega) (by omega) W
   obtain⟨BC,WI⟩:∃BC,BC=madeCells (Value.bool false).cells (2048*1):=⟨_,rfl⟩;rw[<-WI] at HSD;have HBC:=hid WI;clear WI;go_loopw [8,9,10] (λu _ _ wr=>∃b:Nat,u= .int .i64 (b:Int)/\b<=n/\uE w g s i j n qa ca q (Bl g s i j b) gd dc wr) (λu _ _ _=>n-(intOf u).toNat)
   case atStart=>exact⟨0,rfl,Nat.zero_le _,STL.out⟩
   case round=>
    clear STL ord;obtain⟨b,rfl,kU,mj⟩:=hrel
    by_cases hlt:b<n
    ·have hlt':(b:Int)<(n:Int):=by omega
     have bb0:(0:Int)<=(b:Int):=by omega
     obtain⟨K,γ,A,O,gn,⟨Zm,hK2⟩,hrf⟩:=Md HM.out (b:=b) (by have:=ky.out;omega);have Sh:=hid hrf;have A4:=hid gn;have hmb:=HSD.out;obtain⟨qb,Qy⟩:∃qb,qb=wr.heap.size:=⟨_,rfl⟩;have Nw:az (wr.alloc (.cells BC 4)) qb 4 1 2048 (Eh (tS s i K γ) 0):=by
      rw[Qy,HBC.out];exact(az.made (m:=1) wr (Value.bool false).cells rfl (by omega) 2048 4).congr λy _=>rfl
     have hq1:q<qb:=by rw[Qy];exact mj.m.im.lt
     have hq2:gd<qb:=by rw[Qy];exact(World.ownsRow.lt mj.d gd rfl).2
     have Pu:=hid (mj.below ((Below.refl wr.heap.size wr).alloc (Nat.le_refl _) (.cells BC 4)));have Oy:=hid Nw;have M4:qb<(wr.alloc (.cells BC 4)).heap.size:=Nw.lt;obtain⟨W4,OX⟩:∃W4,W4=wr.alloc (.cells BC 4):=⟨_,rfl⟩;have HW4:=hid OX;have HQB:=hid Qy;rw[<-OX] at Pu Oy M4;clear mj Nw OX Qy hrf gn;go_wp2_with fail;rw[<-HW4.out,<-HQB.out];clear HW4 HQB hmb;obtain⟨t4,ht4⟩:∃t4,t4=i/4:=⟨_,rfl⟩;have acz:(i:Int).tdiv 4=(t4:Int):=by rw[Int.tdiv_eq_ediv_of_nonneg (by omega)];omega
     have acq:t4<=16:=by omega
     go_loopw [10] (λu wq=>∃x:Nat,u= .int .i64 (x:Int)/\x<=2048/\uE w g s i j n qa ca q (Bl g s i j b) gd dc wq/\az wq qb 4 1 2048 (Eh (tS s i K γ) x)/\qb<wq.heap.size) (λu _=>2048-(intOf u).toNat)
     case atStart=>exact⟨0,rfl,Nat.zero_le _,Pu.out,Oy.out,M4⟩
     case round=>
      clear Pu Oy M4;obtain⟨x,rfl,hx2,mj,vV,hsz⟩:=hrel;have hrow:wr.rangeAt qa (b*4) (tv K γ A O):=by
       have:=(ah.bI mj.m.al (pL s (i/4) j)).range b hlt;rw[A4.out,Nat.zero_add] at this;exact this
      have cK:wr.cell? ⟨qa,b*4,none⟩=some (.int .u8 K):=hrow 0 _ rfl;have cG:wr.cell? ⟨qa,b*4+1,none⟩=some (.int .i64 γ):=hrow 1 _ rfl;have cO:wr.cell? ⟨qa,b*4+3,none⟩=some (.int .i64 O):=hrow 3 _ rfl;have g1:wr.cell? ⟨w.heap.size,1,none⟩=some (.int .i64 (s:Int)):=mj.m.ge.cell (i:=1) rfl;have g2:wr.cell? ⟨w.heap.size,2,none⟩=some (.int .i64 (i:Int)):=mj.m.ge.cell (i:=2) rfl;clear hrow;have n1:¬qa=qb:=by have:=mj.m.o2;omega
      have n2:¬qb=qa:=by omega
      have n3:¬w.heap.size=qb:=by have:=mj.m.o2;have:=mj.m.o1;omega
      have n4:¬qb=w.heap.size:=by omega
      by_cases hx:x<2048
      ·have hx':(x:Int)<2048:=by omega
       have x0:(0:Int)<=(x:Int):=by omega
       obtain⟨c9,f9⟩:=GD vV hx;have yr:K=4\/K=5\/(K≠4/\K≠5):=by omega
       rcases yr with rfl|rfl|⟨k4,k5⟩
       ·by_cases ha:x<2+t4
        ·have ha':(x:Int)<2+(t4:Int):=by omega
         have hv:(true:Bool)=tS s i 4 γ x:=by rw[Bz];unfold kQ;rw[show decide (x<2+i/4)=true from decide_eq_true (by omega)];rfl
         have j7:=hid (j4 vV hx _ hv);have je:=hid (mj.only (an.setCell wr ⟨qb,x,none⟩ (.bool (true))) hq1 hq2);have gI:=hsz;clear vV mj hv;go_wp2_with fail;go_roundw
         case rel=>exact⟨x+1,by first|rfl|go_num,by omega,je.out,j7.out,by simpa using gI⟩
         case measure=>first|(simp[intOf];done)|(simp[intOf];omega)
        have ha':¬(x:Int)<2+(t4:Int):=by omega
        by_cases hb:s<=x
        ·have hb':(s:Int)<=(x:Int):=by omega
         have hv:(true:Bool)=tS s i 4 γ x:=by rw[Bz];unfold kQ;rw[show decide (s<=x)=true from decide_eq_true hb,show decide (x<2048)=true from decide_eq_true hx];simp
         have j7:=hid (j4 vV hx _ hv);have je:=hid (mj.only (an.setCell wr ⟨qb,x,none⟩ (.bool (true))) hq1 hq2);have gI:=hsz;clear vV mj hv;go_wp2_with fail;go_roundw
         case rel=>exact⟨x+1,by first|rfl|go_num,by omega,je.out,j7.out,by simpa using gI⟩
         case measure=>first|(simp[intOf];done)|(simp[intOf];omega)
        have hb':(x:Int)<(s:Int):=by omega
        have hb2:decide ((s:Int)<=(x:Int))=false:=decide_eq_false (by omega);have hb3:decide ((x:Int)<2+(i:Int)/4)=false:=decide_eq_false (by omega);have hv:(false:Bool)=tS s i 4 γ x:=by rw[Bz];unfold kQ;rw[show decide (x<2+i/4)=false from decide_eq_false (by omega),show decide (s<=x)=false from decide_eq_false hb];rfl
        have j7:=hid (j4 vV hx _ hv);have je:=hid (mj.only (an.setCell wr ⟨qb,x,none⟩ (.bool (false))) hq1 hq2);have gI:=hsz;clear vV mj hv;go_wp2_with fail;go_roundw
        case rel=>exact⟨x+1,by first|rfl|go_num,by omega,je.out,j7.out,by simpa using gI⟩
        case measure=>first|(simp[intOf];done)|(simp[intOf];omega)
       ·by_cases ha:i<=x
        ·have ha':(i:Int)<=(x:Int):=by omega
         have hv:(true:Bool)=tS s i 5 γ x:=by rw[x8];unfold kQ;rw[show decide (i<=x)=true from decide_eq_true ha,show decide (x<2048)=true from decide_eq_true hx];simp
         have j7:=hid (j4 vV hx _ hv);have je:=hid (mj.only (an.setCell wr ⟨qb,x,none⟩ (.bool (true))) hq1 hq2);have gI:=hsz;clear vV mj hv;go_wp2_with fail;go_roundw
         case rel=>exact⟨x+1,by first|rfl|go_num,by omega,je.out,j7.out,by simpa using gI⟩
         case measure=>first|(simp[intOf];done)|(simp[intOf];omega)
        have ha':¬(i:Int)<=(x:Int):=by omega
        by_cases hb:x=0
        ·subst hb
         by_cases hc:γ=0
         ·subst hc
          have hv:(true:Bool)=tS s i 5 0 0:=by rw[x8];unfold kQ;rw[if_pos rfl];simp
          have j7:=hid (j4 vV hx _ hv);have je:=hid (mj.only (an.setCell wr ⟨qb,0,none⟩ (.bool (true))) hq1 hq2);have gI:=hsz;clear vV mj hv;go_wp2_with fail;go_roundw
          case rel=>exact⟨0+1,by first|rfl|go_num,by omega,je.out,j7.out,by simpa using gI⟩
          case measure=>first|(simp[intOf];done)|(simp[intOf];omega)
         have hc':(γ==0)=false:=by rw[beq_eq_false_iff_ne];exact hc
         have hv:(false:Bool)=tS s i 5 γ 0:=by rw[x8];unfold kQ;rw[if_neg hc];first|(simp;done)|(simp;omega)
         have j7:=hid (j4 vV hx _ hv);have je:=hid (mj.only (an.setCell wr ⟨qb,0,none⟩ (.bool (false))) hq1 hq2);have gI:=hsz;clear vV mj hv;go_wp2_with fail;go_roundw
         case rel=>exact⟨0+1,by first|rfl|go_num,by omega,je.out,j7.out,by simpa using gI⟩
         case measure=>first|(simp[intOf];done)|(simp[intOf];omega)
        have hb':((x:Int)==0)=false:=by rw[beq_eq_false_iff_ne];omega
        have hv:(false:Bool)=tS s i 5 γ x:=by rw[x8];unfold kQ;rw[show decide (i<=x)=false from decide_eq_false ha];by_cases hc:γ=0<;>simp[hc]<;>try omega
        have j7:=hid (j4 vV hx _ hv);have je:=hid (mj.only (an.setCell wr ⟨qb,x,none⟩ (.bool (false))) hq1 hq2);have gI:=hsz;clear vV mj hv;go_wp2_with fail;go_roundw
        case rel=>exact⟨x+1,by first|rfl|go_num,by omega,je.out,j7.out,by simpa using gI⟩
        case measure=>first|(simp[intOf];done)|(simp[intOf];omega)
       ·have q4:(K==4)=false:=by rw[beq_eq_false_iff_ne];exact k4
        have q5:(K==5)=false:=by rw[beq_eq_false_iff_ne];exact k5
        have j7:=hid (NY vV (by rw[vJ k4 k5]));have je:=hid mj;clear vV mj c9 f9;go_wp2_with fail;go_roundw
        case rel=>(try((repeat apply Exists.intro);refine⟨?_,rfl⟩));exact⟨x+1,by first|rfl|go_num,by omega,je.out,j7.out,hsz⟩
        case measure=>simp[intOf];omega
      ·obtain rfl:x=2048:=by omega
       have hrow:=J8 vV;have YM:∀b' off,(some ⟨qb,0,none⟩:Option Addr)=some ⟨b',off,none⟩->b'<wr.heap.size:=λb' off e=>by injection e with e;injection e with e1;omega
       have RO:=hid mj;clear mj vV cK cG cO g1 g2;go_wp2_with fail;refine(qW (tS s i K γ) (some ⟨qb,0,none⟩) 2048 wr hrow YM).mono ?_;rintro e w6 ⟨rfl,kx⟩;obtain⟨z,hz⟩:∃z,z=bZ (tS s i K γ):=⟨_,rfl⟩;have HZ:=hid hz;rw[<-hz];have PM:=RO.out.below kx;clear RO kx hrow YM hz;go_wp2_with (first|(refine mX rfl (.tmp 103) (.tmp 102) rfl PM hlt z _ rfl rfl (by omega) ?_))
       intro w7 PL;have nQ:=hid PL;clear PM PL;have F7:=nQ.out.m.ge;have WS:w7.cell? ⟨qa,b*4+3,none⟩=some (.int .i64 O):=by
        have:=(ah.bI nQ.out.m.al (pL s (i/4) j)).range b hlt;rw[A4.out,Nat.zero_add] at this;exact this 3 _ rfl
       have FW:w7.rangeAt q (b*256) (Ks .u8 256 z):=by
        have:=nQ.out.m.im.bI.range b hlt;rw[Nat.zero_add,if_pos rfl] at this;exact this
       by_cases b0:b=0
       ·have q0:((b:Int)==0)=true:=by rw[beq_iff_eq];omega
        clear FW WS;go_wp2_with (first|(refine ar rfl 23 (.tmp 1) rfl _ _ _ rfl F7 Tryz.underlying23 rfl (by kernel_rfl) ?_)|fail)
        refine(oP g s i j 0 (by decide) _).mono ?_;rintro e w8 ⟨rfl,nV⟩;obtain⟨y,hy⟩:∃y,y=n7 (g:Int) s i j 0:=⟨_,rfl⟩;have HY:=hid hy;rw[<-hy];have qB:=nQ.out.below nV;have Og:Hid (y=iw g s i j b):=by show _=_;rw[<-Sh.out];unfold KS;rw[if_pos b0];exact HY.out
        clear nQ nV hy;go_wp2_with (first|(refine mX rfl (.tmp 115) (.tmp 113) rfl qB hlt y _ rfl rfl (by omega) ?_))
        intro w9 qA;have wR:=hid (qA.congr (im':=Bl g s i j (b+1)) λx _=>by have h:=lA (x:=x) y z Og.out;first|exact h|(rw[b0] at h ⊢;exact h)|(rw[b1] at h ⊢;exact h)|(rw[b2] at h ⊢;exact h));clear qB qA;go_wp2_with fail;go_roundw
        case rel=>(try((repeat apply Exists.intro);refine⟨?_,rfl⟩));exact⟨b+1,by first|rfl|go_num,by omega,wR.out⟩
        case measure=>simp[intOf];omega
       have q0:((b:Int)==0)=false:=by rw[beq_eq_false_iff_ne];omega
       by_cases b1:b=1
       ·have q1:((b:Int)==1)=true:=by rw[beq_iff_eq];omega
        clear FW WS;go_wp2_with (first|(refine ar rfl 23 (.tmp 1) rfl _ _ _ rfl F7 Tryz.underlying23 rfl (by kernel_rfl) ?_)|fail)
        refine(jl g s i j (some ⟨gd,0,none⟩) g dc (O9 g s i j) (Hr i) Hs (by omega) _ (ah.row nQ.out.d (rW _ _ _))).mono ?_;rintro e w8 ⟨rfl,nV⟩;obtain⟨y,hy⟩:∃y,y=kh (g:Int) s i j g (O9 g s i j) (Hr i) Hs:=⟨_,rfl⟩;have HY:=hid hy;rw[<-hy];have qB:=nQ.out.below nV;have Og:Hid (y=iw g s i j b):=by show _=_;rw[<-Sh.out];unfold KS;rw[if_neg b0,if_pos b1];exact HY.out
        clear nQ nV hy;go_wp2_with (first|(refine mX rfl (.tmp 127) (.tmp 125) rfl qB hlt y _ rfl rfl (by omega) ?_))
        intro w9 qA;have wR:=hid (qA.congr (im':=Bl g s i j (b+1)) λx _=>by have h:=lA (x:=x) y z Og.out;first|exact h|(rw[b0] at h ⊢;exact h)|(rw[b1] at h ⊢;exact h)|(rw[b2] at h ⊢;exact h));clear qB qA;go_wp2_with fail;go_roundw
        case rel=>(try((repeat apply Exists.intro);refine⟨?_,rfl⟩));exact⟨b+1,by first|rfl|go_num,by omega,wR.out⟩
        case measure=>simp[intOf];omega
       have q1:((b:Int)==1)=false:=by rw[beq_eq_false_iff_ne];omega
       by_cases b2:b=2
       ·have q2:((b:Int)==2)=true:=by rw[beq_iff_eq];omega
        clear FW F7 WS;go_wp2_with (first|fail)
        refine(qT 1 0 _ (by omega) (by omega)).mono ?_;rintro e w8 ⟨rfl,nV⟩;obtain⟨y,hy⟩:∃y,y=kT 1 0:=⟨_,rfl⟩;have HY:=hid hy;rw[<-hy];have qB:=nQ.out.below nV;have Og:Hid (y=iw g s i j b):=by show _=_;rw[<-Sh.out];unfold KS;rw[if_neg b0,if_neg b1,if_pos b2];exact HY.out
        clear nQ nV hy;go_wp2_with (first|(refine mX rfl (.tmp 138) (.tmp 136) rfl qB hlt y _ rfl rfl (by omega) ?_))
        intro w9 qA;have wR:=hid (qA.congr (im':=Bl g s i j (b+1)) λx _=>by have h:=lA (x:=x) y z Og.out;first|exact h|(rw[b0] at h ⊢;exact h)|(rw[b1] at h ⊢;exact h)|(rw[b2] at h ⊢;exact h));clear qB qA;go_wp2_with fail;go_roundw
        case rel=>(try((repeat apply Exists.intro);refine⟨?_,rfl⟩));exact⟨b+1,by first|rfl|go_num,by omega,wR.out⟩
        case measure=>simp[intOf];omega
       have q2:((b:Int)==2)=false:=by rw[beq_eq_false_iff_ne];omega
       by_cases hO:O=1
       ·have qO:(O==1)=true:=by rw[beq_iff_eq];exact hO
        clear F7;go_wp2_with (first|(refine aB rfl 32 (.tmp 151) rfl q (b*256) (Ks .u8 256 z) _ rfl FW Tryz.underlying32 rfl (by rw[bD];exact au) ?_)|fail)
        refine(xC z (by rw[HZ.out];exact AV _) 0 oQ EZ _ Ms).mono ?_;rintro e w8 ⟨rfl,nV⟩;obtain⟨y,hy⟩:∃y,y=over z (0:Int).toNat 64 oQ.byte:=⟨_,rfl⟩;have HY:=hid hy;rw[<-hy];have qB:=nQ.out.below nV;have Og:Hid (y=iw g s i j b):=by show _=_;rw[<-Sh.out];unfold KS;rw[if_neg b0,if_neg b1,if_neg b2,if_pos hO];rw[<-HZ.out];exact HY.out
        clear nQ nV hy;go_wp2_with (first|(refine mX rfl (.tmp 157) (.tmp 155) rfl qB hlt y _ rfl rfl (by omega) ?_))
        intro w9 qA;have wR:=hid (qA.congr (im':=Bl g s i j (b+1)) λx _=>by have h:=lA (x:=x) y z Og.out;first|exact h|(rw[b0] at h ⊢;exact h)|(rw[b1] at h ⊢;exact h)|(rw[b2] at h ⊢;exact h));clear qB qA;go_wp2_with fail;go_roundw
        case rel=>(try((repeat apply Exists.intro);refine⟨?_,rfl⟩));exact⟨b+1,by first|rfl|go_num,by omega,wR.out⟩
        case measure=>simp[intOf];omega
       have qO:(O==1)=false:=by rw[beq_eq_false_iff_ne];exact hO
       have wR:=hid (nQ.out.congr (im':=Bl g s i j (b+1)) λx _=>xR z (by rw[<-Sh.out];unfold KS;rw[if_neg b0,if_neg b1,if_neg b2,if_neg hO];exact HZ.out));clear nQ FW F7;go_wp2_with fail;go_roundw
       case rel=>(try((repeat apply Exists.intro);refine⟨?_,rfl⟩));exact⟨b+1,by first|rfl|go_num,by omega,wR.out⟩
       case measure=>simp[intOf];omega
    ·obtain rfl:n=b:=by omega
     have N6:=hid mj;clear mj;go_wp2_with fail
     go_ret2
     refine⟨q,by rw[<-ky.out];rfl,by have:=N6.out.m.o1;have:=N6.out.m.o2;omega,?_,N6.out.m.bel⟩;rw[<-ky.out];exact N6.out.m.im.congr λx hx=>by unfold Bl;rw[if_pos hx]
end Go.Proofs.YtphamecphmbipaaGreatDoor
