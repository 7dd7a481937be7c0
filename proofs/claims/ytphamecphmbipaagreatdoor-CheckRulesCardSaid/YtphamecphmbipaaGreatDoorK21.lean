/- Texts of this claim, merged. -/
import Derived.Test.YtphamecphmbipaaGreatDoorK19
set_option linter.unusedVariables false
set_option maxRecDepth 100000
set_option maxHeartbeats 16000000

namespace Go.Proofs.YtphamecphmbipaaGreatDoor
open Go.RowKit
open Lib (hid)
variable {T:TypeId} {w W' w':World} {z:Nat->Int} {X b off m g:Nat} {x y:aK} {f:Nat->List Value}
section
open Go.Shelf
attribute [local go_sem] Oper.semAt_some
structure G5(w:World)(z:Nat->Int)(W:World):Prop where
 b:aQ W w.heap.size 32 256 z
 i:aY W (w.heap.size+1) 63 .nil
 bel:Below w.heap.size w W
theorem o8(w:World)(z:Nat->Int):G5 w z ((w.alloc (.cells (Ks .u8 256 z).toArray 32)).alloc (.cells aK.nil.arr 63)):=by
 refine⟨(aQ.new _ _ _ _).alloc _,?_,((Below.refl _ _).alloc (Nat.le_refl _) _).alloc (by simp) _⟩;have:=aY.new (w.alloc (.cells (Ks .u8 256 z).toArray 32)) .nil;simp only[World.size_alloc] at this;exact this
theorem DI(z:Nat->Int)(i k:Nat):g16 (λj=>z (i+j)) k=g16 z (i+k):=by unfold g16;simp only[Nat.add_assoc]
theorem ue(z:Nat->Int)(i k:Nat):b9 (λj=>z (i+j)) k=b9 z (i+k):=by unfold b9;simp only[Nat.add_assoc]
theorem PV(g i:Nat)(z:Nat->Int)(hz:bm z)(k:Nat)(K:Int)(w:World)(hK:K=(k:Int))(hk:k+2<=64)(hi:i<=192)(hB:aQ w g T 256 z):
  Calls Tryz.prog 50 #[.slice (some ⟨g,i,none⟩) 64 (256-i),.int .i64 K] w λe w'=>e= .returned (.tuple #[.int .u32 (g16 z (i+k)),.bool true])/\w=w':=by
 subst hK;have hseg:Seg w g i 64 (λj=>z (i+j)):=by have:=hB.bI.sub i 64 (by omega);rwa[Nat.zero_add] at this
 have:=ud g i 64 (256-i) k _ w (by omega) (by omega) (by omega) hseg (λj=>hz _);rwa[Int.toNat_natCast,DI] at this
theorem Fj(g i:Nat)(z:Nat->Int)(hz:bm z)(k:Nat)(K:Int)(w:World)(hK:K=(k:Int))(hk:k+4<=64)(hi:i<=192)(hB:aQ w g T 256 z):
  Calls Tryz.prog 51 #[.slice (some ⟨g,i,none⟩) 64 (256-i),.int .i64 K] w λe w'=>e= .returned (.tuple #[.int .u32 (b9 z (i+k)),.bool true])/\w=w':=by
 subst hK;have hseg:Seg w g i 64 (λj=>z (i+j)):=by have:=hB.bI.sub i 64 (by omega);rwa[Nat.zero_add] at this
 have:=g7 g i 64 (256-i) k _ w (by omega) (by omega) (by omega) hseg (λj=>hz _);rwa[Int.toNat_natCast,ue] at this
structure dX(w:World)(z:Nat->Int)(X:Nat)(x:aK)(W:World):Prop where
 b:aQ W w.heap.size 32 256 z
 r:aY W (w.heap.size+1) 63 .nil
 x:aY W X 63 x
 bel:Below w.heap.size w W
theorem dX.set{W:World}(h:dX w z X x W)(j:Nat)(v:Value)(hX:w.heap.size+1<X)(hy:x.arr.setIfInBounds j v=y.arr):dX w z X y (W.setCell ⟨X,j,none⟩ v):=by
 have ho:=an.setCell W ⟨X,j,none⟩ v;exact⟨h.b.only ho (by simp;omega),h.r.only ho (by simp;omega),h.x.set j v hy,h.bel.trans (ho.below (by simp;omega))⟩
theorem dX.below{W:World}(h:dX w z X x W)(hb:Below W.heap.size W W'):dX w z X x W':=
 ⟨h.b.below hb h.b.lt,h.r.below hb h.r.lt,h.x.below hb h.x.lt,h.bel.trans (hb.mono h.bel.size)⟩
theorem dX.local{B:Nat}(h1:w.heap.size+1<B)(hX:X<B):aw B (dX w z X x):=λA C hs hg=>
 ⟨aw.heap _ (by omega) A C hs.b hg,aw.heap _ h1 A C hs.r hg,aw.heap _ hX A C hs.x hg,aw.below w (by omega) (Nat.le_refl _) A C hs.bel hg⟩
theorem Aj(z:Nat->Int)(hz:bm z)(a:Int)(w:World)(h0:-9223372036854775808<=a)(h1:a<=9223372036854775807):
  Calls Tryz.prog 21 #[aL z,.int .i64 a] w λe w'=>e= .returned (.tuple #[(dP z a).val,.int .i64 (dQ z a)])/\Below w.heap.size w w':=by
 refine(callsIn_wide (n:=5)).1 (callsIn_of_wp_marks Tryz.func21 rfl trivial ?_ rfl);refine wpIn_wide.2 ?_;simp only[Tryz.ntmps21,List.size_toArray,List.length_cons,List.length_nil,Nat.reduceAdd,Nat.reduceSub,Array.replicate_succ,Array.replicate_zero,List.push_toArray,List.append_toArray,List.nil_append,List.cons_append];have hal:=gq;go_wp2_with fail;refine((CX a _ h0 h1).mono (R':=λe w'=>e= .returned (.bool (bX a))/\G5 w z w') (λe w' h=>⟨h.1,h.2▸o8 w z⟩)).mono ?_;rintro e w1 ⟨rfl,hf⟩;clear hal
 by_cases hp:bX a=true
 rotate_left
 ·rw[Bool.not_eq_true] at hp
  have HP:=hid hp;rw[hp];clear hp;go_wp2_with (first|(refine bp rfl (.tmp 4) (.tmp 17) rfl (w.heap.size+1) .nil .nil rfl rfl hf.i ?_))
  intro w2 hi2 er;go_wp2_with fail;refine dV (cE rfl _ _ (w.heap.size+1) .nil rfl hi2) ⟨?_,hf.bel.trans (er.below (by omega))⟩;rw[dP,dQ,HP.out];rfl
 have HP:=hid hp;have hpl:=(eo a).1 hp;rw[hp];have ha0:0<=a:=by omega
 have ha1:a<=192:=by omega
 clear hp hpl;obtain⟨i,rfl⟩:=Int.eq_ofNat_of_zero_le ha0;have hsl:=λW=>bU w.heap.size 0 i (i+64) (i:Int) ((i:Int)+64) rfl (by omega) (by omega) (by omega) (by omega) W
 simp only[Nat.zero_add,Nat.add_sub_cancel_left] at hsl;have hs2:=λW=>qK (some ⟨w.heap.size,i,none⟩) 64 (256-i) 60 60 rfl (by omega) W
 have c1:w1.cell? ⟨w.heap.size,i+1,none⟩=some (.int .u8 (z (i+1))):=by have:=hf.b.bI (i+1) (by omega);rwa[Nat.zero_add] at this
 by_cases hv:z (i+1)=0
 rotate_left
 ·have q1:(z (i+1) !=0)=true:=by simpa using hv
  have hg:Hid (dO z i=false):=by show _=_;unfold dO;simp[hv]
  clear hv hs2;have hf':=hf.i;go_wp2_with (first|(refine bp rfl (.tmp 4) (.tmp 32) rfl (w.heap.size+1) .nil .nil rfl rfl hf' ?_))
  intro w2 hi2 er;go_wp2_with fail;refine dV (cE rfl _ _ (w.heap.size+1) .nil rfl hi2) ⟨?_,hf.bel.trans (er.below (by omega))⟩;rw[dP,dQ,HP.out,Int.toNat_natCast,hg.out];rfl
 have q1:(z (i+1) !=0)=false:=by simpa using hv
 have HV:=hid hv;clear hv;have hseg:Seg w1 w.heap.size i 64 (λj=>z (i+j)):=by have:=hf.b.bI.sub i 64 (by omega);rwa[Nat.zero_add] at this
 have hrow:Row w1 (zM (some ⟨w.heap.size,i,none⟩) 60 (256-i)) (64-60) (λj=>(λj=>z (i+j)) (60+j)):=Row.slice (.inr ⟨_,_,rfl,hseg⟩) (by omega) (by omega);have HR:=hid hrow;clear hrow;generalize zM (some ⟨w.heap.size,i,none⟩) 60 (256-i)=Uj at hs2 HR;go_wp2_with fail;refine(mV Uj _ _ _ _ (by omega) (by exact HR.out)).mono ?_;rintro e w2 ⟨rfl,rfl⟩;clear HR hs2
 by_cases hzz:de (λj=>z (i+(60+j))) (64-60)=true
 rotate_left
 ·rw[Bool.not_eq_true] at hzz
  have hg:Hid (dO z i=false):=by
   show _=_;unfold dO;have:de (λk=>z (i+60+k)) 4=false:=by rw[<-hzz];congr 1;funext k;rw[Nat.add_assoc]
   rw[this];simp
  dsimp only;rw[hzz];clear hzz;have hf':=hf.i;go_wp2_with (first|(refine bp rfl (.tmp 4) (.tmp 32) rfl (w.heap.size+1) .nil .nil rfl rfl hf' ?_))
  intro w2 hi2 er;go_wp2_with fail;refine dV (cE rfl _ _ (w.heap.size+1) .nil rfl hi2) ⟨?_,hf.bel.trans (er.below (by omega))⟩;rw[dP,dQ,HP.out,Int.toNat_natCast,hg.out];rfl
 have Xp:Hid (de (λk=>z (i+60+k)) 4=true):=by show _=_;rw[<-hzz];congr 1;funext k;rw[Nat.add_assoc]
 dsimp only;rw[hzz];clear hzz;have c0:w1.cell? ⟨w.heap.size,i,none⟩=some (.int .u8 (z i)):=by have:=hf.b.bI i (by omega);rwa[Nat.zero_add] at this
 have hs1:w.heap.size+1<w1.heap.size:=hf.i.lt;have hnew:=(aY.new w1 .nil);have hal:=gq;go_wp2_with (first|(refine bp rfl (.tmp 7) (.tmp 36) rfl w1.heap.size ⟨z i,0,0,0,λ_=>0,0⟩ .nil rfl rfl hnew ?_))
 intro w2 hi2 er;have hX:w1.heap.size<w2.heap.size:=hi2.lt;have eC:dX w z w1.heap.size ⟨z i,0,0,0,λ_=>0,0⟩ w2:=⟨(hf.b.alloc _).only er (by omega),(hf.i.alloc _).only er (by omega),hi2,(hf.bel.alloc (by omega) _).trans (er.below (by omega))⟩;clear hal hnew hf er c0 c1 q1 hseg hi2;generalize w1.heap.size=X at*;clear w1;have g2:=oD hz (i+2);have g8:=dA hz (i+8);have g20:=g2.1;have g21:=g2.2;have g80:=g8.1;have g81:=g8.2;clear g2 g8;have c1:w2.cell? ⟨X,1,none⟩=some (.int .i64 0):=eC.x.cell (i:=1) rfl;have f1:w2.frozen? ⟨X,1,none⟩=false:=ag eC.x 1;have fg:=eC.set (y:=⟨z i,g16 z (i+2),0,0,λ_=>0,0⟩) 1 (.int .i64 (g16 z (i+2))) hs1 rfl;go_wp2_with fail;refine(PV w.heap.size i z hz 2 2 w2 rfl (by omega) (by omega) eC.b).mono ?_;rintro e w3 ⟨rfl,rfl⟩;go_wp2_with fail;clear c1 f1 eC;generalize w2.setCell ⟨X,1,none⟩ (.int .i64 (g16 z (i+2)))=w3 at fg ⊢;have c1:w3.cell? ⟨X,2,none⟩=some (.int .u32 0):=fg.x.cell (i:=2) rfl;have f1:w3.frozen? ⟨X,2,none⟩=false:=ag fg.x 2;have iF:=fg.set (y:=⟨z i,g16 z (i+2),b9 z (i+4),0,λ_=>0,0⟩) 2 (.int .u32 (b9 z (i+4))) hs1 rfl;refine(Fj w.heap.size i z hz 4 4 w3 rfl (by omega) (by omega) fg.b).mono ?_;rintro e w4 ⟨rfl,rfl⟩;go_wp2_with fail;clear c1 f1 fg;generalize w3.setCell ⟨X,2,none⟩ (.int .u32 (b9 z (i+4)))=w4 at iF ⊢;have c1:w4.cell? ⟨X,3,none⟩=some (.int .i64 0):=iF.x.cell (i:=3) rfl;have f1:w4.frozen? ⟨X,3,none⟩=false:=ag iF.x 3;have eB:dX w z X (gH z i 0) _:=iF.set (y:=gH z i 0) 3 (.int .i64 (b9 z (i+8))) hs1 rfl
 refine(Fj w.heap.size i z hz 8 8 w4 rfl (by omega) (by omega) iF.b).mono ?_;rintro e w5 ⟨rfl,rfl⟩;go_wp2_with fail;clear c1 f1 iF;generalize w4.setCell ⟨X,3,none⟩ (.int .i64 (b9 z (i+8)))=w5 at eB ⊢;have hseg:Seg w5 w.heap.size (i+12) 44 (λj=>z (i+12+j)):=by have:=eB.b.bI.sub (i+12) 44 (by omega);rwa[Nat.zero_add] at this
 refine(Ez (some ⟨w.heap.size,i+12,none⟩) 44 _ _ _ (.inr ⟨_,_,rfl,hseg⟩) (λh=>by cases h) (by omega)).mono ?_;rintro e w6 ⟨B,sa,cap',rfl,hnd,kx,vY,yx,hsa⟩;have hX5:=eB.x.lt;have eQ:=eB.below kx;have hX6:=eQ.x.lt;have hr6:=eQ.r.lt;clear eB hseg;go_wp2_with fail;apply oM (gf:=94) (lb:=#[.pointer (some ⟨B,0,none⟩)]) rfl (enters_of Tryz.func94 (by kernel_rfl) rfl)
  (Cx 4 (by decide) B sa 44 cap' (λj=>z (i+12+j)) (λj=>hz _) (by omega)) (λk=>rfl)
  (λk W=>dX w z X (gH z i k) W) (λ_ _ _=>False)
  (λk=>dX.local hr6 hX6)
  (λc k=>aw.pure _ _)
  (λk=>(aw.cell _ _ yx).and (aw.row _ _ (λx hx=>(hsa x hx).2)))
  eQ hnd
 case assign=>
  intro l k W K hk hK;dsimp only[uQ]
  gi_wp2
  exact hK
 case body=>
  rintro l k W hk hst hN;have hk':k<11:=by omega
  have c1:W.cell? ⟨X,4+k,none⟩=some (.int .u32 ((gH z i k).p k)):=hst.x.ptr k hk';have f1:W.frozen? ⟨X,4+k,none⟩=false:=ag hst.x (4+k);have hq:(4*(k:Int)).tdiv 4=(k:Int):=Int.mul_tdiv_cancel_left _ (by decide);have hg:b9 (λj=>z (i+12+j)) (4*k)=b9 z (i+12+4*k):=ue z (i+12) (4*k);have st':=hst.set (y:=gH z i (k+1)) (4+k) (.int .u32 (b9 z (i+12+4*k))) hs1 (B2 z i k hk');have ho:=an.setCell W ⟨X,4+k,none⟩ (.int .u32 (b9 z (i+12+4*k)));rw[hg];clear hg
  gi_wp2
  exact⟨ho.keeps c1,st',(ho.cell (p:=⟨B,0,none⟩) (by simp;omega)).trans hN.1,ho.row (λx hx=>by have:=hsa x hx;simp;omega) hN.2⟩
 case done=>
  rintro D W hD hst hK;have hX7:=hst.x.lt;go_wp2_with fail;refine(Fj w.heap.size i z hz 56 56 W rfl (by omega) (by omega) hst.b).mono ?_;rintro e w7 ⟨rfl,rfl⟩;have c1:W.cell? ⟨X,15,none⟩=some (.int .u32 0):=hst.x.cell (i:=15) rfl;have f1:W.frozen? ⟨X,15,none⟩=false:=ag hst.x 15;have sR:dX w z X (ee z i) _:=hst.set (y:=ee z i) 15 (.int .u32 (b9 z (i+56))) hs1 rfl;have Tm:(W.setCell ⟨X,15,none⟩ (.int .u32 (b9 z (i+56)))).heap[D]? =some (.deferred (some [])):=by rw[Below.heap_setCell _ _ _ D (by simp;omega)];exact hK
  have VA:=rz hz i;go_wp2_with (first|(refine mg rfl (.tmp 7) rfl X (ee z i) rfl sR.x ?_))
  clear c1 f1 hst hK;generalize W.setCell ⟨X,15,none⟩ (.int .u32 (b9 z (i+56)))=w8 at sR Tm ⊢;refine(I6 (ee z i) VA w8).mono ?_;rintro e w9 ⟨rfl,yt⟩;have ED:=sR.below yt;have hD8:D<w8.heap.size:=(Array.getElem?_eq_some_iff.1 Tm).1;have NK:w9.heap[D]? =some (.deferred (some [])):=(yt.block D hD8).trans Tm;have Zz:w.heap.size+1<D:=by omega
  clear Tm sR yt
  by_cases hm:decide (ee z i).ki=true
  ·have hg:Hid (dO z i=true):=by show _=_;unfold dO;rw[HV.out,Xp.out,hm];rfl
   rw[hm];clear hm;have Ql:=ED.x;have Jn:=ED.r;go_wp2_with (first|(refine mg rfl (.tmp 7) rfl X (ee z i) rfl Ql ?_)|(refine bp rfl (.tmp 4) (.tmp 79) rfl (w.heap.size+1) (ee z i) .nil rfl rfl Jn ?_))
   intro po Az vP;go_wp2_with fail;have NL:=(vP.block D (by omega)).trans NK;refine dB (D:=D) NL (cE rfl _ _ (w.heap.size+1) (ee z i) rfl ((World.putObj_heap_other (by omega)).trans Az)) ⟨?_,eG (ED.bel.trans (vP.below (by omega))) _ (Nat.le_refl _) (by omega)⟩;rw[dP,dQ,HP.out,Int.toNat_natCast,hg.out];rfl
  ·rw[Bool.not_eq_true] at hm
   have hg:Hid (dO z i=false):=by show _=_;unfold dO;rw[hm];simp
   rw[hm];clear hm;have Jn:=ED.r;go_wp2_with (first|(refine bp rfl (.tmp 4) (.tmp 78) rfl (w.heap.size+1) .nil .nil rfl rfl Jn ?_))
   intro po Az vP;go_wp2_with fail;have NL:=(vP.block D (by omega)).trans NK;refine dB (D:=D) NL (cE rfl _ _ (w.heap.size+1) .nil rfl ((World.putObj_heap_other (by omega)).trans Az)) ⟨?_,eG (ED.bel.trans (vP.below (by omega))) _ (Nat.le_refl _) (by omega)⟩;rw[dP,dQ,HP.out,Int.toNat_natCast,hg.out];rfl
 case stop=>
  rintro D c k W hD hk h hK;exact h.elim
end
def jv(x:Im)(t:Nat):List Value:=(x.ino t).arr.toList
def Df(x:Im)(k t:Nat):List Value:=(if t<k then x.ino t else aK.nil).arr.toList
theorem FL(x:Im)(t:Nat):(jv x t).length=16:=rfl
theorem FJ(x:Im)(k t:Nat):(Df x k t).length=16:=rfl
theorem Im.ya(x:Im):x.ino 0=aK.nil:=by unfold Im.ino;rw[if_neg (by omega)]
theorem Im.Lf(x:Im)(t:Nat):x.ia t<=192:=by unfold Im.ia;omega
theorem Im.ry{x:Im}(h:x.Ok)(t:Nat):(x.ino t).Ok:=by
 unfold Im.ino;split
 ·exact DH (h.jg _) _
 ·exact Ab
theorem mC:(Tryz.prog.info? 63).map (λi=>(i.zero,i.size,i.bytes))=some (some aK.nil.val,16,80):=by kernel_rfl
theorem ve(n:Nat)(hn:n<=2048)(W:World):(Instr.makeSlice 86 (.int .i64 (n:Int)) (.int .i64 (n:Int))).run Tryz.prog W= .ok (.slice (some ⟨W.heap.size,0,none⟩) n n) (W.alloc (.cells (madeCells aK.nil.val.cells (n*16)) 63)):=
 dg (P:=Tryz.prog) 86 63 aK.nil.val 16 80 Tryz.underlying86 mC .i64 .i64 n (by omega) (by omega) W
theorem oA(y:aK):(Tryz.prog.info? 63).map (·.size)=some y.arr.toList.length:=by kernel_rfl
theorem yb(y:aK):∀v∈y.arr.toList,v.oneCell'=true:=by
 have:=B3 y;rwa[<-Array.all_toList,List.all_eq_true] at this
structure Ci(w:World)(p b off cap:Nat)(x:Im)(ds ak own sl un:Value)(q k:Nat)(W:World):Prop where
 a:At W p 105 (XC b off cap x ds (.slice (some ⟨q,0,none⟩) (x.ni+1) (x.ni+1)) ak own sl un)
 i:aF W b off 256 x.n (dW x.L)
 r:az W q 63 16 (x.ni+1) (Df x k)
 bl:b<W.heap.size
 gr:w.grownBy W (some p)
section
variable {w:World} {p b off cap:Nat} {x:Im} {ds ak own sl un:Value} {q k:Nat} {W W':World}
theorem Ci.below(h:Ci w p b off cap x ds ak own sl un q k W)(hb:Below W.heap.size W W'):Ci w p b off cap x ds ak own sl un q k W':=
 ⟨h.a.below hb h.a.lt,aF.below h.i hb h.bl,h.r.below hb,Nat.lt_of_lt_of_le h.bl hb.size,dm h.gr (bq hb)⟩
theorem aF.only{n:Nat}(h:aF w b off m n f)(ho:an g w w')(hg:b≠g):aF w' b off m n f:=
 λi hi j v hv=>(ho.cell (p:=⟨b,off+i*m+j,none⟩) hg).trans (h i hi j v hv)
theorem aF.fF{n:Nat}(h:aF w b off m n f){row:Option Nat}(hg:w.grownBy w' row)(hb:b<w.heap.size)(hr:some b≠row):aF w' b off m n f:=
 λi hi j v hv=>(World.cell?_of_block (w:=w) (a:=⟨b,off+i*m+j,none⟩) (hg.block b hb hr)).trans (h i hi j v hv)
theorem Ci.only(h:Ci w p b off cap x ds ak own sl un q k W)(ho:an g W W')(h1:p≠g)(h2:b≠g)(h3:q≠g)(h4:w.heap.size<=g):Ci w p b off cap x ds ak own sl un q k W':=
 ⟨h.a.only ho h1,aF.only h.i ho h2,h.r.only ho h3,by rw[ho.size];exact h.bl,
  ⟨ho.os.trans h.gr.os,ho.tape.trans h.gr.tape,ho.output.trans h.gr.output,by rw[ho.size];exact h.gr.size,λj hj hne=>(ho.block j (by omega)).trans (h.gr.block j hj hne)⟩⟩
theorem Ci.next(h:Ci w p b off cap x ds ak own sl un q k W)(hk:k<x.ni+1)(hp:p≠q)(hb:b≠q)(hq:w.heap.size<=q):
  Ci w p b off cap x ds ak own sl un q (k+1) (W.setCells q (k*16) (jv x k)):=by
 obtain⟨hr,ho⟩:=h.r.set hk (vs:=jv x k) rfl (FJ x k);refine⟨h.a.only ho hp,aF.only h.i ho hb,hr.congr λt ht=> ?_,by rw[ho.size];exact h.bl,
  ⟨ho.os.trans h.gr.os,ho.tape.trans h.gr.tape,ho.output.trans h.gr.output,by rw[ho.size];exact h.gr.size,λj hj hne=>(ho.block j (by omega)).trans (h.gr.block j hj hne)⟩⟩
 unfold Df jv
 by_cases e:t=k
 ·subst e;rw[if_pos rfl,if_pos (by omega)]
 ·rw[if_neg e]
  by_cases e2:t<k
  ·rw[if_pos e2,if_pos (by omega)]
  ·rw[if_neg e2,if_neg (by omega)]
end
structure KN(w:World)(p b off cap:Nat)(x:Im)(ds ak own sl un:Value)(q k g:Nat)(y:aK)(W:World):Prop where
 s:Ci w p b off cap x ds ak own sl un q k W
 y:aY W g 63 y
theorem KN.below{p cap:Nat}{x:Im}{ds ak own sl un:Value}{q k:Nat}{W:World}(h:KN w p b off cap x ds ak own sl un q k g y W)(hb:Below W.heap.size W W'):KN w p b off cap x ds ak own sl un q k g y W':=
 ⟨h.s.below hb,(hb.block g (Array.getElem?_eq_some_iff.1 h.y).1).trans h.y⟩
theorem wo(p b off cap:Nat)(x:Im)(hx:x.Ok)(ds ak own sl un:Value)(w:World)(hA:At w p 105 (XC b off cap x ds (.slice none 0 0) ak own sl un))(hI:aF w b off 256 x.n (dW x.L))(mP:b≠p):
  Calls Tryz.prog 78 #[.pointer (some ⟨p,0,none⟩)] w λe w'=>pD (aD (λt=>x.j1 (t+1)) x.ni) 4 e/\w.grownBy w' (some p)/\
   (aD (λt=>x.j1 (t+1)) x.ni=true->∃q,w.heap.size<=q/\At w' p 105 (XC b off cap x ds (.slice (some ⟨q,0,none⟩) (x.ni+1) (x.ni+1)) ak own sl un)/\az w' q 63 16 (x.ni+1) (jv x)):=by
 have HX:=hid hx;obtain⟨h1,h2,h3,h4,h5,h6,h7,h8,h9,h10,h11⟩:=dL hx.may;have fY:=hx.iu;have hn0:0<x.n:=by have:=hx.n;omega
 have hni:x.ni<=256:=eK hx.may;have KG:Hid (pX x.g x.s x.i x.j=((x.ni:Nat):Int)):=vF hx.may;have cX:Hid (zA w p (XC b off cap x ds (.slice none 0 0) ak own sl un) b off x w):=⟨hA,hI,Below.refl _ _⟩;have hpl:=hA.lt;have hbl:b<w.heap.size:=cX.out.Ap hn0;have hg:=XG.of hA;have HG:Hid (w.rangeAt p 6 (aa x.g x.s x.i x.j).toList):=hg;clear hA hI hx hg;have hal:=gq;go_enter Tryz.func78,Tryz.ntmps78;go_wp2_with (first|(refine aB rfl 23 (.tmp 14) rfl p 6 (aa x.g x.s x.i x.j).toList _ rfl HG.out Tryz.underlying23 rfl (by kernel_rfl) ?_))
 refine(jb x.g x.s x.i x.j _).mono ?_;rintro e w1 ⟨rfl,hb1⟩;rw[KG.out];have aV:=hid (cX.out.below hn0 hb1);have hw1:=hb1.size;clear cX hb1 HG;obtain⟨N,hN⟩:∃N,N=x.ni:=⟨_,rfl⟩;have HN:=hid hN;rw[<-hN] at hni ⊢;clear hN KG;obtain⟨q,hq⟩:∃q,q=w1.heap.size:=⟨_,rfl⟩;have hmk:(Instr.makeSlice 86 (.int .i64 ((N:Int)+1)) (.int .i64 ((N:Int)+1))).run Tryz.prog w1= .ok (.slice (some ⟨q,0,none⟩) (N+1) (N+1)) (w1.alloc (.cells (madeCells aK.nil.val.cells ((N+1)*16)) 63)):=by
  rw[hq];exact ve (N+1) (by omega) w1
 have Av:w.heap.size<=q:=by rw[hq];exact hw1
 obtain⟨W1,hW1⟩:∃W1,W1=w1.alloc (.cells (madeCells aK.nil.val.cells ((N+1)*16)) 63):=⟨_,rfl⟩;have ha1:At W1 p 105 (XC b off cap x ds (.slice none 0 0) ak own sl un):=by rw[hW1];exact aV.out.a.alloc _
 have c11:W1.cell? ⟨p,11,none⟩=some (.slice none 0 0):=ha1.cell (i:=11) rfl;have f11:W1.frozen? ⟨p,11,none⟩=false:=ag ha1 11;rw[<-hW1] at hmk;have cf:Hid (Ci w p b off cap x ds ak own sl un q 0 (W1.setCell ⟨p,11,none⟩ (.slice (some ⟨q,0,none⟩) (N+1) (N+1)))):=by
  have ho:an p W1 (W1.setCell ⟨p,11,none⟩ (.slice (some ⟨q,0,none⟩) (N+1) (N+1))):=an.setCell W1 ⟨p,11,none⟩ _;have hbW:Below w1.heap.size w1 W1:=by rw[hW1];exact(Below.refl _ _).alloc (Nat.le_refl _) _
  have M8:az W1 q 63 16 (N+1) (λ_=>aK.nil.arr.toList):=by
   rw[hW1,hq];exact az.made (m:=16) w1 aK.nil.arr rfl (by omega) (N+1) _
  have hb1:=aV.out.Ap hn0;refine⟨by rw[<-HN.out];exact ha1.xw 11 _,aF.only (aF.below aV.out.i hbW hb1) ho mP,?_,by rw[ho.size];exact Nat.lt_of_lt_of_le hb1 hbW.size,dm (bq (aV.out.bel.trans (hbW.mono aV.out.bel.size))) (fp ho)⟩;rw[<-HN.out];refine(M8.only ho (by omega)).congr λt ht=> ?_
  unfold Df;rw[if_neg (by omega)]
 have HQ:=hid Av;clear hW1 ha1 hq aV hw1;go_wp2_with fail;clear c11 f11 hmk;have eP:Hid (Ci w p b off cap x ds ak own sl un q (0+1) (W1.setCell ⟨p,11,none⟩ (.slice (some ⟨q,0,none⟩) (N+1) (N+1)))):=by
  have h:=cf.out;refine⟨h.a,h.i,h.r.congr λt ht=> ?_,h.bl,h.gr⟩;unfold Df
  by_cases e:t=0
  ·subst e;rw[if_neg (by omega),if_pos (by omega),x.ya]
  ·rw[if_neg (by omega),if_neg (by omega)]
 have hpq:p≠q:=by omega
 have hbq:b≠q:=by omega
 clear cf;go_loopw [3] (λu wr=>∃k:Nat,k<=N/\u= .int .i64 ((k:Int)+1)/\(∀t,t<k->x.j1 (t+1)=true)/\Ci w p b off cap x ds ak own sl un q (k+1) wr) (λu _=>N+1-(intOf u).toNat)
 case atStart=>exact⟨0,Nat.zero_le _,rfl,λt h=>by omega,eP.out⟩
 case round=>
  clear eP;obtain⟨k,hk,rfl,hP,st⟩:=hrel;have lL:=hid hP;clear hP
  by_cases hlt:k<N
  ·have hlt':(k:Int)+1<=(N:Int):=by omega
   have BI:k<x.g*x.i:=by have:=HN.out;unfold Im.ni at this;omega
   have HS:=hid st;have HG:Hid (wr.rangeAt p 6 (aa x.g x.s x.i x.j).toList):=XG.of st.a;clear st;go_wp2_with (first|(refine aB rfl 23 (.tmp 31) rfl p 6 (aa x.g x.s x.i x.j).toList _ rfl HG.out Tryz.underlying23 rfl (by kernel_rfl) ?_))
   refine(v7 x.g x.s x.i x.j k HX.out.may BI wr).mono ?_;rintro e w1 ⟨rfl,hb1⟩;have eR:=HS.out.below hb1;clear HS HG hb1;have jE:Hid (2+x.j+k/x.i*x.s+2+k%x.i/4=x.ib (k+1)):=rfl;have j7:Hid (k%x.i%4*64=x.ia (k+1)):=rfl;rw[jE.out,j7.out];clear jE j7;have Rd:x.ib (k+1)<x.n:=by
    have hγ:k/x.i<x.g:=Nat.div_lt_of_lt_mul (by rw[Nat.mul_comm];exact BI);have hr:k%x.i<x.i:=Nat.mod_lt _ (by omega);have:=HX.out.st hγ (d:=2+k%x.i/4) (by omega);show x.st (k/x.i)+2+k%x.i/4<x.n;omega
   have Su:Hid (x.ino (k+1)=dP (x.L (x.ib (k+1))) (x.ia (k+1))):=by
    show _=_;unfold Im.ino;rw[if_pos ⟨by omega,by have:=HN.out;omega⟩]
   have Q5:x.ia (k+1)<=192:=x.Lf (k+1);obtain⟨I,hI⟩:∃I,I=x.ib (k+1):=⟨_,rfl⟩;obtain⟨a,ha⟩:∃a,a=x.ia (k+1):=⟨_,rfl⟩;have HII:=hid hI;have L5:=hid ha;rw[<-hI] at Rd ⊢;rw[<-ha] at Q5 ⊢;clear hI ha;have Zn:(I:Int)<(x.n:Int):=by omega
   have c0:w1.cell? ⟨p,0,none⟩=some (.slice (some ⟨b,off,none⟩) x.n cap):=eR.a.cell (i:=0) rfl;have hrg:w1.rangeAt b (off+I*256) (dW x.L I):=aF.range eR.i I Rd;go_wp2_with (first|(refine aB rfl 32 (.tmp 44) rfl b (off+I*256) (dW x.L I) _ rfl hrg Tryz.underlying32 rfl (by rw[aZ];exact au) ?_))
   refine(Aj (x.L I) (HX.out.jg I) (a:Int) w1 (by omega) (by omega)).mono ?_;rintro e w2 ⟨rfl,hb2⟩;have eC:=eR.below hb2;have wK:Hid (dP (x.L I) (a:Int)=x.ino (k+1)):=by show _=_;rw[Su.out,HII.out,L5.out]
   rw[wK.out];clear eR c0 hrg hb2 Su;obtain⟨y,hy⟩:∃y,y=x.ino (k+1):=⟨_,rfl⟩;have HY:=hid hy;rw[<-hy];clear hy;have hnew:=aY.new w2 .nil;go_wp2_with (first|(refine bp rfl (.tmp 7) (.tmp 48) rfl w2.heap.size y .nil rfl rfl hnew ?_))
   intro w3 UK nU;obtain⟨g,hg⟩:∃g,g=w2.heap.size:=⟨_,rfl⟩;have hgl:w.heap.size<=g/\p≠g/\b≠g/\q≠g:=by
    have h1:=eC.gr.size;have h2:=eC.r.lt;have h3:=eC.bl;have h4:=eC.a.lt;omega
   obtain⟨hg1,hg2,hg3,hg4⟩:=hgl;rw[<-hg] at UK nU ⊢;have fg:KN w p b off cap x ds ak own sl un q (k+1) g y w3:=⟨(eC.below ((Below.refl _ _).alloc (Nat.le_refl _) _)).only nU hg2 hg3 hg4 hg1,UK⟩;clear hnew UK nU hg eC;have jX:k<x.ni:=by have:=HN.out;omega
   have QD:N=x.ni:=HN.out;have On:Hid (w3.rangeAt p 6 (aa x.g x.s x.i x.j).toList):=XG.of fg.s.a;obtain⟨E,hE⟩:∃E,E=dQ (x.L I) (a:Int):=⟨_,rfl⟩;have Sy:Hid (E=dQ (x.L (x.ib (k+1))) (x.ia (k+1))):=by show _=_;rw[hE,HII.out,L5.out]
   rw[<-hE];clear hE;have ct:Hid (x.j1 (k+1)=false->(pD (aD (λt=>x.j1 (t+1)) x.ni) 4 (.panicked (r8 4))/\(aD (λt=>x.j1 (t+1)) x.ni=true->False))):=λh=>
    ⟨.inr ⟨bJ (p:=λt=>x.j1 (t+1)) jX h,rfl⟩,λh2=>by rw[bJ (p:=λt=>x.j1 (t+1)) jX h] at h2;cases h2⟩
   have N7:=hid fg;have KG:=hid QD;clear fg jX QD
   by_cases lZ:E=0
   rotate_left
   ·have q1:(E==0)=false:=by simp[lZ]
    have HF:Hid (x.j1 (k+1)=false):=by show _=_;unfold Im.j1;rw[<-Sy.out,q1];rfl
    clear lZ;go_wp2_with fail;refine(gU 4 _).mono ?_;rintro e w4 ⟨rfl,rfl⟩;exact⟨rfl,(ct.out HF.out).1,N7.out.s.gr,λh=>((ct.out HF.out).2 h).elim⟩
   subst lZ;go_wp2_with fail;refine(gy 4 _).mono ?_;rintro e w4 ⟨rfl,rfl⟩;go_wp2_with (first|(refine aB rfl 23 (.tmp 56) rfl p 6 (aa x.g x.s x.i x.j).toList _ rfl On.out Tryz.underlying23 rfl (by kernel_rfl) ?_))
   refine(o9 x.g x.s x.i x.j k HX.out.may BI _).mono ?_;rintro e w5 ⟨rfl,sB⟩;have eB:=N7.out.below sB;obtain⟨γ,hγ⟩:∃γ,γ=k/x.i:=⟨_,rfl⟩;obtain⟨ρ,hρ⟩:∃ρ,ρ=k%x.i:=⟨_,rfl⟩;have Yl:γ<x.g:=by rw[hγ];exact Nat.div_lt_of_lt_mul (by rw[Nat.mul_comm];exact BI)
   have hρ9:ρ<x.i:=by rw[hρ];exact Nat.mod_lt _ (by omega)
   obtain⟨Q,hQ⟩:∃Q,Q=x.st γ:=⟨_,rfl⟩;have kS:Q+1<x.n:=by rw[hQ];exact HX.out.st Yl (by omega)
   have HUS:Hid (x.used (k+1)=bt (x.L (Q+1)) ρ):=by show _=_;rw[hQ,hγ,hρ];rfl
   have HSQ:Hid (2+x.j+γ*x.s=Q):=hQ.symm;rw[<-hγ,<-hρ];clear sB On N7 hγ hρ hQ;have UT:(Q:Int)+1<(x.n:Int):=by omega
   have q0:(0:Int)<=(Q:Int)+1:=by omega
   go_wp2_with fail;refine aA (KN w p b off cap x ds ak own sl un q (k+1) g y) 16 (by kernel_rfl) (by kernel_rfl) (by kernel_rfl) (by kernel_rfl) (by kernel_rfl) (by decide) (eB.below (Below.refl _ _).drew) ?_;clear eB;simp only[List.take,List.drop];intro hne;have hc:∀z:aT (KN w p b off cap x ds ak own sl un q (k+1) g y),z.W.cell? ⟨p,0,none⟩=some (.slice (some ⟨b,off,none⟩) x.n cap):=λz=>z.h.s.a.cell (i:=0) rfl
   have ke:∀z:aT (KN w p b off cap x ds ak own sl un q (k+1) g y),z.W.cell? ⟨g,0,none⟩=some (.int .u8 y.kind):=λz=>ay z.h.y (i:=0) rfl
   iterate 6 go_big_quiet_step (fail)
   go_big_quiet_want
   go_big_quiet_op
   refine⟨_,λs=>aG s (λW hW=>(iU p x.g x.s x.i x.j γ HX.out.may Yl W (XG.of hW.s.a)).mono λe w' h=>⟨show e= .returned (.int .i64 ((Q:Nat):Int)) by rw[h.1,HSQ.out],hW.below h.2⟩),?_⟩
   go_big_quiet_on
   iterate 2 go_big_quiet_step (fail)
   refine aH rfl 32 (.tmp 71) rfl b (off+(Q+1)*256) rfl (dW x.L (Q+1)) _ (λW h=>aF.range h.s.i (Q+1) kS) Tryz.underlying32 rfl (by rw[aZ];exact au) ?_;refine ae ?_;go_big_quiet_step (fail)
   go_big_quiet_want
   go_big_quiet_op
   refine⟨_,λs=>aG s (λW hW=>(yW (HX.out.jg (Q+1)) _ ρ rfl (by omega) W).mono λe w' h=>⟨h.1,hW.below h.2⟩),?_⟩
   go_big_quiet_on
   iterate 4 go_big_quiet_step (fail)
   refine wpQuiet_nil ?_;intro w6 h6;have eQ:=h6.out;clear h6 hne hc ke;obtain⟨c,hcc⟩:∃c,c=(bt (x.L (Q+1)) ρ==(y.kind !=0)):=⟨_,rfl⟩;have iE:Hid (x.j1 (k+1)=c):=by show _=_;unfold Im.j1;rw[<-Sy.out,HUS.out,<-HY.out,hcc];rfl
   have iW:=hid eQ;rw[<-hcc];clear eQ hcc;go_wp2_with fail;refine(bw 4 c _).mono ?_;rintro e w7 ⟨hS,rfl⟩;rcases hS with⟨rfl,rfl⟩|⟨rfl,rfl⟩
   rotate_left
   ·exact⟨rfl,(ct.out iE.out).1,iW.out.s.gr,λh=>((ct.out iE.out).2 h).elim⟩
   clear ct Sy HUS HSQ kS UT q0;have QN:(k:Int)+1<(x.ni:Int)+1:=by have:=KG.out;omega
   have k0:(0:Int)<=(k:Int)+1:=by omega
   go_wp2_with fail;refine aA (KN w p b off cap x ds ak own sl un q (k+1) g y) 7 (by kernel_rfl) (by kernel_rfl) (by kernel_rfl) (by kernel_rfl) (by kernel_rfl) (by decide) (iW.out.below (Below.refl _ _).drew) ?_;clear iW;simp only[List.take,List.drop];intro hne;have hc:∀z:aT (KN w p b off cap x ds ak own sl un q (k+1) g y),z.W.cell? ⟨p,11,none⟩=some (.slice (some ⟨q,0,none⟩) (x.ni+1) (x.ni+1)):=λz=>z.h.s.a.cell (i:=11) rfl
   iterate 5 go_big_quiet_step (fail)
   refine aH rfl 63 (.tmp 7) rfl g 0 rfl y.arr.toList _ (λW h=>At.range (show At W g 63 y.arr from h.y)) Tryz.underlying63 rfl (by kernel_rfl) ?_;refine ae ?_;go_big_quiet_step (fail)
   refine wpQuiet_nil ?_;intro w8 h8;have sR:=h8.out;clear h8 hne hc;have gn:w8.there q ((k+1)*16) y.arr.toList.length:=sR.s.r.there (k:=k+1) (by have:=KG.out;omega);have nW:Hid (Ci w p b off cap x ds ak own sl un q (k+1+1) (w8.setCells q ((k+1)*16) y.arr.toList)):=by
    have:=sR.s.next (k:=k+1) (by have:=KG.out;omega) hpq hbq HQ.out
    rw[HY.out];exact this
   have eJ:Hid (∀t,t<k+1->x.j1 (t+1)=true):=λt ht=>by
    rcases Nat.lt_succ_iff_lt_or_eq.1 ht with h|h
    ·exact lL.out t h
    ·rw[h];exact iE.out
   clear sR;go_wp2_with (first|(refine iK rfl 63 (.tmp 86) (.tmp 85) rfl q ((k+1)*16) y.arr.toList rfl rfl gn (oA y) (yb y) ?_))
   intro w9 Hf;rw[<-Hf.out] at nW;clear Hf gn;go_wp2_with fail;go_roundw
   case rel=>(try((repeat apply Exists.intro);refine⟨?_,rfl⟩));exact⟨k+1,by omega,by first|rfl|go_num,eJ.out,nW.out⟩
   case measure=>simp[intOf];omega
  ·obtain rfl:k=N:=by omega
   have ST:=hid st;clear st;go_wp2_with fail;refine bodyPost_end (results_none rfl _ _ _) rfl ⟨.inl ⟨by rw[<-HN.out];exact(aP _ _).2 lL.out,rfl⟩,ST.out.gr,λ_=>⟨q,HQ.out,ST.out.a,ST.out.r.congr (f':=jv x) λt ht=>by unfold Df jv;rw[if_pos (by have:=HN.out;omega)]⟩⟩
section
open Go.Shelf
theorem dX.drewN{W:World}(h:dX w z X x W)(m:Nat):dX w z X x (W.drewN m):=⟨h.b,h.r,h.x,ie h.bel m⟩
theorem Mr{W:World}(hz:bm z)(i k:Nat)(K:Int)(hK:K=(i:Int)+(k:Int))(h:i+k+2<=256)(st:dX w z X x W):
  Calls Tryz.prog 143 #[.slice (some ⟨w.heap.size,0,none⟩) 256 256,.int .i64 K] W λe w'=>e= .returned (.tuple #[.int .u32 (g16 z (i+k)),.bool true])/\dX w z X x w':=by
 have:=mn w.heap.size 0 256 256 K z W (by omega) (by omega) (by omega) st.b.bI hz;rw[show K.toNat=i+k by omega] at this;exact this.mono λe w' ⟨he,m,hw⟩=>⟨he,hw▸st.drewN m⟩
theorem vg{W:World}(hz:bm z)(i k:Nat)(K:Int)(hK:K=(i:Int)+(k:Int))(h:i+k+4<=256)(st:dX w z X x W):
  Calls Tryz.prog 106 #[.slice (some ⟨w.heap.size,0,none⟩) 256 256,.int .i64 K] W λe w'=>e= .returned (.tuple #[.int .u32 (b9 z (i+k)),.bool true])/\dX w z X x w':=by
 have:=fh w.heap.size 0 256 256 K z W (by omega) (by omega) (by omega) st.b.bI hz;rw[show K.toNat=i+k by omega] at this;exact this.mono λe w' ⟨he,m,hw⟩=>⟨he,hw▸st.drewN m⟩
theorem Fc(z:Nat->Int)(hz:bm z)(a:Int)(w:World)(h0:-9223372036854775808<=a)(h1:a<=9223372036854775807):
  Calls Tryz.prog 149 #[aL z,.int .i64 a] w λe w'=>e= .returned (.tuple #[(dP z a).val,.int .i64 (dQ z a)])/\Below w.heap.size w w':=by
 have hal:=gq;go_enter Tryz.func149,Tryz.ntmps149;go_wp2_with fail;refine((ml a _).mono (R':=λe w'=>e= .returned (.bool (bX a))/\G5 w z w') (λe w' h=>⟨h.1,h.2▸o8 w z⟩)).mono ?_;rintro e w1 ⟨rfl,hf⟩;clear hal
 by_cases hp:bX a=true
 rotate_left
 ·rw[Bool.not_eq_true] at hp
  have HP:=hid hp;rw[hp];clear hp;go_wp2_with (first|(refine bp rfl (.tmp 4) (.tmp 15) rfl (w.heap.size+1) .nil .nil rfl rfl hf.i ?_))
  intro w2 hi2 er;go_wp2_with fail;refine bodyPost_ret (cE rfl _ _ (w.heap.size+1) .nil rfl hi2) rfl ⟨?_,hf.bel.trans (er.below (by omega))⟩;rw[dP,dQ,HP.out];rfl
 have HP:=hid hp;have hpl:=(eo a).1 hp;rw[hp];have ha0:0<=a:=by omega
 have ha1:a<=192:=by omega
 clear hp hpl;obtain⟨i,rfl⟩:=Int.eq_ofNat_of_zero_le ha0;have hsa:=λW=>a7 w.heap.size 0 W
 have hsl:=λW=>bU w.heap.size 0 (i+60) (i+64) ((i:Int)+60) ((i:Int)+64) rfl (by omega) (by omega) (by omega) (by omega) W
 simp only[Nat.zero_add,show i+64-(i+60)=4 by omega] at hsl;have zt:=hid hsl;clear hsl;have eR:dX w z (w.heap.size+1) .nil w1:=⟨hf.b,hf.i,hf.i,hf.bel⟩;clear hf;go_wp2_with fail;refine(Mr hz i 2 _ rfl (by omega) eR).mono ?_;rintro e w2 ⟨rfl,eC⟩;clear eR;go_wp2_with fail;refine(vg hz i 8 _ rfl (by omega) eC).mono ?_;rintro e w3 ⟨rfl,fg⟩;clear eC;have c0:w3.cell? ⟨w.heap.size,i,none⟩=some (.int .u8 (z i)):=by have:=fg.b.bI i (by omega);rwa[Nat.zero_add] at this
 have g2:=oD hz (i+2);have g8:=dA hz (i+8);obtain⟨g20,g21⟩:=g2;obtain⟨g80,g81⟩:=g8;have hs1:w.heap.size+1<w3.heap.size:=fg.r.lt;have hnew:=aY.new w3 .nil;have hal:=gq;go_wp2_with (first|(refine bp rfl (.tmp 10) (.tmp 37) rfl w3.heap.size ⟨z i,g16 z (i+2),0,b9 z (i+8),λ_=>0,0⟩ .nil rfl rfl hnew ?_))
 intro w4 hi4 kv;have iF:dX w z w3.heap.size ⟨z i,g16 z (i+2),0,b9 z (i+8),λ_=>0,0⟩ w4:=⟨(fg.b.alloc _).only kv (by omega),(fg.r.alloc _).only kv (by omega),hi4,(fg.bel.alloc (by omega) _).trans (kv.below (by omega))⟩;clear hal hnew kv c0 hi4 fg;generalize w3.heap.size=X at*;clear w3;go_wp2_with fail;refine(vg hz i 4 _ rfl (by omega) iF).mono ?_;rintro e w5 ⟨rfl,eB⟩;clear iF;have c1:w5.cell? ⟨X,2,none⟩=some (.int .u32 0):=eB.x.cell (i:=2) rfl;have f1:w5.frozen? ⟨X,2,none⟩=false:=ag eB.x 2;have eQ:dX w z X (gH z i 0) _:=eB.set (y:=gH z i 0) 2 (.int .u32 (b9 z (i+4))) hs1 rfl;go_wp2_with fail;clear c1 f1 eB;generalize w5.setCell ⟨X,2,none⟩ (.int .u32 (b9 z (i+4)))=w6 at eQ ⊢;go_loopw [11] (λu wr=>∃k:Nat,k<=11/\u= .int .i64 (k:Int)/\dX w z X (gH z i k) wr) (λu _=>11-(intOf u).toNat)
 case atStart=>exact⟨0,by omega,rfl,eQ⟩
 case round=>
  clear eQ;obtain⟨k,hk,rfl,st⟩:=hrel
  by_cases hlt:k<11
  ·have l0:(0:Int)<=(k:Int):=by omega
   have l1:(k:Int)<11:=by omega
   go_wp2_with fail;refine(vg hz (i+12) (4*k) _ (by omega) (by omega) st).mono ?_;rintro e w7 ⟨rfl,kF⟩;have c1:w7.cell? ⟨X,4+k,none⟩=some (.int .u32 ((gH z i k).p k)):=kF.x.ptr k hlt;have f1:w7.frozen? ⟨X,4+k,none⟩=false:=ag kF.x (4+k);have sR:=kF.set (y:=gH z i (k+1)) (4+k) (.int .u32 (b9 z (i+12+4*k))) hs1 (B2 z i k hlt);go_wp2_with fail;go_roundw
   case rel=>exact⟨k+1,by omega,by go_num,sR⟩
   case measure=>simp[intOf];omega
  ·obtain rfl:k=11:=by omega
   go_wp2_with fail;refine(vg hz i 56 _ rfl (by omega) st).mono ?_;rintro e w7 ⟨rfl,kF⟩;have c1:w7.cell? ⟨X,15,none⟩=some (.int .u32 0):=kF.x.cell (i:=15) rfl;have f1:w7.frozen? ⟨X,15,none⟩=false:=ag kF.x 15;have sR:dX w z X (ee z i) _:=kF.set (y:=ee z i) 15 (.int .u32 (b9 z (i+56))) hs1 rfl;have b1:(w7.setCell ⟨X,15,none⟩ (.int .u32 (b9 z (i+56)))).cell? ⟨w.heap.size,i+1,none⟩=some (.int .u8 (z (i+1))):=by have:=sR.b.bI (i+1) (by omega);rwa[Nat.zero_add] at this
   have hsl:=zt.out;clear zt
   by_cases hv:z (i+1)=0
   rotate_left
   ·have q1:(z (i+1) !=0)=true:=by simpa using hv
    have hg:Hid (dO z i=false):=by show _=_;unfold dO;simp[hv]
    have U0:=sR.r;clear hv hsl;go_wp2_with (first|(refine bp rfl (.tmp 4) (.tmp 90) rfl (w.heap.size+1) .nil .nil rfl rfl U0 ?_))
    intro w9 zm gD;go_wp2_with fail;refine bodyPost_ret (cE rfl _ _ (w.heap.size+1) .nil rfl zm) rfl ⟨?_,sR.bel.trans (gD.below (by omega))⟩;rw[dP,dQ,HP.out,Int.toNat_natCast,hg.out];rfl
   have q1:(z (i+1) !=0)=false:=by simpa using hv
   have HV:=hid hv;clear hv;have hrow:Hid (Row (w7.setCell ⟨X,15,none⟩ (.int .u32 (b9 z (i+56)))) (some ⟨w.heap.size,i+60,none⟩) 4 (λj=>z (i+60+j))):=.inr ⟨_,_,rfl,by have:=sR.b.bI.sub (i+60) 4 (by omega);rwa[Nat.zero_add] at this⟩;go_wp2_with fail;refine(oc _ _ _ _ _ (by omega) (by exact hrow.out)).mono ?_;rintro e w8 ⟨rfl,rfl⟩;clear hsl hrow b1 q1 c1 f1;generalize w7.setCell ⟨X,15,none⟩ (.int .u32 (b9 z (i+56)))=w8 at sR ⊢
   by_cases hzz:de (λj=>z (i+60+j)) 4=true
   rotate_left
   ·rw[Bool.not_eq_true] at hzz
    have hg:Hid (dO z i=false):=by show _=_;unfold dO;rw[hzz];simp
    rw[hzz];clear hzz;have U0:=sR.r;go_wp2_with (first|(refine bp rfl (.tmp 4) (.tmp 90) rfl (w.heap.size+1) .nil .nil rfl rfl U0 ?_))
    intro w9 zm gD;go_wp2_with fail;refine bodyPost_ret (cE rfl _ _ (w.heap.size+1) .nil rfl zm) rfl ⟨?_,sR.bel.trans (gD.below (by omega))⟩;rw[dP,dQ,HP.out,Int.toNat_natCast,hg.out];rfl
   have Xp:=hid hzz;rw[hzz];clear hzz;have VA:=rz hz i;have Ys:=sR.x;go_wp2_with (first|(refine xg rfl (.tmp 10) rfl X (ee z i) rfl Ys ?_))
   refine(qP _ VA _).mono ?_;rintro e w9 ⟨rfl,yt⟩;have ED:=sR.below yt;clear sR yt Ys
   by_cases hm:(ee z i).ki
   ·have hg:Hid (dO z i=true):=by show _=_;unfold dO;rw[Xp.out,HV.out,decide_eq_true hm];rfl
    rw[decide_eq_true hm];clear hm;have Jn:=ED.r;have Ql:=ED.x;go_wp2_with (first|(refine mg rfl (.tmp 10) rfl X (ee z i) rfl Ql ?_)|(refine bp rfl (.tmp 4) (.tmp 91) rfl (w.heap.size+1) (ee z i) .nil rfl rfl Jn ?_))
    intro po Az vP;go_wp2_with fail;refine bodyPost_ret (cE rfl _ _ (w.heap.size+1) (ee z i) rfl Az) rfl ⟨?_,ED.bel.trans (vP.below (by omega))⟩;rw[dP,dQ,HP.out,Int.toNat_natCast,hg.out];rfl
   ·have hg:Hid (dO z i=false):=by show _=_;unfold dO;rw[decide_eq_false hm];simp
    rw[decide_eq_false hm];clear hm;have Jn:=ED.r;go_wp2_with (first|(refine bp rfl (.tmp 4) (.tmp 90) rfl (w.heap.size+1) .nil .nil rfl rfl Jn ?_))
    intro po Az vP;go_wp2_with fail;refine bodyPost_ret (cE rfl _ _ (w.heap.size+1) .nil rfl Az) rfl ⟨?_,ED.bel.trans (vP.below (by omega))⟩;rw[dP,dQ,HP.out,Int.toNat_natCast,hg.out];rfl
end
end Go.Proofs.YtphamecphmbipaaGreatDoor
