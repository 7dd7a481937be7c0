/- Texts of this claim, merged. -/
import Derived.Test.YtphamecphmbipaaGreatDoorZ18
set_option linter.unusedVariables false
set_option maxRecDepth 100000
set_option maxHeartbeats 16000000

namespace Go.Proofs.YtphamecphmbipaaGreatDoor
open Go.RowKit
variable {T:TypeId} {w W' w':World} {z:Nat->Int} {X off m g:Nat} {x y:aS} {f:Nat->List Value}
section
open Go.Shelf
attribute [local go_sem] Oper.semAt_some
structure Hr(w:World)(z:Nat->Int)(W:World):Prop where
 b:aU W w.heap.size 32 256 z
 i:bs W (w.heap.size+1) 63 .nil
 bel:Below w.heap.size w W
theorem py(w:World)(z:Nat->Int):Hr w z ((w.alloc (.cells (Ks .u8 256 z).toArray 32)).alloc (.cells aS.nil.arr 63)):=by
 refine⟨(aU.new _ _ _ _).alloc _,?_,(ag.alloc af _).alloc (by simp) _⟩;have:=bs.new (w.alloc (.cells (Ks .u8 256 z).toArray 32)) .nil;simp only[World.size_alloc] at this;exact this
theorem DW(z:Nat->Int)(i k:Nat):g16 (λj=>z (i+j)) k=g16 z (i+k):=by unfold g16;simp only[Nat.add_assoc]
theorem uz(z:Nat->Int)(i k:Nat):cR (λj=>z (i+j)) k=cR z (i+k):=by unfold cR;simp only[Nat.add_assoc]
theorem Qn(g i:Nat)(z:Nat->Int)(hz:bu z)(k:Nat)(K:Int)(w:World)(hK:K=(k:Int))(hk:k+2<=64)(hi:i<=192)(hB:aU w g T 256 z):
  Calls Tryz.prog 50 #[.slice (some ⟨g,i,none⟩) 64 (256-i),.int .i64 K] w λe w'=>e= .returned (.tuple #[.int .u32 (g16 z (i+k)),.bool true])/\w=w':=by
 subst hK;have hseg:Seg w g i 64 (λj=>z (i+j)):=by have:=hB.bQ.sub i 64 (by omega);rwa[Nat.zero_add] at this
 have:=uy g i 64 (256-i) k _ w (by omega) (by omega) (by omega) hseg (λj=>hz _);rwa[Int.toNat_natCast,DW] at this
theorem FG(g i:Nat)(z:Nat->Int)(hz:bu z)(k:Nat)(K:Int)(w:World)(hK:K=(k:Int))(hk:k+4<=64)(hi:i<=192)(hB:aU w g T 256 z):
  Calls Tryz.prog 51 #[.slice (some ⟨g,i,none⟩) 64 (256-i),.int .i64 K] w λe w'=>e= .returned (.tuple #[.int .u32 (cR z (i+k)),.bool true])/\w=w':=by
 subst hK;have hseg:Seg w g i 64 (λj=>z (i+j)):=by have:=hB.bQ.sub i 64 (by omega);rwa[Nat.zero_add] at this
 have:=iB g i 64 (256-i) k _ w (by omega) (by omega) (by omega) hseg (λj=>hz _);rwa[Int.toNat_natCast,uz] at this
structure ep(w:World)(z:Nat->Int)(X:Nat)(x:aS)(W:World):Prop where
 b:aU W w.heap.size 32 256 z
 r:bs W (w.heap.size+1) 63 .nil
 x:bs W X 63 x
 bel:Below w.heap.size w W
theorem ep.set{W:World}(h:ep w z X x W)(j:Nat)(v:Value)(hX:w.heap.size+1<X)(hy:x.arr.setIfInBounds j v=y.arr):ep w z X y (W.setCell ⟨X,j,none⟩ v):=by
 have ho:=az.setCell W ⟨X,j,none⟩ v;exact⟨h.b.only ho (by simp;omega),h.r.only ho (by simp;omega),h.x.set j v hy,h.bel.trans (ho.below (by simp;omega))⟩
theorem ep.below{W:World}(h:ep w z X x W)(hb:Below W.heap.size W W'):ep w z X x W':=
 ⟨h.b.below hb h.b.lt,h.r.below hb h.r.lt,h.x.below hb h.x.lt,h.bel.trans (hb.mono h.bel.size)⟩
theorem ep.local{B:Nat}(h1:w.heap.size+1<B)(hX:X<B):aC B (ep w z X x):=λA C hs hg=>
 ⟨aC.heap _ (by omega) A C hs.b hg,aC.heap _ h1 A C hs.r hg,aC.heap _ hX A C hs.x hg,aC.below w (by omega) af A C hs.bel hg⟩
theorem AB(z:Nat->Int)(hz:bu z)(a:Int)(w:World)(h0:-9223372036854775808<=a)(h1:a<=9223372036854775807):
  Calls Tryz.prog 21 #[aR z,.int .i64 a] w λe w'=>e= .returned (.tuple #[(dZ z a).val,.int .i64 (ea z a)])/\Below w.heap.size w w':=by
 refine(callsIn_wide (n:=5)).1 (callsIn_of_wp_marks Tryz.func21 rfl trivial ?_ rfl);refine wpIn_wide.2 ?_;simp only[Tryz.ntmps21,List.size_toArray,List.length_cons,List.length_nil,Nat.reduceAdd,Nat.reduceSub,Array.replicate_succ,Array.replicate_zero,List.push_toArray,List.append_toArray,List.nil_append,List.cons_append];have hal:=gI;go_wp2_with fail;refine((Dh a _ h0 h1).mono (R':=λe w'=>e= .returned (.bool (cH a))/\Hr w z w') (λe w' h=>⟨h.1,h.2▸py w z⟩)).mono ?_;rintro e w1 ⟨rfl,hf⟩;clear hal
 by_cases hp:cH a=true
 rotate_left
 ·rw[Bool.not_eq_true] at hp
  have HP:=ah hp;rw[hp];clear hp;go_wp2_with (first|(refine bF rfl (.tmp 4) (.tmp 17) rfl (w.heap.size+1) .nil .nil rfl rfl hf.i ?_))
  intro w2 hi2 eI;go_wp2_with fail;refine eo (dg rfl _ _ (w.heap.size+1) .nil rfl hi2) ⟨?_,hf.bel.trans (eI.below (by omega))⟩;rw[dZ,ea,HP.Z];rfl
 have HP:=ah hp;have hpl:=(eG a).1 hp;rw[hp];have ha0:0<=a:=by omega
 have ha1:a<=192:=by omega
 clear hp hpl;obtain⟨i,rfl⟩:=Int.eq_ofNat_of_zero_le ha0;have hsl:=λW=>ct w.heap.size 0 i (i+64) (i:Int) ((i:Int)+64) rfl (by omega) (by omega) (by omega) (by omega) W
 simp only[Nat.zero_add,Nat.add_sub_cancel_left] at hsl;have hs2:=λW=>q8 (some ⟨w.heap.size,i,none⟩) 64 (256-i) 60 60 rfl (by omega) W
 have c1:w1.cell? ⟨w.heap.size,i+1,none⟩=some (.int .u8 (z (i+1))):=by have:=hf.b.bQ (i+1) (by omega);rwa[Nat.zero_add] at this
 by_cases hv:z (i+1)=0
 rotate_left
 ·have q1:(z (i+1) !=0)=true:=by simpa using hv
  have hg:Hd (dY z i=false):=by show _=_;unfold dY;simp[hv]
  clear hv hs2;have hf':=hf.i;go_wp2_with (first|(refine bF rfl (.tmp 4) (.tmp 32) rfl (w.heap.size+1) .nil .nil rfl rfl hf' ?_))
  intro w2 hi2 eI;go_wp2_with fail;refine eo (dg rfl _ _ (w.heap.size+1) .nil rfl hi2) ⟨?_,hf.bel.trans (eI.below (by omega))⟩;rw[dZ,ea,HP.Z,Int.toNat_natCast,hg.Z];rfl
 have q1:(z (i+1) !=0)=false:=by simpa using hv
 have HV:=ah hv;clear hv;have hseg:Seg w1 w.heap.size i 64 (λj=>z (i+j)):=by have:=hf.b.bQ.sub i 64 (by omega);rwa[Nat.zero_add] at this
 have hrow:Row w1 (z9 (some ⟨w.heap.size,i,none⟩) 60 (256-i)) (64-60) (λj=>(λj=>z (i+j)) (60+j)):=Row.slice (.inr ⟨_,_,rfl,hseg⟩) (by omega) (by omega);have HR:=ah hrow;clear hrow;generalize z9 (some ⟨w.heap.size,i,none⟩) 60 (256-i)=UK at hs2 HR;go_wp2_with fail;refine(nh UK _ _ _ _ (by omega) (by exact HR.Z)).mono ?_;rintro e w2 ⟨rfl,rfl⟩;clear HR hs2
 by_cases hzz:dw (λj=>z (i+(60+j))) (64-60)=true
 rotate_left
 ·rw[Bool.not_eq_true] at hzz
  have hg:Hd (dY z i=false):=by
   show _=_;unfold dY;have:dw (λk=>z (i+60+k)) 4=false:=by rw[<-hzz];congr 1;funext k;rw[Nat.add_assoc]
   rw[this];simp
  dsimp only;rw[hzz];clear hzz;have hf':=hf.i;go_wp2_with (first|(refine bF rfl (.tmp 4) (.tmp 32) rfl (w.heap.size+1) .nil .nil rfl rfl hf' ?_))
  intro w2 hi2 eI;go_wp2_with fail;refine eo (dg rfl _ _ (w.heap.size+1) .nil rfl hi2) ⟨?_,hf.bel.trans (eI.below (by omega))⟩;rw[dZ,ea,HP.Z,Int.toNat_natCast,hg.Z];rfl
 have XW:Hd (dw (λk=>z (i+60+k)) 4=true):=by show _=_;rw[<-hzz];congr 1;funext k;rw[Nat.add_assoc]
 dsimp only;rw[hzz];clear hzz;have c0:w1.cell? ⟨w.heap.size,i,none⟩=some (.int .u8 (z i)):=by have:=hf.b.bQ i (by omega);rwa[Nat.zero_add] at this
 have hs1:w.heap.size+1<w1.heap.size:=hf.i.lt;have hnew:=(bs.new w1 .nil);have hal:=gI;go_wp2_with (first|(refine bF rfl (.tmp 7) (.tmp 36) rfl w1.heap.size ⟨z i,0,0,0,λ_=>0,0⟩ .nil rfl rfl hnew ?_))
 intro w2 hi2 eI;have hX:w1.heap.size<w2.heap.size:=hi2.lt;have ec:ep w z w1.heap.size ⟨z i,0,0,0,λ_=>0,0⟩ w2:=⟨(hf.b.alloc _).only eI (by omega),(hf.i.alloc _).only eI (by omega),hi2,(hf.bel.alloc (by omega) _).trans (eI.below (by omega))⟩;clear hal hnew hf eI c0 c1 q1 hseg hi2;generalize w1.heap.size=X at*;clear w1;have g2:=oS hz (i+2);have g8:=dP hz (i+8);have g20:=g2.1;have g21:=g2.2;have g80:=g8.1;have g81:=g8.2;clear g2 g8;have c1:w2.cell? ⟨X,1,none⟩=some (.int .i64 0):=ec.x.cell (i:=1) rfl;have f1:w2.frozen? ⟨X,1,none⟩=false:=an ec.x 1;have fw:=ec.set (y:=⟨z i,g16 z (i+2),0,0,λ_=>0,0⟩) 1 (.int .i64 (g16 z (i+2))) hs1 rfl;go_wp2_with fail;refine(Qn w.heap.size i z hz 2 2 w2 rfl (by omega) (by omega) ec.b).mono ?_;rintro e w3 ⟨rfl,rfl⟩;go_wp2_with fail;clear c1 f1 ec;generalize w2.setCell ⟨X,1,none⟩ (.int .i64 (g16 z (i+2)))=w3 at fw ⊢;have c1:w3.cell? ⟨X,2,none⟩=some (.int .u32 0):=fw.x.cell (i:=2) rfl;have f1:w3.frozen? ⟨X,2,none⟩=false:=an fw.x 2;have ij:=fw.set (y:=⟨z i,g16 z (i+2),cR z (i+4),0,λ_=>0,0⟩) 2 (.int .u32 (cR z (i+4))) hs1 rfl;refine(FG w.heap.size i z hz 4 4 w3 rfl (by omega) (by omega) fw.b).mono ?_;rintro e w4 ⟨rfl,rfl⟩;go_wp2_with fail;clear c1 f1 fw;generalize w3.setCell ⟨X,2,none⟩ (.int .u32 (cR z (i+4)))=w4 at ij ⊢;have c1:w4.cell? ⟨X,3,none⟩=some (.int .i64 0):=ij.x.cell (i:=3) rfl;have f1:w4.frozen? ⟨X,3,none⟩=false:=an ij.x 3;have eC:ep w z X (gS z i 0) _:=ij.set (y:=gS z i 0) 3 (.int .i64 (cR z (i+8))) hs1 rfl
 refine(FG w.heap.size i z hz 8 8 w4 rfl (by omega) (by omega) ij.b).mono ?_;rintro e w5 ⟨rfl,rfl⟩;go_wp2_with fail;clear c1 f1 ij;generalize w4.setCell ⟨X,3,none⟩ (.int .i64 (cR z (i+8)))=w5 at eC ⊢;have hseg:Seg w5 w.heap.size (i+12) 44 (λj=>z (i+12+j)):=by have:=eC.b.bQ.sub (i+12) 44 (by omega);rwa[Nat.zero_add] at this
 refine(ES (some ⟨w.heap.size,i+12,none⟩) 44 _ _ _ (.inr ⟨_,_,rfl,hseg⟩) (λh=>by cases h) (by omega)).mono ?_;rintro e w6 ⟨B,sa,cap',rfl,hnd,m4,wF,yP,hsa⟩;have hX5:=eC.x.lt;have eQ:=eC.below m4;have hX6:=eQ.x.lt;have hr6:=eQ.r.lt;clear eC hseg;go_wp2_with fail;apply o5 (gf:=94) (lb:=#[.pointer (some ⟨B,0,none⟩)]) rfl (enters_of Tryz.func94 (by kernel_rfl) rfl)
  (CL 4 (by decide) B sa 44 cap' (λj=>z (i+12+j)) (λj=>hz _) (by omega)) (λk=>rfl)
  (λk W=>ep w z X (gS z i k) W) (λ_ _ _=>False)
  (λk=>ep.local hr6 hX6)
  (λc k=>aC.pure _ _)
  (λk=>(aC.cell _ _ yP).and (aC.row _ _ (λx hx=>(hsa x hx).2)))
  eQ hnd
 case assign=>
  intro l k W K hk hK;dsimp only[vf]
  gi_wp2
  exact hK
 case body=>
  rintro l k W hk hst hN;have hk':k<11:=by omega
  have c1:W.cell? ⟨X,4+k,none⟩=some (.int .u32 ((gS z i k).p k)):=hst.x.ptr k hk';have f1:W.frozen? ⟨X,4+k,none⟩=false:=an hst.x (4+k);have hq:(4*(k:Int)).tdiv 4=(k:Int):=Int.mul_tdiv_cancel_left _ (by decide);have hg:cR (λj=>z (i+12+j)) (4*k)=cR z (i+12+4*k):=uz z (i+12) (4*k);have st':=hst.set (y:=gS z i (k+1)) (4+k) (.int .u32 (cR z (i+12+4*k))) hs1 (Ch z i k hk');have ho:=az.setCell W ⟨X,4+k,none⟩ (.int .u32 (cR z (i+12+4*k)));rw[hg];clear hg
  gi_wp2
  exact⟨ho.keeps c1,st',(ho.cell (p:=⟨B,0,none⟩) (by simp;omega)).trans hN.1,ho.row (λx hx=>by have:=hsa x hx;simp;omega) hN.2⟩
 case done=>
  rintro D W hD hst hK;have hX7:=hst.x.lt;go_wp2_with fail;refine(FG w.heap.size i z hz 56 56 W rfl (by omega) (by omega) hst.b).mono ?_;rintro e w7 ⟨rfl,rfl⟩;have c1:W.cell? ⟨X,15,none⟩=some (.int .u32 0):=hst.x.cell (i:=15) rfl;have f1:W.frozen? ⟨X,15,none⟩=false:=an hst.x 15;have s9:ep w z X (eB z i) _:=hst.set (y:=eB z i) 15 (.int .u32 (cR z (i+56))) hs1 rfl;have TP:(W.setCell ⟨X,15,none⟩ (.int .u32 (cR z (i+56)))).heap[D]? =some (.deferred (some [])):=by rw[Below.heap_setCell _ _ _ D (by simp;omega)];exact hK
  have Wh:=rT hz i;go_wp2_with (first|(refine mw rfl (.tmp 7) rfl X (eB z i) rfl s9.x ?_))
  clear c1 f1 hst hK;generalize W.setCell ⟨X,15,none⟩ (.int .u32 (cR z (i+56)))=w8 at s9 TP ⊢;refine(Jy (eB z i) Wh w8).mono ?_;rintro e w9 ⟨rfl,yK⟩;have EW:=s9.below yK;have hD8:D<w8.heap.size:=(Array.getElem?_eq_some_iff.1 TP).1;have Oc:w9.heap[D]? =some (.deferred (some [])):=(yK.block D hD8).trans TP;have Z5:w.heap.size+1<D:=by omega
  clear TP s9 yK
  by_cases hm:decide (eB z i).kz=true
  ·have hg:Hd (dY z i=true):=by show _=_;unfold dY;rw[HV.Z,XW.Z,hm];rfl
   rw[hm];clear hm;have QN:=EW.x;have JO:=EW.r;go_wp2_with (first|(refine mw rfl (.tmp 7) rfl X (eB z i) rfl QN ?_)|(refine bF rfl (.tmp 4) (.tmp 79) rfl (w.heap.size+1) (eB z i) .nil rfl rfl JO ?_))
   intro pL AQ wk;go_wp2_with fail;have Od:=(wk.block D (by omega)).trans Oc;refine dQ (D:=D) Od (dg rfl _ _ (w.heap.size+1) (eB z i) rfl ((World.putObj_heap_other (by omega)).trans AQ)) ⟨?_,eU (EW.bel.trans (wk.below (by omega))) _ af (by omega)⟩;rw[dZ,ea,HP.Z,Int.toNat_natCast,hg.Z];rfl
  rw[Bool.not_eq_true] at hm;have hg:Hd (dY z i=false):=by show _=_;unfold dY;rw[hm];simp
  rw[hm];clear hm;have JO:=EW.r;go_wp2_with (first|(refine bF rfl (.tmp 4) (.tmp 78) rfl (w.heap.size+1) .nil .nil rfl rfl JO ?_))
  intro pL AQ wk;go_wp2_with fail;have Od:=(wk.block D (by omega)).trans Oc;refine dQ (D:=D) Od (dg rfl _ _ (w.heap.size+1) .nil rfl ((World.putObj_heap_other (by omega)).trans AQ)) ⟨?_,eU (EW.bel.trans (wk.below (by omega))) _ af (by omega)⟩;rw[dZ,ea,HP.Z,Int.toNat_natCast,hg.Z];rfl
 rintro D c k W hD hk h hK;exact h.elim
end
def jL(x:Im)(t:Nat):List Value:=(x.ino t).arr.toList
def Du(x:Im)(k t:Nat):List Value:=(if t<k then x.ino t else aS.nil).arr.toList
theorem F7(x:Im)(t:Nat):(jL x t).length=16:=rfl
theorem F5(x:Im)(k t:Nat):(Du x k t).length=16:=rfl
theorem Im.yv(x:Im):x.ino 0=aS.nil:=by unfold Im.ino;rw[if_neg (by omega)]
theorem Im.LH(x:Im)(t:Nat):x.ia t<=192:=by unfold Im.ia;omega
theorem Im.rS{x:Im}(h:x.Ok)(t:Nat):(x.ino t).Ok:=by
 unfold Im.ino;split
 ·exact DV (h.jx _) _
 exact As
theorem mM:(Tryz.prog.info? 63).map (λi=>(i.zero,i.size,i.bytes))=some (some aS.nil.val,16,80):=by kernel_rfl
theorem vu(n:Nat)(hn:n<=2048)(W:World):(Instr.makeSlice 86 (.int .i64 (n:Int)) (.int .i64 (n:Int))).run Tryz.prog W= .ok (.slice (some ⟨W.heap.size,0,none⟩) n n) (W.alloc (.cells (madeCells aS.nil.val.cells (n*16)) 63)):=
 dx (P:=Tryz.prog) 86 63 aS.nil.val 16 80 Tryz.underlying86 mM .i64 .i64 n (by omega) (by omega) W
theorem oP(y:aS):(Tryz.prog.info? 63).map (·.size)=some y.arr.toList.length:=by kernel_rfl
theorem yw(y:aS):∀v∈y.arr.toList,v.oneCell'=true:=by
 have:=Ci y;rwa[<-Array.all_toList,List.all_eq_true] at this
structure Cy(w:World)(p b off cap:Nat)(x:Im)(ds ay own sl un:Value)(q k:Nat)(W:World):Prop where
 a:At W p 105 (XC b off cap x ds (.slice (some ⟨q,0,none⟩) (x.ni+1) (x.ni+1)) ay own sl un)
 i:aM W b off 256 x.n (dR x.L)
 r:aE W q 63 16 (x.ni+1) (Du x k)
 bl:b<W.heap.size
 gr:w.grownBy W (some p)
section
variable {w:World} {p b off cap:Nat} {x:Im} {ds ay own sl un:Value} {q k:Nat} {W W':World}
theorem Cy.below(h:Cy w p b off cap x ds ay own sl un q k W)(hb:Below W.heap.size W W'):Cy w p b off cap x ds ay own sl un q k W':=
 ⟨h.a.below hb h.a.lt,aM.below h.i hb h.bl,h.r.below hb,Nat.lt_of_lt_of_le h.bl hb.size,dC h.gr (bB hb)⟩
theorem aM.only{b n:Nat}(h:aM w b off m n f)(ho:az g w w')(hg:b≠g):aM w' b off m n f:=
 λi hi j v hv=>(ho.cell (p:=⟨b,off+i*m+j,none⟩) hg).trans (h i hi j v hv)
theorem aM.fX{b n:Nat}(h:aM w b off m n f){row:Option Nat}(hg:w.grownBy w' row)(hb:b<w.heap.size)(hr:some b≠row):aM w' b off m n f:=
 λi hi j v hv=>(World.cell?_of_block (w:=w) (a:=⟨b,off+i*m+j,none⟩) (hg.block b hb hr)).trans (h i hi j v hv)
theorem Cy.only(h:Cy w p b off cap x ds ay own sl un q k W)(ho:az g W W')(h1:p≠g)(h2:b≠g)(h3:q≠g)(h4:w.heap.size<=g):Cy w p b off cap x ds ay own sl un q k W':=
 ⟨h.a.only ho h1,aM.only h.i ho h2,h.r.only ho h3,by rw[ho.size];exact h.bl,
  ⟨ho.os.trans h.gr.os,ho.tape.trans h.gr.tape,ho.output.trans h.gr.output,by rw[ho.size];exact h.gr.size,λj hj hne=>(ho.block j (by omega)).trans (h.gr.block j hj hne)⟩⟩
theorem Cy.next(h:Cy w p b off cap x ds ay own sl un q k W)(hk:k<x.ni+1)(hp:p≠q)(hb:b≠q)(hq:w.heap.size<=q):
  Cy w p b off cap x ds ay own sl un q (k+1) (W.setCells q (k*16) (jL x k)):=by
 obtain⟨hr,ho⟩:=h.r.set hk (vs:=jL x k) rfl (F5 x k);refine⟨h.a.only ho hp,aM.only h.i ho hb,hr.congr λt ht=> ?_,by rw[ho.size];exact h.bl,
  ⟨ho.os.trans h.gr.os,ho.tape.trans h.gr.tape,ho.output.trans h.gr.output,by rw[ho.size];exact h.gr.size,λj hj hne=>(ho.block j (by omega)).trans (h.gr.block j hj hne)⟩⟩
 unfold Du jL
 by_cases e:t=k
 ·subst e;rw[if_pos rfl,if_pos (by omega)]
 rw[if_neg e]
 by_cases e2:t<k
 ·rw[if_pos e2,if_pos (by omega)]
 rw[if_neg e2,if_neg (by omega)]
end
structure Lf(w:World)(p b off cap:Nat)(x:Im)(ds ay own sl un:Value)(q k g:Nat)(y:aS)(W:World):Prop where
 s:Cy w p b off cap x ds ay own sl un q k W
 y:bs W g 63 y
theorem Lf.below{p b cap:Nat}{x:Im}{ds ay own sl un:Value}{q k:Nat}{W:World}(h:Lf w p b off cap x ds ay own sl un q k g y W)(hb:Below W.heap.size W W'):Lf w p b off cap x ds ay own sl un q k g y W':=
 ⟨h.s.below hb,(hb.block g (Array.getElem?_eq_some_iff.1 h.y).1).trans h.y⟩
theorem wM(p b off cap:Nat)(x:Im)(hx:x.Ok)(ds ay own sl un:Value)(w:World)(hA:At w p 105 (XC b off cap x ds (.slice none 0 0) ay own sl un))(hI:aM w b off 256 x.n (dR x.L))(mZ:b≠p):
  Calls Tryz.prog 78 #[.pointer (some ⟨p,0,none⟩)] w λe w'=>pT (aK (λt=>x.ki (t+1)) x.ni) 4 e/\w.grownBy w' (some p)/\
   (aK (λt=>x.ki (t+1)) x.ni=true->∃q,w.heap.size<=q/\At w' p 105 (XC b off cap x ds (.slice (some ⟨q,0,none⟩) (x.ni+1) (x.ni+1)) ay own sl un)/\aE w' q 63 16 (x.ni+1) (jL x)):=by
 have HX:=ah hx;obtain⟨h1,h2,h3,h4,h5,h6,h7,h8,h9,h10,h11⟩:=dX hx.may;have gi:=hx.iK;have hn0:0<x.n:=by have:=hx.n;omega
 have hni:x.ni<=256:=eX hx.may;have K8:Hd (qn x.g x.s x.i x.j=((x.ni:Nat):Int)):=vS hx.may;have dt:Hd (zS w p (XC b off cap x ds (.slice none 0 0) ay own sl un) b off x w):=⟨hA,hI,Below.refl _ _⟩;have hpl:=hA.lt;have hbl:b<w.heap.size:=dt.Z.AI hn0;have hg:=XG.of hA;have HG:Hd (w.rangeAt p 6 (ai x.g x.s x.i x.j).toList):=hg;clear hA hI hx hg;have hal:=gI;go_enter Tryz.func78,Tryz.ntmps78;go_wp2_with (first|(refine aH rfl 23 (.tmp 14) rfl p 6 (ai x.g x.s x.i x.j).toList _ rfl HG.Z Tryz.underlying23 rfl (by kernel_rfl) ?_))
 refine(jr x.g x.s x.i x.j _).mono ?_;rintro e w1 ⟨rfl,hb1⟩;rw[K8.Z];have bh:=ah (dt.Z.below hn0 hb1);have hw1:=hb1.size;clear dt hb1 HG;obtain⟨N,hN⟩:=aa x.ni;have HN:=ah hN;rw[<-hN] at hni ⊢;clear hN K8;obtain⟨q,hq⟩:=aa w1.heap.size;have hmk:(Instr.makeSlice 86 (.int .i64 ((N:Int)+1)) (.int .i64 ((N:Int)+1))).run Tryz.prog w1= .ok (.slice (some ⟨q,0,none⟩) (N+1) (N+1)) (w1.alloc (.cells (madeCells aS.nil.val.cells ((N+1)*16)) 63)):=by
  rw[hq];exact vu (N+1) (by omega) w1
 have AN:w.heap.size<=q:=by rw[hq];exact hw1
 obtain⟨W1,hW1⟩:=aa (w1.alloc (.cells (madeCells aS.nil.val.cells ((N+1)*16)) 63));have ha1:At W1 p 105 (XC b off cap x ds (.slice none 0 0) ay own sl un):=by rw[hW1];exact bh.Z.a.alloc _
 have c11:W1.cell? ⟨p,11,none⟩=some (.slice none 0 0):=ha1.cell (i:=11) rfl;have f11:W1.frozen? ⟨p,11,none⟩=false:=an ha1 11;rw[<-hW1] at hmk;have bW:Hd (Cy w p b off cap x ds ay own sl un q 0 (W1.setCell ⟨p,11,none⟩ (.slice (some ⟨q,0,none⟩) (N+1) (N+1)))):=by
  have ho:az p W1 (W1.setCell ⟨p,11,none⟩ (.slice (some ⟨q,0,none⟩) (N+1) (N+1))):=az.setCell W1 ⟨p,11,none⟩ _;have hbW:Below w1.heap.size w1 W1:=by rw[hW1];exact ag.alloc af _
  have NA:aE W1 q 63 16 (N+1) (λ_=>aS.nil.arr.toList):=by
   rw[hW1,hq];exact aE.made (m:=16) w1 aS.nil.arr rfl (by omega) (N+1) _
  have hb1:=bh.Z.AI hn0;refine⟨by rw[<-HN.Z];exact ha1.xO 11 _,aM.only (aM.below bh.Z.i hbW hb1) ho mZ,?_,by rw[ho.size];exact Nat.lt_of_lt_of_le hb1 hbW.size,dC (bB (bh.Z.bel.trans (hbW.mono bh.Z.bel.size))) (fD ho)⟩;rw[<-HN.Z];refine(NA.only ho (by omega)).congr λt ht=> ?_
  unfold Du;rw[if_neg (by omega)]
 have HQ:=ah AN;clear hW1 ha1 hq bh hw1;go_wp2_with fail;clear c11 f11 hmk;have fh:Hd (Cy w p b off cap x ds ay own sl un q (0+1) (W1.setCell ⟨p,11,none⟩ (.slice (some ⟨q,0,none⟩) (N+1) (N+1)))):=by
  have h:=bW.Z;refine⟨h.a,h.i,h.r.congr λt ht=> ?_,h.bl,h.gr⟩;unfold Du
  by_cases e:t=0
  ·subst e;rw[if_neg (by omega),if_pos (by omega),x.yv]
  rw[if_neg (by omega),if_neg (by omega)]
 have hpq:p≠q:=by omega
 have hbq:b≠q:=by omega
 clear bW;go_loopw [3] (λu wr=>∃k:Nat,k<=N/\u= .int .i64 ((k:Int)+1)/\(∀t,t<k->x.ki (t+1)=true)/\Cy w p b off cap x ds ay own sl un q (k+1) wr) (λu _=>N+1-(intOf u).toNat)
 case atStart=>exact⟨0,Nat.zero_le _,rfl,λt h=>by omega,fh.Z⟩
 clear fh;obtain⟨k,hk,rfl,hP,st⟩:=hrel;have lW:=ah hP;clear hP
 by_cases hlt:k<N
 ·have hlt':(k:Int)+1<=(N:Int):=by omega
  have BW:k<x.g*x.i:=by have:=HN.Z;unfold Im.ni at this;omega
  have HS:=ah st;have HG:Hd (wr.rangeAt p 6 (ai x.g x.s x.i x.j).toList):=XG.of st.a;clear st;go_wp2_with (first|(refine aH rfl 23 (.tmp 31) rfl p 6 (ai x.g x.s x.i x.j).toList _ rfl HG.Z Tryz.underlying23 rfl (by kernel_rfl) ?_))
  refine(wH x.g x.s x.i x.j k HX.Z.may BW wr).mono ?_;rintro e w1 ⟨rfl,hb1⟩;have fj:=HS.Z.below hb1;clear HS HG hb1;have jS:Hd (2+x.j+k/x.i*x.s+2+k%x.i/4=x.ib (k+1)):=rfl;have jQ:Hd (k%x.i%4*64=x.ia (k+1)):=rfl;rw[jS.Z,jQ.Z];clear jS jQ;have RI:x.ib (k+1)<x.n:=by
   have hγ:k/x.i<x.g:=Nat.div_lt_of_lt_mul (by rw[Nat.mul_comm];exact BW);have hr:k%x.i<x.i:=Nat.mod_lt _ (by omega);have:=HX.Z.st hγ (d:=2+k%x.i/4) (by omega);show x.st (k/x.i)+2+k%x.i/4<x.n;omega
  have SX:Hd (x.ino (k+1)=dZ (x.L (x.ib (k+1))) (x.ia (k+1))):=by
   show _=_;unfold Im.ino;rw[if_pos ⟨by omega,by have:=HN.Z;omega⟩]
  have Rz:x.ia (k+1)<=192:=x.LH (k+1);obtain⟨I,hI⟩:=aa (x.ib (k+1));obtain⟨a,ha⟩:=aa (x.ia (k+1));have HII:=ah hI;have Mw:=ah ha;rw[<-hI] at RI ⊢;rw[<-ha] at Rz ⊢;clear hI ha;have ZT:(I:Int)<(x.n:Int):=by omega
  have c0:w1.cell? ⟨p,0,none⟩=some (.slice (some ⟨b,off,none⟩) x.n cap):=fj.a.cell (i:=0) rfl;have hrg:w1.rangeAt b (off+I*256) (dR x.L I):=aM.range fj.i I RI;go_wp2_with (first|(refine aH rfl 32 (.tmp 44) rfl b (off+I*256) (dR x.L I) _ rfl hrg Tryz.underlying32 rfl (by rw[aZ];exact aA) ?_))
  refine(AB (x.L I) (HX.Z.jx I) (a:Int) w1 (by omega) (by omega)).mono ?_;rintro e w2 ⟨rfl,hb2⟩;have ec:=fj.below hb2;have xe:Hd (dZ (x.L I) (a:Int)=x.ino (k+1)):=by show _=_;rw[SX.Z,HII.Z,Mw.Z]
  rw[xe.Z];clear fj c0 hrg hb2 SX;obtain⟨y,hy⟩:=aa (x.ino (k+1));have HY:=ah hy;rw[<-hy];clear hy;have hnew:=bs.new w2 .nil;go_wp2_with (first|(refine bF rfl (.tmp 7) (.tmp 48) rfl w2.heap.size y .nil rfl rfl hnew ?_))
  intro w3 Vi lS;obtain⟨g,hg⟩:=aa w2.heap.size;have hgl:w.heap.size<=g/\p≠g/\b≠g/\q≠g:=by
   have h1:=ec.gr.size;have h2:=ec.r.lt;have h3:=ec.bl;have h4:=ec.a.lt;omega
  obtain⟨hg1,hg2,hg3,hg4⟩:=hgl;rw[<-hg] at Vi lS ⊢;have fw:Lf w p b off cap x ds ay own sl un q (k+1) g y w3:=⟨(ec.below (ag.alloc af _)).only lS hg2 hg3 hg4 hg1,Vi⟩;clear hnew Vi lS hg ec;have kf:k<x.ni:=by have:=HN.Z;omega
  have Q6:N=x.ni:=HN.Z;have OV:Hd (w3.rangeAt p 6 (ai x.g x.s x.i x.j).toList):=XG.of fw.s.a;obtain⟨E,hE⟩:=aa (ea (x.L I) (a:Int));have Tc:Hd (E=ea (x.L (x.ib (k+1))) (x.ia (k+1))):=by show _=_;rw[hE,HII.Z,Mw.Z]
  rw[<-hE];clear hE;have cY:Hd (x.ki (k+1)=false->(pT (aK (λt=>x.ki (t+1)) x.ni) 4 (.panicked (sB 4))/\(aK (λt=>x.ki (t+1)) x.ni=true->False))):=λh=>
   ⟨.inr ⟨bR (p:=λt=>x.ki (t+1)) kf h,rfl⟩,λh2=>by rw[bR (p:=λt=>x.ki (t+1)) kf h] at h2;cases h2⟩
  have OF:=ah fw;have K8:=ah Q6;clear fw kf Q6
  by_cases mq:E=0
  rotate_left
  ·have q1:(E==0)=false:=by simp[mq]
   have HF:Hd (x.ki (k+1)=false):=by show _=_;unfold Im.ki;rw[<-Tc.Z,q1];rfl
   clear mq;go_wp2_with fail;refine(ir 4 _).mono ?_;rintro e w4 ⟨rfl,rfl⟩;exact⟨rfl,(cY.Z HF.Z).1,OF.Z.s.gr,λh=>((cY.Z HF.Z).2 h).elim⟩
  subst mq;go_wp2_with fail;refine(gN 4 _).mono ?_;rintro e w4 ⟨rfl,rfl⟩;go_wp2_with (first|(refine aH rfl 23 (.tmp 56) rfl p 6 (ai x.g x.s x.i x.j).toList _ rfl OV.Z Tryz.underlying23 rfl (by kernel_rfl) ?_))
  refine(pA x.g x.s x.i x.j k HX.Z.may BW _).mono ?_;rintro e w5 ⟨rfl,om⟩;have eC:=OF.Z.below om;obtain⟨γ,hγ⟩:=aa (k/x.i);obtain⟨ρ,hρ⟩:=aa (k%x.i);have YS:γ<x.g:=by rw[hγ];exact Nat.div_lt_of_lt_mul (by rw[Nat.mul_comm];exact BW)
  have hρ9:ρ<x.i:=by rw[hρ];exact Nat.mod_lt _ (by omega)
  obtain⟨Q,hQ⟩:=aa (x.st γ);have lh:Q+1<x.n:=by rw[hQ];exact HX.Z.st YS (by omega)
  have HUS:Hd (x.used (k+1)=bt (x.L (Q+1)) ρ):=by show _=_;rw[hQ,hγ,hρ];rfl
  have HSQ:Hd (2+x.j+γ*x.s=Q):=hQ.symm;rw[<-hγ,<-hρ];clear om OV OF hγ hρ hQ;have Vu:(Q:Int)+1<(x.n:Int):=by omega
  have q0:(0:Int)<=(Q:Int)+1:=by omega
  go_wp2_with fail;refine aG (Lf w p b off cap x ds ay own sl un q (k+1) g y) 16 (by kernel_rfl) (by kernel_rfl) (by kernel_rfl) (by kernel_rfl) (by kernel_rfl) (by decide) (eC.below ag.drew) ?_;clear eC;simp only[List.take,List.drop];intro hne;have hc:∀z:a9 (Lf w p b off cap x ds ay own sl un q (k+1) g y),z.W.cell? ⟨p,0,none⟩=some (.slice (some ⟨b,off,none⟩) x.n cap):=λz=>z.h.s.a.cell (i:=0) rfl
  have ku:∀z:a9 (Lf w p b off cap x ds ay own sl un q (k+1) g y),z.W.cell? ⟨g,0,none⟩=some (.int .u8 y.kind):=λz=>aF z.h.y (i:=0) rfl
  iterate 6 go_big_quiet_step (fail)
  go_big_quiet_want
  go_big_quiet_op
  refine⟨_,λs=>aN s (λW hW=>(jh p x.g x.s x.i x.j γ HX.Z.may YS W (XG.of hW.s.a)).mono λe w' h=>⟨show e= .returned (.int .i64 ((Q:Nat):Int)) by rw[h.1,HSQ.Z],hW.below h.2⟩),?_⟩
  go_big_quiet_on
  iterate 2 go_big_quiet_step (fail)
  refine aO rfl 32 (.tmp 71) rfl b (off+(Q+1)*256) rfl (dR x.L (Q+1)) _ (λW h=>aM.range h.s.i (Q+1) lh) Tryz.underlying32 rfl (by rw[aZ];exact aA) ?_;refine aj ?_;go_big_quiet_step (fail)
  go_big_quiet_want
  go_big_quiet_op
  refine⟨_,λs=>aN s (λW hW=>(zk (HX.Z.jx (Q+1)) _ ρ rfl (by omega) W).mono λe w' h=>⟨h.1,hW.below h.2⟩),?_⟩
  go_big_quiet_on
  iterate 4 go_big_quiet_step (fail)
  refine wpQuiet_nil ?_;intro w6 h6;have eQ:=h6.Z;clear h6 hne hc ku;obtain⟨c,hcc⟩:=aa ((bt (x.L (Q+1)) ρ==(y.kind !=0)));have iT:Hd (x.ki (k+1)=c):=by show _=_;unfold Im.ki;rw[<-Tc.Z,HUS.Z,<-HY.Z,hcc];rfl
  have jj:=ah eQ;rw[<-hcc];clear eQ hcc;go_wp2_with fail;refine(bJ 4 c _).mono ?_;rintro e w7 ⟨hS,rfl⟩;rcases hS with⟨rfl,rfl⟩|⟨rfl,rfl⟩
  rotate_left
  ·exact⟨rfl,(cY.Z iT.Z).1,jj.Z.s.gr,λh=>((cY.Z iT.Z).2 h).elim⟩
  clear cY Tc HUS HSQ lh Vu q0;have Rg:(k:Int)+1<(x.ni:Int)+1:=by have:=K8.Z;omega
  have k0:(0:Int)<=(k:Int)+1:=by omega
  go_wp2_with fail;refine aG (Lf w p b off cap x ds ay own sl un q (k+1) g y) 7 (by kernel_rfl) (by kernel_rfl) (by kernel_rfl) (by kernel_rfl) (by kernel_rfl) (by decide) (jj.Z.below ag.drew) ?_;clear jj;simp only[List.take,List.drop];intro hne;have hc:∀z:a9 (Lf w p b off cap x ds ay own sl un q (k+1) g y),z.W.cell? ⟨p,11,none⟩=some (.slice (some ⟨q,0,none⟩) (x.ni+1) (x.ni+1)):=λz=>z.h.s.a.cell (i:=11) rfl
  iterate 5 go_big_quiet_step (fail)
  refine aO rfl 63 (.tmp 7) rfl g 0 rfl y.arr.toList _ (λW h=>At.range (show At W g 63 y.arr from h.y)) Tryz.underlying63 rfl (by kernel_rfl) ?_;refine aj ?_;go_big_quiet_step (fail)
  refine wpQuiet_nil ?_;intro w8 h8;have s9:=h8.Z;clear h8 hne hc;have gG:w8.there q ((k+1)*16) y.arr.toList.length:=s9.s.r.there (k:=k+1) (by have:=K8.Z;omega);have oo:Hd (Cy w p b off cap x ds ay own sl un q (k+1+1) (w8.setCells q ((k+1)*16) y.arr.toList)):=by
   have:=s9.s.next (k:=k+1) (by have:=K8.Z;omega) hpq hbq HQ.Z
   rw[HY.Z];exact this
  have eW:Hd (∀t,t<k+1->x.ki (t+1)=true):=λt ht=>by
   rcases Nat.lt_succ_iff_lt_or_eq.1 ht with h|h
   ·exact lW.Z t h
   rw[h];exact iT.Z
  clear s9;go_wp2_with (first|(refine iY rfl 63 (.tmp 86) (.tmp 85) rfl q ((k+1)*16) y.arr.toList rfl rfl gG (oP y) (yw y) ?_))
  intro w9 Ig;rw[<-Ig.Z] at oo;clear Ig gG;go_wp2_with fail;go_roundw
  case rel=>(try((repeat apply Exists.intro);refine⟨?_,rfl⟩));exact⟨k+1,by omega,by first|rfl|go_num,eW.Z,oo.Z⟩
  simp[intOf];omega
 obtain rfl:k=N:=by omega
 have ST:=ah st;clear st;go_wp2_with fail;refine bodyPost_end (results_none rfl _ _ _) rfl ⟨.inl ⟨by rw[<-HN.Z];exact(aY _ _).2 lW.Z,rfl⟩,ST.Z.gr,λ_=>⟨q,HQ.Z,ST.Z.a,ST.Z.r.congr (f':=jL x) λt ht=>by unfold Du jL;rw[if_pos (by have:=HN.Z;omega)]⟩⟩
section
open Go.Shelf
theorem ep.drewN{W:World}(h:ep w z X x W)(m:Nat):ep w z X x (W.drewN m):=⟨h.b,h.r,h.x,iD h.bel m⟩
theorem MV{W:World}(hz:bu z)(i k:Nat)(K:Int)(hK:K=(i:Int)+(k:Int))(h:i+k+2<=256)(st:ep w z X x W):
  Calls Tryz.prog 143 #[.slice (some ⟨w.heap.size,0,none⟩) 256 256,.int .i64 K] W λe w'=>e= .returned (.tuple #[.int .u32 (g16 z (i+k)),.bool true])/\ep w z X x w':=by
 have:=mA w.heap.size 0 256 256 K z W (by omega) (by omega) (by omega) st.b.bQ hz;rw[show K.toNat=i+k by omega] at this;exact this.mono λe w' ⟨he,m,hw⟩=>⟨he,hw▸st.drewN m⟩
theorem vx{W:World}(hz:bu z)(i k:Nat)(K:Int)(hK:K=(i:Int)+(k:Int))(h:i+k+4<=256)(st:ep w z X x W):
  Calls Tryz.prog 106 #[.slice (some ⟨w.heap.size,0,none⟩) 256 256,.int .i64 K] W λe w'=>e= .returned (.tuple #[.int .u32 (cR z (i+k)),.bool true])/\ep w z X x w':=by
 have:=fx w.heap.size 0 256 256 K z W (by omega) (by omega) (by omega) st.b.bQ hz;rw[show K.toNat=i+k by omega] at this;exact this.mono λe w' ⟨he,m,hw⟩=>⟨he,hw▸st.drewN m⟩
theorem Fz(z:Nat->Int)(hz:bu z)(a:Int)(w:World)(h0:-9223372036854775808<=a)(h1:a<=9223372036854775807):
  Calls Tryz.prog 149 #[aR z,.int .i64 a] w λe w'=>e= .returned (.tuple #[(dZ z a).val,.int .i64 (ea z a)])/\Below w.heap.size w w':=by
 have hal:=gI;go_enter Tryz.func149,Tryz.ntmps149;go_wp2_with fail;refine((mz a _).mono (R':=λe w'=>e= .returned (.bool (cH a))/\Hr w z w') (λe w' h=>⟨h.1,h.2▸py w z⟩)).mono ?_;rintro e w1 ⟨rfl,hf⟩;clear hal
 by_cases hp:cH a=true
 rotate_left
 ·rw[Bool.not_eq_true] at hp
  have HP:=ah hp;rw[hp];clear hp;go_wp2_with (first|(refine bF rfl (.tmp 4) (.tmp 15) rfl (w.heap.size+1) .nil .nil rfl rfl hf.i ?_))
  intro w2 hi2 eI;go_wp2_with fail;refine bodyPost_ret (dg rfl _ _ (w.heap.size+1) .nil rfl hi2) rfl ⟨?_,hf.bel.trans (eI.below (by omega))⟩;rw[dZ,ea,HP.Z];rfl
 have HP:=ah hp;have hpl:=(eG a).1 hp;rw[hp];have ha0:0<=a:=by omega
 have ha1:a<=192:=by omega
 clear hp hpl;obtain⟨i,rfl⟩:=Int.eq_ofNat_of_zero_le ha0;have hsa:=λW=>bw w.heap.size 0 W
 have hsl:=λW=>ct w.heap.size 0 (i+60) (i+64) ((i:Int)+60) ((i:Int)+64) rfl (by omega) (by omega) (by omega) (by omega) W
 simp only[Nat.zero_add,show i+64-(i+60)=4 by omega] at hsl;have zM:=ah hsl;clear hsl;have fj:ep w z (w.heap.size+1) .nil w1:=⟨hf.b,hf.i,hf.i,hf.bel⟩;clear hf;go_wp2_with fail;refine(MV hz i 2 _ rfl (by omega) fj).mono ?_;rintro e w2 ⟨rfl,ec⟩;clear fj;go_wp2_with fail;refine(vx hz i 8 _ rfl (by omega) ec).mono ?_;rintro e w3 ⟨rfl,fw⟩;clear ec;have c0:w3.cell? ⟨w.heap.size,i,none⟩=some (.int .u8 (z i)):=by have:=fw.b.bQ i (by omega);rwa[Nat.zero_add] at this
 have g2:=oS hz (i+2);have g8:=dP hz (i+8);obtain⟨g20,g21⟩:=g2;obtain⟨g80,g81⟩:=g8;have hs1:w.heap.size+1<w3.heap.size:=fw.r.lt;have hnew:=bs.new w3 .nil;have hal:=gI;go_wp2_with (first|(refine bF rfl (.tmp 10) (.tmp 37) rfl w3.heap.size ⟨z i,g16 z (i+2),0,cR z (i+8),λ_=>0,0⟩ .nil rfl rfl hnew ?_))
 intro w4 hi4 ke;have ij:ep w z w3.heap.size ⟨z i,g16 z (i+2),0,cR z (i+8),λ_=>0,0⟩ w4:=⟨(fw.b.alloc _).only ke (by omega),(fw.r.alloc _).only ke (by omega),hi4,(fw.bel.alloc (by omega) _).trans (ke.below (by omega))⟩;clear hal hnew ke c0 hi4 fw;generalize w3.heap.size=X at*;clear w3;go_wp2_with fail;refine(vx hz i 4 _ rfl (by omega) ij).mono ?_;rintro e w5 ⟨rfl,eC⟩;clear ij;have c1:w5.cell? ⟨X,2,none⟩=some (.int .u32 0):=eC.x.cell (i:=2) rfl;have f1:w5.frozen? ⟨X,2,none⟩=false:=an eC.x 2;have eQ:ep w z X (gS z i 0) _:=eC.set (y:=gS z i 0) 2 (.int .u32 (cR z (i+4))) hs1 rfl;go_wp2_with fail;clear c1 f1 eC;generalize w5.setCell ⟨X,2,none⟩ (.int .u32 (cR z (i+4)))=w6 at eQ ⊢;go_loopw [11] (λu wr=>∃k:Nat,k<=11/\u= .int .i64 (k:Int)/\ep w z X (gS z i k) wr) (λu _=>11-(intOf u).toNat)
 case atStart=>exact⟨0,by omega,rfl,eQ⟩
 clear eQ;obtain⟨k,hk,rfl,st⟩:=hrel
 by_cases hlt:k<11
 ·have l0:(0:Int)<=(k:Int):=by omega
  have l1:(k:Int)<11:=by omega
  go_wp2_with fail;refine(vx hz (i+12) (4*k) _ (by omega) (by omega) st).mono ?_;rintro e w7 ⟨rfl,jl⟩;have c1:w7.cell? ⟨X,4+k,none⟩=some (.int .u32 ((gS z i k).p k)):=jl.x.ptr k hlt;have f1:w7.frozen? ⟨X,4+k,none⟩=false:=an jl.x (4+k);have s9:=jl.set (y:=gS z i (k+1)) (4+k) (.int .u32 (cR z (i+12+4*k))) hs1 (Ch z i k hlt);go_wp2_with fail;go_roundw
  case rel=>exact⟨k+1,by omega,by go_num,s9⟩
  simp[intOf];omega
 obtain rfl:k=11:=by omega
 go_wp2_with fail;refine(vx hz i 56 _ rfl (by omega) st).mono ?_;rintro e w7 ⟨rfl,jl⟩;have c1:w7.cell? ⟨X,15,none⟩=some (.int .u32 0):=jl.x.cell (i:=15) rfl;have f1:w7.frozen? ⟨X,15,none⟩=false:=an jl.x 15;have s9:ep w z X (eB z i) _:=jl.set (y:=eB z i) 15 (.int .u32 (cR z (i+56))) hs1 rfl;have b1:(w7.setCell ⟨X,15,none⟩ (.int .u32 (cR z (i+56)))).cell? ⟨w.heap.size,i+1,none⟩=some (.int .u8 (z (i+1))):=by have:=s9.b.bQ (i+1) (by omega);rwa[Nat.zero_add] at this
 have hsl:=zM.Z;clear zM
 by_cases hv:z (i+1)=0
 rotate_left
 ·have q1:(z (i+1) !=0)=true:=by simpa using hv
  have hg:Hd (dY z i=false):=by show _=_;unfold dY;simp[hv]
  have VB:=s9.r;clear hv hsl;go_wp2_with (first|(refine bF rfl (.tmp 4) (.tmp 90) rfl (w.heap.size+1) .nil .nil rfl rfl VB ?_))
  intro w9 zH gQ;go_wp2_with fail;refine bodyPost_ret (dg rfl _ _ (w.heap.size+1) .nil rfl zH) rfl ⟨?_,s9.bel.trans (gQ.below (by omega))⟩;rw[dZ,ea,HP.Z,Int.toNat_natCast,hg.Z];rfl
 have q1:(z (i+1) !=0)=false:=by simpa using hv
 have HV:=ah hv;clear hv;have hrow:Hd (Row (w7.setCell ⟨X,15,none⟩ (.int .u32 (cR z (i+56)))) (some ⟨w.heap.size,i+60,none⟩) 4 (λj=>z (i+60+j))):=.inr ⟨_,_,rfl,by have:=s9.b.bQ.sub (i+60) 4 (by omega);rwa[Nat.zero_add] at this⟩;go_wp2_with fail;refine(oD _ _ _ _ _ (by omega) (by exact hrow.Z)).mono ?_;rintro e w8 ⟨rfl,rfl⟩;clear hsl hrow b1 q1 c1 f1;generalize w7.setCell ⟨X,15,none⟩ (.int .u32 (cR z (i+56)))=w8 at s9 ⊢
 by_cases hzz:dw (λj=>z (i+60+j)) 4=true
 rotate_left
 ·rw[Bool.not_eq_true] at hzz
  have hg:Hd (dY z i=false):=by show _=_;unfold dY;rw[hzz];simp
  rw[hzz];clear hzz;have VB:=s9.r;go_wp2_with (first|(refine bF rfl (.tmp 4) (.tmp 90) rfl (w.heap.size+1) .nil .nil rfl rfl VB ?_))
  intro w9 zH gQ;go_wp2_with fail;refine bodyPost_ret (dg rfl _ _ (w.heap.size+1) .nil rfl zH) rfl ⟨?_,s9.bel.trans (gQ.below (by omega))⟩;rw[dZ,ea,HP.Z,Int.toNat_natCast,hg.Z];rfl
 have XW:=ah hzz;rw[hzz];clear hzz;have Wh:=rT hz i;have Y0:=s9.x;go_wp2_with (first|(refine xB rfl (.tmp 10) rfl X (eB z i) rfl Y0 ?_))
 refine(rj _ Wh _).mono ?_;rintro e w9 ⟨rfl,yK⟩;have EW:=s9.below yK;clear s9 yK Y0
 by_cases hm:(eB z i).kz
 ·have hg:Hd (dY z i=true):=by show _=_;unfold dY;rw[XW.Z,HV.Z,decide_eq_true hm];rfl
  rw[decide_eq_true hm];clear hm;have JO:=EW.r;have QN:=EW.x;go_wp2_with (first|(refine mw rfl (.tmp 10) rfl X (eB z i) rfl QN ?_)|(refine bF rfl (.tmp 4) (.tmp 91) rfl (w.heap.size+1) (eB z i) .nil rfl rfl JO ?_))
  intro pL AQ wk;go_wp2_with fail;refine bodyPost_ret (dg rfl _ _ (w.heap.size+1) (eB z i) rfl AQ) rfl ⟨?_,EW.bel.trans (wk.below (by omega))⟩;rw[dZ,ea,HP.Z,Int.toNat_natCast,hg.Z];rfl
 have hg:Hd (dY z i=false):=by show _=_;unfold dY;rw[decide_eq_false hm];simp
 rw[decide_eq_false hm];clear hm;have JO:=EW.r;go_wp2_with (first|(refine bF rfl (.tmp 4) (.tmp 90) rfl (w.heap.size+1) .nil .nil rfl rfl JO ?_))
 intro pL AQ wk;go_wp2_with fail;refine bodyPost_ret (dg rfl _ _ (w.heap.size+1) .nil rfl AQ) rfl ⟨?_,EW.bel.trans (wk.below (by omega))⟩;rw[dZ,ea,HP.Z,Int.toNat_natCast,hg.Z];rfl
end
end Go.Proofs.YtphamecphmbipaaGreatDoor
