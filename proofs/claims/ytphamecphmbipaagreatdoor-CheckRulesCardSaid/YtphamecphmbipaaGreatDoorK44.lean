/- Texts of this claim, merged. -/
import Derived.Test.YtphamecphmbipaaGreatDoorK42
import Derived.Test.YtphamecphmbipaaGreatDoorK43
set_option linter.unusedVariables false
set_option maxRecDepth 100000
set_option maxHeartbeats 16000000

namespace Go.Proofs.YtphamecphmbipaaGreatDoor
open Go.RowKit
open Lib (hid)
variable {w W':World} {cap base mc m i B B':Nat} {ma a:Option Addr} {L:Nat->Nat->Int} {o:Nat->Nat} {f:Nat->List Value} {P:PlanD}
theorem AM(v:Value)(n:Nat)(L:Nat->Nat->Int)(hL:∀i,bm (L i))(fY:n<=4294967296)(w:World)(hT:Tab w)(hv:wU w v n L):
  Calls Tryz.prog 22 #[v] w λe w'=>e= .returned (.int .i64 (((Im.of L n).aN.1:Nat):Int))/\Below w.heap.size w w':=by
 have HE:=hid (gp v n L hL fY w hT hv);clear hT hv hL;go_enter Tryz.func22,Tryz.ntmps22;go_wp2_with fail;refine HE.out.mono ?_;rintro e w1 ⟨p,rfl,hb,_⟩;have HB:=hid hb;clear hb HE;go_wp2_with fail;go_ret;exact⟨rfl,HB.out⟩
theorem yR(v:Value)(n:Nat)(L:Nat->Nat->Int)(hL:∀i,bm (L i))(fY:n<=4294967296)(w:World)(hT:Tab w)(hv:wU w v n L):
  Calls Tryz.prog 15 #[v] w λe w'=>(((Im.of L n).aN.1≠0/\e= .returned (.tuple #[gu 0 0 0 0 0,.int .i64 200]))\/((Im.of L n).aN.1=0/\(Im.of L n).Ok/\e= .returned (.tuple #[gu (Im.of L n).g (Im.of L n).s (Im.of L n).i (Im.of L n).j (Im.of L n).o,.int .i64 0])))/\Below w.heap.size w w':=by
 have hzs:=fe;have hA0:=At.new w 47 (aj 0 0 0 0 0);have hb0:Below w.heap.size w (w.alloc (.cells (aj 0 0 0 0 0) 47)):=(Below.refl _ _).alloc (Nat.le_refl _) _;have HE:=hid (gp v n L hL fY _ (hT.below hb0 (Nat.le_refl _)) (hv.below hb0));have uK:=hid hA0;have pn:=hid hb0;clear hT hv hL hA0 hb0;go_enter Tryz.func15,Tryz.ntmps15;go_wp2_with fail;refine HE.out.mono ?_;rintro e w1 ⟨p,rfl,hb,hx⟩;have hr:=uK.out.below hb uK.out.lt;have HB:=hid (pn.out.trans (hb.mono pn.out.size));have HX:=hid hx;clear hb HE hx uK pn;obtain⟨K,hK⟩:∃K,K=(((Im.of L n).aN.1:Nat):Int):=⟨_,rfl⟩;rw[<-hK];have HK:=hid hK;clear hK
 by_cases h0:K=0
 ·have q0:(K !=0)=false:=by simp[h0]
  have e0:(Im.of L n).aN.1=0:=by have:=HK.out;omega
  obtain⟨hok,ds,ino,ak,sl,un,g,hA,hR,hg,oC⟩:=HX.out e0;have HO:=hid hok;have E0:=hid e0;have hrg:w1.rangeAt p 1 (aj (Im.of L n).g (Im.of L n).s (Im.of L n).i (Im.of L n).j (Im.of L n).o).toList:=λk v' hk=>by
   match k,hk with
   |0,hk=>injection hk with hk;subst hk;exact hA.cell (i:=1) rfl
   |1,hk=>injection hk with hk;subst hk;exact hA.cell (i:=2) rfl
   |2,hk=>injection hk with hk;subst hk;exact hA.cell (i:=3) rfl
   |3,hk=>injection hk with hk;subst hk;exact hA.cell (i:=4) rfl
   |4,hk=>injection hk with hk;subst hk;exact hA.cell (i:=5) rfl
   |k+5,hk=>cases hk
  clear h0 HX hA hR hg oC hok e0;go_wp2_with (first|(refine aB rfl 47 _ rfl p 1 (aj (Im.of L n).g (Im.of L n).s (Im.of L n).i (Im.of L n).j (Im.of L n).o).toList _ rfl hrg Tryz.underlying47 rfl (by kernel_rfl) ?_)|(refine ax rfl 47 (.tmp 2) (.tmp 17) rfl w.heap.size (aj (Im.of L n).g (Im.of L n).s (Im.of L n).i (Im.of L n).j (Im.of L n).o) (aj 0 0 0 0 0) rfl rfl hr aR rfl (eL _ _ _ _ _) ?_))
  intro w9 jf gD;clear hrg hr;go_wp2_with fail;exact bodyPost_ret (aW rfl _ _ w.heap.size _ _ _ _ _ rfl jf) rfl ⟨.inr ⟨E0.out,HO.out,rfl⟩,HB.out.trans (gD.below (Nat.le_refl _))⟩
 have q0:(K !=0)=true:=by simp[h0]
 have E0:Hid ((Im.of L n).aN.1≠0):=by show _≠_;have:=HK.out;omega
 clear h0 HX;go_wp2_with (first|(refine ax rfl 47 (.tmp 2) (.tmp 13) rfl w.heap.size (aj 0 0 0 0 0) (aj 0 0 0 0 0) rfl rfl hr aR rfl (eL _ _ _ _ _) ?_))
 intro w9 jf gD;clear hr;go_wp2_with fail;exact bodyPost_ret (aW rfl _ _ w.heap.size _ _ _ _ _ rfl jf) rfl ⟨.inl ⟨E0.out,rfl⟩,HB.out.trans (gD.below (Nat.le_refl _))⟩
theorem yP(v:Value)(n:Nat)(L:Nat->Nat->Int)(hL:∀i,bm (L i))(fY:n<=4294967296)(w:World)(hT:Tab w)(hv:wU w v n L):
  Calls Tryz.prog 26 #[v] w λe w'=>e= .returned (.bool (decide ((Im.of L n).aN.1=0/\(Im.of L n).o=0)))/\Below w.heap.size w w':=by
 have HE:=hid (gp v n L hL fY w hT hv);clear hT hv hL;go_enter Tryz.func26,Tryz.ntmps26;go_wp2_with fail;refine HE.out.mono ?_;rintro e w1 ⟨p,rfl,hb,hx⟩;have HB:=hid hb;have HX:=hid hx;clear hb HE hx;obtain⟨K,hK⟩:∃K,K=(((Im.of L n).aN.1:Nat):Int):=⟨_,rfl⟩;rw[<-hK];have HK:=hid hK;clear hK
 by_cases h0:K=0
 ·have q0:(K==0)=true:=by simp[h0]
  have e0:(Im.of L n).aN.1=0:=by have:=HK.out;omega
  obtain⟨hok,ds,ino,ak,sl,un,g,hA,hR,hg,oC⟩:=HX.out e0;have E0:=hid e0;obtain⟨O,hO⟩:∃O,O=(((Im.of L n).o:Nat):Int):=⟨_,rfl⟩;have c5:w1.cell? ⟨p,5,none⟩=some (.int .u32 O):=by rw[hO];exact hA.cell (i:=5) rfl
  have HO:=hid hO;clear h0 HX hA hR hg oC hok e0 hO;go_wp2_with fail;go_ret;refine⟨?_,HB.out⟩;have:(O==0)=decide ((Im.of L n).aN.1=0/\(Im.of L n).o=0):=by
   rw[HO.out,E0.out]
   by_cases h:(Im.of L n).o=0
   ·simp[h]
   simp[h]
  rw[this];rfl
 have q0:(K==0)=false:=by simp[h0]
 have E0:Hid ((Im.of L n).aN.1≠0):=by show _≠_;have:=HK.out;omega
 clear h0 HX;go_wp2_with fail;go_ret;exact⟨by rw[decide_eq_false (λh=>E0.out h.1)];rfl,HB.out⟩
def Kz(w:World)(n:Nat)(L:Nat->Nat->Int)(e:Ending)(w':World):Prop:=
 Below w.heap.size w w'/\(((Im.of L n).aN.1≠0/\e= .returned (.slice none 0 0))\/((Im.of L n).aN.1=0/\(Im.of L n).Ok/\∃g,e= .returned (.slice (some ⟨g,0,none⟩) n n)/\w.heap.size<=g/\az w' g 3 1 n (mw (Im.of L n).aN.2)))
theorem wm(v:Value)(n:Nat)(L:Nat->Nat->Int)(hL:∀i,bm (L i))(fY:n<=4294967296)(w:World)(hT:Tab w)(hv:wU w v n L):
  Calls Tryz.prog 14 #[v] w λe w'=>Kz w n L e w':=by
 have HE:=hid (gp v n L hL fY w hT hv);clear hT hv hL;go_enter Tryz.func14,Tryz.ntmps14;go_wp2_with fail;refine HE.out.mono ?_;rintro e w1 ⟨p,rfl,hb,hx⟩;have HB:=hid hb;have HX:=hid hx;clear hb HE hx;obtain⟨K,hK⟩:∃K,K=(((Im.of L n).aN.1:Nat):Int):=⟨_,rfl⟩;rw[<-hK];have HK:=hid hK;clear hK
 by_cases h0:K=0
 ·have q0:(K !=0)=false:=by simp[h0]
  have e0:(Im.of L n).aN.1=0:=by have:=HK.out;omega
  obtain⟨hok,ds,ino,ak,sl,un,g,hA,hR,hg,oC⟩:=HX.out e0;have c13:w1.cell? ⟨p,13,none⟩=some (.slice (some ⟨g,0,none⟩) n n):=hA.cell (i:=13) rfl;have HF:Hid ((Im.of L n).aN.1=0/\(Im.of L n).Ok/\w.heap.size<=g/\az w1 g 3 1 n (mw (Im.of L n).aN.2)):=⟨e0,hok,hg,hR⟩;clear h0 HX hA hR hg oC hok e0;go_wp2_with fail;go_ret;exact⟨HB.out,.inr ⟨HF.out.1,HF.out.2.1,g,rfl,HF.out.2.2⟩⟩
 have q0:(K !=0)=true:=by simp[h0]
 have E0:Hid ((Im.of L n).aN.1≠0):=by show _≠_;have:=HK.out;omega
 clear h0 HX;go_wp2_with fail;go_ret;exact⟨HB.out,.inl ⟨E0.out,rfl⟩⟩
theorem zY(v:Value)(n:Nat)(L:Nat->Nat->Int)(hL:∀i,bm (L i))(fY:n<=4294967296)(w:World)(hv:wU w v n L):
  Calls Tryz.prog 32 #[v] w λe w'=>e= .returned (.int .i64 (((Im.of L n).aN.1:Nat):Int))/\Below w.heap.size w w':=by
 have HE:=hid (jK v n L hL fY w hv);clear hv hL;go_enter Tryz.func32,Tryz.ntmps32;go_wp2_with fail;refine HE.out.mono ?_;rintro e w1 ⟨hb,p,rfl,_⟩;have HB:=hid hb;clear hb HE;go_wp2_with fail;go_ret;exact⟨rfl,HB.out⟩
theorem xK(v:Value)(n:Nat)(L:Nat->Nat->Int)(hL:∀i,bm (L i))(fY:n<=4294967296)(w:World)(hv:wU w v n L):
  Calls Tryz.prog 31 #[v] w λe w'=>(((Im.of L n).aN.1≠0/\e= .returned (.tuple #[gu 0 0 0 0 0,.int .i64 200]))\/((Im.of L n).aN.1=0/\(Im.of L n).Ok/\e= .returned (.tuple #[gu (Im.of L n).g (Im.of L n).s (Im.of L n).i (Im.of L n).j (Im.of L n).o,.int .i64 0])))/\Below w.heap.size w w':=by
 have hzs:=fe;have hA0:=At.new w 47 (aj 0 0 0 0 0);have hb0:Below w.heap.size w (w.alloc (.cells (aj 0 0 0 0 0) 47)):=(Below.refl _ _).alloc (Nat.le_refl _) _;have HE:=hid (jK v n L hL fY _ (hv.below hb0));have uK:=hid hA0;have pn:=hid hb0;clear hv hL hA0 hb0;go_enter Tryz.func31,Tryz.ntmps31;go_wp2_with fail;refine HE.out.mono ?_;rintro e w1 ⟨hb,p,rfl,hx⟩;have hr:=uK.out.below hb uK.out.lt;have HB:=hid (pn.out.trans (hb.mono pn.out.size));have HX:=hid hx;clear hb HE hx uK pn;have NK:(0:Int)<=(((Im.of L n).aN.1:Nat):Int):=Int.natCast_nonneg _;obtain⟨K,hK⟩:∃K,K=(((Im.of L n).aN.1:Nat):Int):=⟨_,rfl⟩;rw[<-hK] at NK ⊢;have HK:=hid hK;clear hK
 by_cases h0:K=0
 ·have q0:decide ((0:Int)<K)=false:=decide_eq_false (by omega)
  have Ya:¬(0:Int)<K:=by omega
  have e0:(Im.of L n).aN.1=0:=by have:=HK.out;omega
  obtain⟨b,off,cap',ds,r,ci,ak,pt,Q,hkn,hq,_,hok⟩:=HX.out e0;have hA:=hkn.i.k.a;have HO:=hid hok;have E0:=hid e0;have hrg:w1.rangeAt p 1 (aj (Im.of L n).g (Im.of L n).s (Im.of L n).i (Im.of L n).j (Im.of L n).o).toList:=λk v' hk=>by
   match k,hk with
   |0,hk=>injection hk with hk;subst hk;exact hA.cell (i:=1) rfl
   |1,hk=>injection hk with hk;subst hk;exact hA.cell (i:=2) rfl
   |2,hk=>injection hk with hk;subst hk;exact hA.cell (i:=3) rfl
   |3,hk=>injection hk with hk;subst hk;exact hA.cell (i:=4) rfl
   |4,hk=>injection hk with hk;subst hk;exact hA.cell (i:=5) rfl
   |k+5,hk=>cases hk
  clear h0 HX hA hkn hq hok e0;go_wp2_with (first|(refine aB rfl 47 _ rfl p 1 (aj (Im.of L n).g (Im.of L n).s (Im.of L n).i (Im.of L n).j (Im.of L n).o).toList _ rfl hrg Tryz.underlying47 rfl (by kernel_rfl) ?_)|(refine ax rfl 47 (.tmp 2) (.tmp 17) rfl w.heap.size (aj (Im.of L n).g (Im.of L n).s (Im.of L n).i (Im.of L n).j (Im.of L n).o) (aj 0 0 0 0 0) rfl rfl hr aR rfl (eL _ _ _ _ _) ?_))
  intro w9 jf gD;clear hrg hr;go_wp2_with fail;exact bodyPost_ret (aW rfl _ _ w.heap.size _ _ _ _ _ rfl jf) rfl ⟨.inr ⟨E0.out,HO.out,rfl⟩,HB.out.trans (gD.below (Nat.le_refl _))⟩
 have hK0:(0:Int)<K:=by omega
 have E0:Hid ((Im.of L n).aN.1≠0):=by show _≠_;have:=HK.out;omega
 clear h0 HX;go_wp2_with (first|(refine ax rfl 47 (.tmp 2) (.tmp 13) rfl w.heap.size (aj 0 0 0 0 0) (aj 0 0 0 0 0) rfl rfl hr aR rfl (eL _ _ _ _ _) ?_))
 intro w9 jf gD;clear hr;go_wp2_with fail;exact bodyPost_ret (aW rfl _ _ w.heap.size _ _ _ _ _ rfl jf) rfl ⟨.inl ⟨E0.out,rfl⟩,HB.out.trans (gD.below (Nat.le_refl _))⟩
theorem xJ(v:Value)(n:Nat)(L:Nat->Nat->Int)(hL:∀i,bm (L i))(fY:n<=4294967296)(w:World)(hv:wU w v n L):
  Calls Tryz.prog 33 #[v] w λe w'=>e= .returned (.bool (decide ((Im.of L n).aN.1=0/\(Im.of L n).o=0)))/\Below w.heap.size w w':=by
 have HE:=hid (jK v n L hL fY w hv);clear hv hL;go_enter Tryz.func33,Tryz.ntmps33;go_wp2_with fail;refine HE.out.mono ?_;rintro e w1 ⟨hb,p,rfl,hx⟩;have HB:=hid hb;have HX:=hid hx;clear hb HE hx;obtain⟨K,hK⟩:∃K,K=(((Im.of L n).aN.1:Nat):Int):=⟨_,rfl⟩;rw[<-hK];have HK:=hid hK;clear hK
 by_cases h0:K=0
 ·have q0:(K==0)=true:=by simp[h0]
  have e0:(Im.of L n).aN.1=0:=by have:=HK.out;omega
  obtain⟨b,off,cap',ds,r,ci,ak,pt,Q,hkn,hq,_,hok⟩:=HX.out e0;have hA:=hkn.i.k.a;have E0:=hid e0;obtain⟨O,hO⟩:∃O,O=(((Im.of L n).o:Nat):Int):=⟨_,rfl⟩;have c5:w1.cell? ⟨p,5,none⟩=some (.int .u32 O):=by rw[hO];exact hA.cell (i:=5) rfl
  have HO:=hid hO;clear h0 HX hA hkn hq hok e0 hO;go_wp2_with fail;go_ret;refine⟨?_,HB.out⟩;have:(O==0)=decide ((Im.of L n).aN.1=0/\(Im.of L n).o=0):=by
   rw[HO.out,E0.out]
   by_cases h:(Im.of L n).o=0
   ·simp[h]
   simp[h]
  rw[this];rfl
 have q0:(K==0)=false:=by simp[h0]
 have E0:Hid ((Im.of L n).aN.1≠0):=by show _≠_;have:=HK.out;omega
 clear h0 HX;go_wp2_with fail;go_ret;exact⟨by rw[decide_eq_false (λh=>E0.out h.1)];rfl,HB.out⟩
def Aa(o:Nat->Nat)(n:Nat):List Value:=(List.range n).map λi=> .int .i64 ((o i:Nat):Int)
theorem CZ(o:Nat->Nat)(n:Nat):Aa o (n+1)=Aa o n++[.int .i64 ((o n:Nat):Int)]:=by unfold Aa;rw[List.range_succ,List.map_append];rfl
theorem CL(b:Int)(W:World):(Instr.buildSlice 37 1 #[(0,.int .i64 b)]).run Tryz.prog W= .ok (.slice (some ⟨W.heap.size,0,none⟩) 1 1) (W.alloc (.cells #[.int .i64 b] 3)):=by kernel_rfl
theorem Dj:∃i,Tryz.prog.info? 3=some i/\i.zero=some (.int .i64 0)/\i.size=1/\i.bytes=8:=by
 obtain⟨i,hi,hz⟩:=Option.map_eq_some_iff.1 tT;simp only[Prod.mk.injEq] at hz;exact⟨i,hi,hz.1,hz.2.1,hz.2.2⟩
theorem Jf(w:World)(x:Int):∀(j:Nat) (u:Value),([.int .i64 x]:List Value)[j]? =some u->(w.alloc (.cells #[.int .i64 x] 3)).cell? ((⟨w.heap.size,0,none⟩:Addr).add j)=some u:=by
 intro j u hj;rw[bh];rcases j with _|j
 ·cases hj;exact ay (heap_alloc_new w _) rfl
 cases hj
structure Pg(w:World)(p b off cap:Nat)(x:Im)(ds:Value)(r ci:Nat)(ak pt:Value)(Q:List Im.Pt)(v:Value)(k:Nat)(W:World):Prop where
 s:nX w p b off cap x ds r ci ak pt Q W
 o:W.ownsRow w.heap.size 3 1 v k (Aa (Im.bF Q) k)
theorem Pg.below{p b off:Nat}{x:Im}{ds:Value}{r ci:Nat}{ak pt:Value}{Q:List Im.Pt}{v:Value}{k:Nat}{W:World}(h:Pg w p b off cap x ds r ci ak pt Q v k W)(hb:Below W.heap.size W W'):Pg w p b off cap x ds r ci ak pt Q v k W':=⟨h.s.below hb,nC h.o hb⟩
def OwR(w:World)(n:Nat)(L:Nat->Nat->Int)(e:Ending)(w':World):Prop:=
 Below w.heap.size w w'/\(((Im.of L n).aN.1≠0/\e= .returned (.slice none 0 0))\/((Im.of L n).aN.1=0/\(Im.of L n).Ok/\∃a c,e= .returned (.slice a n c)/\w'.ownsRow w.heap.size 3 1 (.slice a n c) n (Aa (Im.of L n).aN.2 n)))
theorem vl(v:Value)(n:Nat)(L:Nat->Nat->Int)(hL:∀i,bm (L i))(fY:n<=4294967296)(w:World)(hv:wU w v n L):
  Calls Tryz.prog 34 #[v] w λe w'=>OwR w n L e w':=by
 have HE:=hid (jK v n L hL fY w hv);obtain⟨a0,aeq,rfl,_⟩:=hv;clear hL;go_enter Tryz.func34,Tryz.ntmps34;go_wp2_with fail;refine HE.out.mono ?_;rintro e w1 ⟨hb,p,rfl,hx⟩;have HB:=hid hb;have HX:=hid hx;clear hb HE hx;have NK:(0:Int)<=(((Im.of L n).aN.1:Nat):Int):=Int.natCast_nonneg _;obtain⟨K,hK⟩:∃K,K=(((Im.of L n).aN.1:Nat):Int):=⟨_,rfl⟩;rw[<-hK] at NK ⊢;have HK:=hid hK;clear hK
 by_cases h0:K=0
 ·have q0:decide ((0:Int)<K)=false:=decide_eq_false (by omega)
  have Ya:¬(0:Int)<K:=by omega
  have e0:(Im.of L n).aN.1=0:=by have:=HK.out;omega
  obtain⟨b,off,cap,ds,r,ci,ak,pt,Q,hkn,hq,sZ,hok⟩:=HX.out e0;have HO:Hid ((Im.of L n).aN.1=0/\(Im.of L n).Ok/\Im.bF Q=(Im.of L n).aN.2):=⟨e0,hok,hq⟩;have HQL:=hid sZ;have pH:=hid hkn.low;have cX:Hid (Pg w1 p b off cap (Im.of L n) ds r ci ak pt Q (.slice none 0 0) 0 w1):=⟨⟨hkn,Below.refl _ _⟩,World.ownsRow_nil _ _ _ _⟩;clear h0 HX hkn hq hok e0 sZ;go_wp2_with fail;go_loopw [5,6] (λv z wr=>∃(k:Nat) (a:Option Addr) (c:Nat),k<=n/\v= .slice a k c/\z= .int .i64 (k:Int)/\Pg w1 p b off cap (Im.of L n) ds r ci ak pt Q v k wr) (λ_ z _=>n-(intOf z).toNat)
  case atStart=>exact⟨0,none,0,Nat.zero_le _,rfl,rfl,cX.out⟩
  clear cX;obtain⟨k,a,c,hk,rfl,rfl,st⟩:=hrel;have ST:=hid st;clear st
  by_cases hlt:k<n
  ·have hlt':(k:Int)<(n:Int):=by omega
   go_wp2_with fail;refine(kJ (x:=Im.of L n) p b off cap ds _ ak pt Q (by have:=HQL.out;omega) k wr ST.out.s.k.i.k ST.out.s.k.q).mono ?_;rintro e w2 ⟨rfl,hb2⟩;have cf:=ST.out.below hb2;have Pm:=hid (CZ (Im.bF Q) k);obtain⟨d,hd⟩:∃d:Int,d=((Im.bF Q k:Nat):Int):=⟨_,rfl⟩;rw[<-hd] at Pm ⊢;have nR:=hid (cf.below (((Below.refl _ _).alloc (Nat.le_refl _) (.cells #[.int .i64 d] 3):Below w2.heap.size w2 (w2.alloc (.cells #[.int .i64 d] 3)))));have hown:=nR.out.o;have hnews:=Jf w2 d;have hbase:=nR.out.s.bel.size;obtain⟨i0,hi0,hz0,hz1,hz2⟩:=Dj;clear ST cf hb2 hd;go_wp2_with (first|(refine dt rfl 37 1 0 (.tmp 23) rfl (.int .i64 d) rfl _ _ (CL d _) ?_)|(refine wpList_append_own_at _ rfl (.tmp 20) (.tmp 24) 37 rfl w1.heap.size 3 i0 (.int .i64 0) 1 8 Tryz.underlying37 hi0 hz0 hz1 hz2 rfl (by decide) (.slice a k c) k (Aa (Im.bF Q) k) rfl hown ⟨w2.heap.size,0,none⟩ 1 1 [.int .i64 d] rfl rfl hnews (λu hu=>by rw[List.mem_singleton.1 hu];rfl) (by unfold maxLen;omega) (by omega) hbase ?_))
   intro v' w5 yn wQ _ JF;have Ju:∀q,(Value.slice a k c).ownBlock=some q->w1.heap.size<=q:=λq hq=>(World.ownsRow.lt hown q hq).1
   have Hn:Pg w1 p b off cap (Im.of L n) ds r ci ak pt Q v' (k+1) w5:=⟨nR.out.s.grown wQ Ju pH.out.p pH.out.b pH.out.r pH.out.q,by rw[Pm.out];exact yn⟩;obtain⟨a6,c6,MZ⟩:=jo yn;subst MZ;have ec:=hid Hn;clear nR hown hnews hbase yn wQ JF Hn Ju Pm;go_wp2_with fail;go_roundw
   case rel=>(try((repeat apply Exists.intro);refine⟨?_,rfl⟩));exact⟨k+1,a6,c6,by omega,rfl,by go_num,ec.out⟩
   simp[intOf];omega
  obtain rfl:k=n:=by omega
  go_wp2_with fail;go_ret;exact⟨HB.out.trans (ST.out.s.bel.mono HB.out.size),.inr ⟨HO.out.1,HO.out.2.1,a,c,rfl,by rw[<-HO.out.2.2];exact IV ST.out.o HB.out.size⟩⟩
 have hK0:(0:Int)<K:=by omega
 have E0:Hid ((Im.of L n).aN.1≠0):=by show _≠_;have:=HK.out;omega
 clear h0 HX;go_wp2_with fail;go_ret;exact⟨HB.out,.inl ⟨E0.out,rfl⟩⟩
theorem gz{W:World}{n:Nat}(h:ah W base 32 256 (.slice ma n mc) n (dW L)):wU W (.slice ma n mc) n L:=
 ⟨ma,mc,rfl,λhn=>by
  obtain⟨g,c,e,h1,h2,_⟩:=ah.nM h hn;injection e with e1 _ e3
  subst e1 e3;exact⟨g,0,rfl,h2,ah.bI h (aZ _)⟩⟩
theorem wU.row{W:World}{n:Nat}(h:wU W (.slice a n cap) n L):cY W a 256 n (dW L):=by
 obtain⟨a',cap',e,hi⟩:=h;injection e with e1 _ e3
 subst e1 e3
 by_cases h0:n=0
 ·exact .inl h0
 obtain⟨b,off,e,_,hs⟩:=hi (by omega);exact .inr ⟨b,off,e,hs⟩
structure OF(w:World)(a:Option Addr)(n cap:Nat)(ma:Option Addr)(mc:Nat)(L:Nat->Nat->Int)(W:World):Prop where
 l:wU W (.slice a n cap) n L
 m:ah W w.heap.size 32 256 (.slice ma n mc) n (dW L)
 t:Tab W
 bel:Below w.heap.size w W
theorem OF.below{n:Nat}{W:World}(h:OF w a n cap ma mc L W)(hb:Below W.heap.size W W'):OF w a n cap ma mc L W':=
 ⟨h.l.below hb,ah.below h.m hb,h.t.below hb (Nat.le_refl _),h.bel.trans (hb.mono h.bel.size)⟩
structure Ua(w:World)(a:Option Addr)(n cap:Nat)(ma:Option Addr)(mc:Nat)(L:Nat->Nat->Int)(g4 g6:Nat)(sc:Array Value)(W:World):Prop where
 s:OF w a n cap ma mc L W
 x:At W g4 47 sc
 y:At W g6 47 sc
theorem Ua.below{n:Nat}{g4 g6:Nat}{sc:Array Value}{W:World}(h:Ua w a n cap ma mc L g4 g6 sc W)(hb:Below W.heap.size W W'):Ua w a n cap ma mc L g4 g6 sc W':=
 ⟨h.s.below hb,h.x.below hb h.x.lt,h.y.below hb h.y.lt⟩
def GS(W:World)(a:Option Addr)(m:Nat)(o:Nat->Nat):Prop:=m=0\/∃q,a=some ⟨q,0,none⟩/\q<W.heap.size/\∀i,i<m->W.cell? ⟨q,i,none⟩=some (.int .i64 ((o i:Nat):Int))
theorem GS.below{W:World}(h:GS W a m o)(hb:Below W.heap.size W W'):GS W' a m o:=by
 rcases h with h|⟨q,e,hq,hc⟩
 ·exact .inl h
 exact .inr ⟨q,e,Nat.lt_of_lt_of_le hq hb.size,λi hi=>(hb.cell (p:=⟨q,i,none⟩) hq).trans (hc i hi)⟩
structure SK(w:World)(a:Option Addr)(n cap:Nat)(ma:Option Addr)(mc:Nat)(L:Nat->Nat->Int)(wa:Option Addr)(m:Nat)(o:Nat->Nat)(W:World):Prop where
 s:OF w a n cap ma mc L W
 n:GS W wa m o
theorem SK.below{n:Nat}{wa:Option Addr}{W:World}(h:SK w a n cap ma mc L wa m o W)(hb:Below W.heap.size W W'):SK w a n cap ma mc L wa m o W':=⟨h.s.below hb,h.n.below hb⟩
def mF(o:Nat->Nat)(i j:Nat):List Value:=if j<i then [.int .i64 (-5)] else [.int .i64 ((o j:Nat):Int)]
theorem MI(o:Nat->Nat)(i j:Nat):(mF o i j).length=1:=by unfold mF;split<;>rfl
structure Ep(W0:World)(ga:Option Addr)(m i:Nat)(o:Nat->Nat)(W:World):Prop where
 bel:Below W0.heap.size W0 W
 g:m=0\/∃g,ga=some ⟨g,0,none⟩/\W0.heap.size<=g/\az W g 3 1 m (mF o i)
theorem Ep.below{W0:World}{ga:Option Addr}{W:World}(h:Ep W0 ga m i o W)(hb:Below W.heap.size W W'):Ep W0 ga m i o W':=by
 refine⟨h.bel.trans (hb.mono h.bel.size),?_⟩;rcases h.g with h|⟨g,e,hg,hr⟩
 ·exact .inl h
 exact .inr ⟨g,e,hg,hr.below hb⟩
theorem MH{W:World}{g:Nat}(h:az W g 3 1 m (mF o i))(hi:i<m):az (W.setCell ⟨g,i,none⟩ (.int .i64 (-5))) g 3 1 m (mF o (i+1)):=by
 have:=h.dz (k:=i) (j:=0) hi (by decide) (λj=>MI o i j) (.int .i64 (-5));rw[Nat.mul_one,Nat.add_zero] at this;refine this.congr λj hj=> ?_
 unfold mF
 by_cases e:j=i
 ·subst e;rw[if_pos rfl,if_neg (Nat.lt_irrefl _),if_pos (Nat.lt_succ_self _)];rfl
 rw[if_neg e]
 by_cases e2:j<i
 ·rw[if_pos e2,if_pos (by omega)]
 rw[if_neg e2,if_neg (by omega)]
theorem zU(W:World):(Instr.buildSlice 29 0 #[]).run Tryz.prog W= .ok (.slice (some ⟨W.heap.size,0,none⟩) 0 0) (W.alloc (.cells #[] 32)):=by kernel_rfl
theorem lJ(a:Option Addr)(n cap:Nat)(L:Nat->Nat->Int)(hL:∀i,bm (L i))(fY:n<=4294967296)(ha:a=none->n=0/\cap=0)(w:World)(hT:Tab w)(hv:wU w (.slice a n cap) n L):
  Calls Tryz.prog 10 #[.slice a n cap] w λe w'=>e= .returned (.bool true)/\Below w.heap.size w w':=by
 have hzs:=fe;have JE:Below w.heap.size w (w.alloc (.cells #[] 32)):=(Below.refl _ _).alloc (Nat.le_refl _) _;have hrow:=(hv.below JE).row;have hown:(w.alloc (.cells #[] 32)).ownsRow w.heap.size 32 256 (.slice (some ⟨w.heap.size,0,none⟩) 0 0) 0 []:=
  ⟨by simp,.inr ⟨w.heap.size,0,#[],rfl,Nat.le_refl _,heap_alloc_new w _,Nat.le_refl _,Nat.zero_le _,rfl,by simp⟩⟩
 have hnews:∀ad,a=some ad->∀(j:Nat) (u:Value),(Cs (dW L) n)[j]? =some u->(w.alloc (.cells #[] 32)).cell? (ad.add j)=some u:=λad had=>by
  subst had;exact zX (m:=256) (by omega) (aZ _) hrow
 have hlen:(Cs (dW L) n).length=n*256:=dC (aZ _) _;have hone:∀u∈Cs (dW L) n,u.oneCell'=true:=OB (Kc _) _;obtain⟨i0,hi0,hz⟩:=Option.map_eq_some_iff.1 tU;simp only[Prod.mk.injEq] at hz;obtain⟨hz0,hz1,hz2⟩:=hz;have hbs:=zU;have HV:=hid hv;have HL:=hid hL;have HT:=hid hT;have ky:=hid fY;have Py:=hid JE;clear hv hL hT hrow JE;go_enter Tryz.func10,Tryz.ntmps10;go_wp2_with (first|(refine xh rfl (.tmp 12) (.tmp 13) 29 rfl w.heap.size 32 i0 (aL λ_=>0) 256 256 Tryz.underlying29 hi0 hz0 hz1 hz2 (by simp[Value.cells,Ks]) (by decide) w.heap.size rfl hown a n cap (Cs (dW L) n) rfl ha hlen hnews hone (by unfold maxLen;omega) (by omega) (by simp) ?_))
 intro v' w5 yn wQ;have Ni:ah w5 w.heap.size 32 256 v' n (dW L):=yn;obtain⟨ma,mc,rfl⟩:=Ni.form;have sB:Below w.heap.size w w5:=Py.out.grown wQ Py.out.size (λq e=>by injection e with e;omega);have ec:Hid (OF w a n cap ma mc L w5):=⟨HV.out.below sB,Ni,HT.out.below sB (Nat.le_refl _),sB⟩;obtain⟨G,S,I,J,O,E,Zr⟩:∃G S I J O E:Int,((Im.of L n).aN.1≠0/\G=0/\S=0/\I=0/\J=0/\O=0/\E=200)\/((Im.of L n).aN.1=0/\G=((Im.of L n).g:Nat)/\S=((Im.of L n).s:Nat)/\I=((Im.of L n).i:Nat)/\J=((Im.of L n).j:Nat)/\O=((Im.of L n).o:Nat)/\E=0):=by
  by_cases h:(Im.of L n).aN.1=0
  ·exact⟨_,_,_,_,_,_,.inr ⟨h,rfl,rfl,rfl,rfl,rfl,rfl⟩⟩
  exact⟨_,_,_,_,_,_,.inl ⟨h,rfl,rfl,rfl,rfl,rfl,rfl⟩⟩
 have DZ:Hid (∀e,(((Im.of L n).aN.1≠0/\e=Ending.returned (.tuple #[gu 0 0 0 0 0,.int .i64 200]))\/((Im.of L n).aN.1=0/\(Im.of L n).Ok/\e= .returned (.tuple #[gu (Im.of L n).g (Im.of L n).s (Im.of L n).i (Im.of L n).j (Im.of L n).o,.int .i64 0])))->e= .returned (.tuple #[gu G S I J O,.int .i64 E])):=λe he=>by
  rcases Zr with⟨h0,rfl,rfl,rfl,rfl,rfl,rfl⟩|⟨h0,rfl,rfl,rfl,rfl,rfl,rfl⟩<;>rcases he with⟨h1,rfl⟩|⟨h1,_,rfl⟩
  ·rfl
  ·exact absurd h1 h0
  ·exact absurd h0 h1
  rfl
 clear yn wQ Ni sB hown hnews hlen hone hbs HV HT Py Zr;go_wp2_with fail;refine(yR _ n L HL.out ky.out w5 ec.out.t (gz ec.out.m)).mono ?_;rintro e w6 ⟨hC,kx⟩;obtain rfl:=DZ.out _ hC;have hr:=At.new w6 47 (aj 0 0 0 0 0);have iW:=hid (ec.out.below kx);clear ec hC kx;go_wp2_with (first|(refine ax rfl 47 (.tmp 4) (.tmp 18) rfl w6.heap.size (aj G S I J O) (aj 0 0 0 0 0) rfl rfl hr aR rfl (eL _ _ _ _ _) ?_))
 intro w7 Wn Nd;obtain⟨g4,hg4⟩:∃g,g=w6.heap.size:=⟨_,rfl⟩;rw[<-hg4] at Wn Nd ⊢;have DF:Below w6.heap.size w6 w7:=((Below.refl _ _).alloc (Nat.le_refl _) _).trans (Nd.below (by omega));have Ek:=hid (iW.out.below DF);have Xs:=hid Wn;clear iW DF Wn Nd hg4 hr;go_wp2_with fail;refine(xK _ n L HL.out ky.out w7 Ek.out.l).mono ?_;rintro e w8 ⟨hC,nV⟩;obtain rfl:=DZ.out _ hC;have hr:=At.new w8 47 (aj 0 0 0 0 0);have tj:=hid (Ek.out.below nV);have Xr:=hid (Xs.out.below nV Xs.out.lt);clear Ek Xs hC nV;go_wp2_with (first|(refine ax rfl 47 (.tmp 6) (.tmp 23) rfl w8.heap.size (aj G S I J O) (aj 0 0 0 0 0) rfl rfl hr aR rfl (eL _ _ _ _ _) ?_))
 intro w9 JH gD;obtain⟨g6,vU⟩:∃g,g=w8.heap.size:=⟨_,rfl⟩;rw[<-vU] at JH gD ⊢;have yt:Below w8.heap.size w8 w9:=((Below.refl _ _).alloc (Nat.le_refl _) _).trans (gD.below (by omega));have nW:Hid (Ua w a n cap ma mc L g4 g6 (aj G S I J O) w9):=⟨tj.out.below yt,Xr.out.below yt Xr.out.lt,JH⟩;clear tj Xr yt JH gD vU hr DZ hzs;go_wp2_with fail;refine(AM _ n L HL.out ky.out w9 nW.out.s.t (gz nW.out.s.m)).mono ?_;rintro e po ⟨rfl,hb⟩;have wR:=hid (nW.out.below hb);clear nW hb;go_wp2_with fail;refine(zY _ n L HL.out ky.out po wR.out.s.l).mono ?_;rintro e Hb ⟨rfl,hb⟩;have nR:=hid (wR.out.below hb);have Yu:=nR.out.x;have Yt:=nR.out.y;have Qw:∀W,(binOp .neq 47 (gu G S I J O) (gu G S I J O)).run Tryz.prog W= .ok (.bool false) W:=λW=>by rw[sS,JW.2 ⟨rfl,rfl,rfl,rfl,rfl⟩];rfl
 clear wR hb;generalize (((Im.of L n).aN.1:Nat):Int)=K at*;go_wp2_with (first|(refine ar rfl 47 (.tmp 4) rfl _ _ _ rfl Yu Tryz.underlying47 rfl (by kernel_rfl) ?_)|(refine ar rfl 47 (.tmp 6) rfl _ _ _ rfl Yt Tryz.underlying47 rfl (by kernel_rfl) ?_))
 clear Yu Yt Qw;refine(yP _ n L HL.out ky.out Hb nR.out.s.t (gz nR.out.s.m)).mono ?_;rintro e PH ⟨rfl,hb⟩;have WZ:=hid (nR.out.below hb);obtain⟨B,hB⟩:∃B,B=decide ((Im.of L n).aN.1=0/\(Im.of L n).o=0):=⟨_,rfl⟩;have Ox:=hid hB;have Rg:(B !=B)=false:=by cases B<;>rfl
 rw[<-hB];clear nR hb hB;go_wp2_with fail;refine(xJ _ n L HL.out ky.out PH WZ.out.s.l).mono ?_;rintro e Ud ⟨rfl,hb⟩;have WY:=hid (WZ.out.below hb);clear WZ hb;rw[<-Ox.out];go_wp2_with fail;refine(vl _ n L HL.out ky.out Ud WY.out.s.l).mono ?_;rintro e Ma ⟨hb,hC⟩;have N6:=hid (WY.out.s.below hb);obtain⟨m,wa,wc,rfl,hm,hw⟩:∃m wa wc,e= .returned (.slice wa m wc)/\(((Im.of L n).aN.1≠0/\m=0)\/((Im.of L n).aN.1=0/\m=n))/\GS Ma wa m (Im.of L n).aN.2:=by
  rcases hC with⟨h0,rfl⟩|⟨h0,_,a2,c2,rfl,ho⟩
  ·exact⟨0,none,0,rfl,.inl ⟨h0,rfl⟩,.inl rfl⟩
  refine⟨n,a2,c2,rfl,.inr ⟨h0,rfl⟩,?_⟩
  by_cases hn:n=0
  ·exact .inl hn
  obtain⟨q,cq,hq⟩:=jq ho (by omega);injection hq with hq1 _ _
  subst hq1;refine .inr ⟨q,rfl,(World.ownsRow.lt ho q rfl).2,λi hi=> ?_⟩;have k1:=ho.cells (g:=q) rfl i (.int .i64 (((Im.of L n).aN.2 i:Nat):Int)) (by unfold Aa;rw[List.getElem?_map,List.getElem?_range hi];rfl);rw[bh,Nat.zero_add] at k1;exact k1
 have WW:Hid (SK w a n cap ma mc L wa m (Im.of L n).aN.2 Ma):=⟨N6.out,hw⟩;have HCG:Hid (∀W,OF w a n cap ma mc L W->Calls Tryz.prog 14 #[.slice ma n mc] W λe w'=>∃ga gc,e= .returned (.slice ga m gc)/\Ep W ga m 0 (Im.of L n).aN.2 w'):=λW hW=>(wm _ n L HL.out ky.out W hW.t (gz hW.m)).mono λe w' h=>by
  obtain⟨hb,hC⟩:=h;rcases hC with⟨h0,rfl⟩|⟨h0,_,g,rfl,hg,hr⟩
  ·rcases hm with⟨_,rfl⟩|⟨h1,_⟩
   ·exact⟨none,0,rfl,hb,.inl rfl⟩
   exact absurd h1 h0
  rcases hm with⟨h1,_⟩|⟨_,rfl⟩
  ·exact absurd h0 h1
  exact⟨_,_,rfl,hb,.inr ⟨g,rfl,hg,hr⟩⟩
 have OR:m<=4294967296:=by rcases hm with⟨_,h⟩|⟨_,h⟩<;>omega
 obtain⟨o,ho⟩:∃o,o=(Im.of L n).aN.2:=⟨_,rfl⟩;rw[<-ho] at WW HCG;clear WY N6 hC hb hw hm ho Ox Rg;go_wp2_with fail;go_loopw [9,10,11] (λv _ _ wr=>∃k:Nat,k<=2/\v= .int .i64 (k:Int)/\SK w a n cap ma mc L wa m o wr) (λv _ _ _=>2-(intOf v).toNat)
 case atStart=>exact⟨0,Nat.zero_le _,rfl,WW.out⟩
 clear WW;obtain⟨k,hk,rfl,st⟩:=hrel;have ST:=hid st;clear st
 by_cases hk2:k<2
 ·have ac0:(k:Int)<2:=by omega
  go_wp2_with fail;refine(HCG.out wr ST.out.s).mono ?_;rintro e PG ⟨ga,gc,rfl,hg⟩;obtain⟨W0,hW0⟩:∃W0,W0=wr:=⟨_,rfl⟩;rw[<-hW0] at ST hg;have gX:=hid hg;clear hg hW0;go_wp2_with fail;go_loopw [11] (λv wq=>∃i:Nat,i<=m/\v= .int .i64 (i:Int)/\Ep W0 ga m i o wq) (λv _=>m-(intOf v).toNat)
  case atStart=>exact⟨0,Nat.zero_le _,rfl,gX.out⟩
  clear gX;obtain⟨i,hi,rfl,st⟩:=hrel;have gX:=hid st;clear st
  by_cases him:i<m
  ·have ac6:(i:Int)<(m:Int):=by omega
   have i0:(0:Int)<=(i:Int):=by omega
   obtain⟨g,VP,hgl,hgr⟩:∃g,ga=some ⟨g,0,none⟩/\W0.heap.size<=g/\∀W,Ep W0 ga m i o W->az W g 3 1 m (mF o i):=by
    rcases gX.out.g with h|⟨g,e,hg,_⟩
    ·omega
    refine⟨g,e,hg,λW hW=> ?_⟩;rcases hW.g with h|⟨g',e',_,hr⟩
    ·omega
    rw[e] at e';injection e' with e'
    injection e' with e'
    rw[e'];exact hr
   obtain⟨q,U3,Yz⟩:∃q,wa=some ⟨q,0,none⟩/\∀W,Ep W0 ga m i o W->W.cell? ⟨q,i,none⟩=some (.int .i64 ((o i:Nat):Int)):=by
    rcases ST.out.n with h|⟨q,e,hq,hc⟩
    ·omega
    exact⟨q,e,λW hW=>(hW.bel.cell (p:=⟨q,i,none⟩) hq).trans (hc i him)⟩
   have G1:Hid (∀W,Ep W0 ga m i o W->az W g 3 1 m (mF o i)/\W.cell? ⟨g,i,none⟩=some (.int .i64 ((o i:Nat):Int))/\W.cell? ⟨q,i,none⟩=some (.int .i64 ((o i:Nat):Int))):=λW hW=>⟨hgr W hW,(hgr W hW).jU him (by unfold mF;rw[if_neg (Nat.lt_irrefl _)]),Yz W hW⟩
   have Sv:=hid hgl;have HIM:=hid him;clear hgr Yz hgl;subst VP U3;obtain⟨D,hD⟩:∃D:Int,D=((o i:Nat):Int):=⟨_,rfl⟩;rw[<-hD] at G1;clear hD;go_wp2_with fail;refine ai (Ep W0 (some ⟨g,0,none⟩) m i o) (by kernel_rfl) (by kernel_rfl) (gX.out.below ⟨rfl,rfl,rfl,Nat.le_refl _,λ_ _=>rfl⟩) ?_;clear gX;intro hne;have cG:∀y:aT (Ep W0 (some ⟨g,0,none⟩) m i o),y.W.cell? ⟨g,i,none⟩=some (.int .i64 D):=λy=>(G1.out _ y.h).2.1
   have cQ:∀y:aT (Ep W0 (some ⟨g,0,none⟩) m i o),y.W.cell? ⟨q,i,none⟩=some (.int .i64 D):=λy=>(G1.out _ y.h).2.2
   repeat go_big_quiet_step (fail)
   refine wpQuiet_nil ?_;intro Ir ZW;have iW:=hid ZW.out;clear ZW hne cG cQ;have cG:=(G1.out _ iW.out).2.1;have fG:=(G1.out _ iW.out).1.soft i;have ho:an g Ir (Ir.setCell ⟨g,i,none⟩ (.int .i64 (-5))):=an.setCell Ir ⟨g,i,none⟩ _;have fv:Hid (Ep W0 (some ⟨g,0,none⟩) m (i+1) o (Ir.setCell ⟨g,i,none⟩ (.int .i64 (-5)))):=⟨iW.out.bel.trans (ho.below Sv.out),.inr ⟨g,rfl,Sv.out,MH (G1.out _ iW.out).1 HIM.out⟩⟩;clear ho iW;go_wp2_with fail;go_roundw
   case rel=>(try((repeat apply Exists.intro);refine⟨?_,rfl⟩));exact⟨i+1,by omega,by go_num,fv.out⟩
   simp[intOf];omega
  obtain rfl:i=m:=by omega
  have fv:=hid (ST.out.below gX.out.bel);go_wp2_with fail;go_roundw
  case rel=>(try((repeat apply Exists.intro);refine⟨?_,rfl⟩));exact⟨k+1,by omega,by go_num,fv.out⟩
  simp[intOf];omega
 obtain rfl:k=2:=by omega
 have GX:Hid (qI L L n n=true):=by
  show _=_;unfold qI;rw[beq_self_eq_true,Bool.true_and];exact(yJ _ _ _).2 λi _ j _=>rfl
 have So:Hid ((n:Int)<=9223372036854775807):=by have:=ky.out;show(n:Int)<=_;omega
 go_wp2_with fail;refine(qH ma a n n mc cap L L So.out So.out wr (gz ST.out.s.m).row ST.out.s.l.row).mono ?_;rintro e OH ⟨rfl,d,rfl⟩;rw[GX.out];have Ox:=hid ST.out.s.bel;go_wp2_with fail;go_ret;exact⟨rfl,Ox.out.trans ⟨rfl,rfl,rfl,Nat.le_refl _,λ_ _=>rfl⟩⟩
section
variable {b:Nat} {lk:Int} {w W W':World}
end
theorem ku.wide{W:World}{n:Nat}(h:ku B W a m n f)(hB:B<=B'):ku B' W a m n f:=⟨h.1,λb off e hn=>Nat.lt_of_lt_of_le (h.2 b off e hn) hB⟩
theorem iJ.wide{d:dy}{W:World}(h:iJ B d P W)(hB:B<=B'):iJ B' d P W:=⟨h.f.wide hB,λi hi=>(h.b i hi).wide hB,λi hi=>(h.n i hi).wide hB,h.c.wide hB⟩
theorem At.plan(G S I J:Int)(d:dy)(P:PlanD):At (w.alloc (.cells (dx G S I J d P) 27)) w.heap.size 27 (dx G S I J d P):=At.new _ _ _
section
variable {w:World} {p q:Nat} {cs:Array Value} {n:Nat} {L L':Nat->Nat->Int} {W W':World}
end
def Xm(w:World)(e:Ending)(w':World):Prop:=
 Below w.heap.size w w'/\∃(a:Option Addr) (n c:Nat) (L:Nat->Nat->Int),e= .returned (.slice a n c)/\ah w' w.heap.size 32 256 (.slice a n c) n (dW L)/\(∀b,bm (L b))/\n<=2048/\(a=none->n=0/\c=0)
theorem Qf{G S I J:Int}{e:Ending}{w':World}(h:wH G S I J P w e w'):Xm w e w':=by
 obtain⟨hb,h⟩:=h;refine⟨hb,?_⟩;rcases h with⟨-,rfl⟩|⟨x,q,hx,-,-,-,-,-,rfl,hq,hr,hy⟩
 ·exact⟨none,0,0,λ_ _=>0,rfl,ah.nil _ _ _ _ _,λ_=>kz,Nat.zero_le _,λ_=>⟨rfl,rfl⟩⟩
 exact⟨some ⟨q,0,none⟩,x.n,x.n,P.Qg x,rfl,hr.P8 (aZ _) hq (by have:=hx.iu;unfold maxLen;omega),hy,hx.iu,λh=>by cases h⟩
theorem KM(L:Nat->Nat->Int)(n:Nat)(z:Nat->Int):Cs (dW L) n++Ks .u8 256 z=Cs (dW (tD L n z)) (n+1):=by
 rw[lN,gC (f:=dW (tD L n z)) (g:=dW L) (n:=n) (λi hi=>by show Ks _ _ (if i<n then L i else z)=_;rw[if_pos hi];rfl)];rw[show dW (tD L n z) n=Ks .u8 256 z by show Ks _ _ (if n<n then L n else z)=_;rw[if_neg (Nat.lt_irrefl _)]]
theorem tR{e:TypeId}{n:Nat}(h:ah w base e m (.slice a n cap) n f):a=none->n=0/\cap=0:=by
 rcases h.2 with⟨hv,h0⟩|⟨g,cp,cur,hv,_⟩
 ·injection hv with e1 e2 e3;exactλ_=>⟨by omega,by omega⟩
 injection hv with e1 e2 e3
 exactλh=>by rw[h] at e1;cases e1
theorem zT(a:Option Addr)(len cap k:Nat)(K:Int)(hK:K=(k:Int))(hk:k<=cap)(w:World):(Instr.slice 29 (.slice a len cap) none (some (.int .i64 K)) none).run Tryz.prog w= .ok (.slice a k cap) w:=by
 subst hK;have hsz:(Go.sizeOf 32).run Tryz.prog w= .ok 256 w:=by kernel_rfl
 rw[run_slice_h w 29 a len cap (by kernel_rfl) .i64 (k:Int) (by omega) (by omega),show Tryz.prog.elem 29=32 from by kernel_rfl,hsz];simp only[Result.andThen,sliced,Int.toNat_natCast];cases a<;>simp[Addr.add]
theorem checkRules_walk(G S I J:Int)(d:dy)(P:PlanD)(hB:P.Bd)(kind:Int)(w:World)(hT:Tab w)(hP:iJ w.heap.size d P w):
  Calls Tryz.prog 3 #[tK G S I J d P,.int .i64 kind] w λe w'=>e= .returned (.bool true)/\Below w.heap.size w w':=by
 have hb0:Below w.heap.size w (w.alloc (.cells (dx G S I J d P) 27)):=(Below.refl _ _).alloc (Nat.le_refl _) _;have NC:=At.plan (w:=w) G S I J d P;obtain⟨w1,hw1⟩:∃w1,w1=w.alloc (.cells (dx G S I J d P) 27):=⟨_,rfl⟩;have jE:Hid (Below w.heap.size w w1):=by rw[hw1];exact hb0
 have wX:=hid hB;have LS:=hid hP;have HT:=hid hT;have TL:Hid (∀W,Below w.heap.size w W->Tab W):=λW h=>HT.out.below h (Nat.le_refl _)
 have HW1:=hid hw1;clear hb0 hB hP hT hw1;have zn:=NC;go_enter Tryz.func3,Tryz.ntmps3;go_wp2_with (first|(refine ar rfl 27 (.tmp 2) rfl _ _ _ rfl zn Tryz.underlying27 rfl (lE _ _ _ _ _ _) ?_))
 rw[<-HW1.out] at NC ⊢;have Xt:=hid NC;have Qz:iJ w1.heap.size d P w1:=(LS.out.below jE.out).wide jE.out.size;refine(yy G S I J d P wX.out w1 Qz).mono ?_;rintro e w2 ⟨⟨bg,rfl,hsm⟩,hb2⟩;have LQ:=hid (Xt.out.below hb2 Xt.out.lt);have j7:Hid (Below w.heap.size w w2):=jE.out.trans (hb2.mono jE.out.size);have wW:=hid hsm;clear Xt jE hb2 zn hsm Qz NC HW1;cases bg with
 |true=>
  go_wp2_with fail;go_ret;exact⟨rfl,j7.out⟩
 |false=>
  have HS:=hid (wW.out rfl);have zn:=LQ.out;clear wW;go_wp2_with (first|(refine ar rfl 27 (.tmp 2) rfl _ _ _ rfl zn Tryz.underlying27 rfl (lE _ _ _ _ _ _) ?_))
  refine((yk G S I J d P wX.out HS.out w2 ((LS.out.below j7.out).wide j7.out.size)).mono λe w' h=>Qf h).mono ?_;rintro e w3 ⟨hb3,a,n,c,L,rfl,YJ,hy,fY,hnone⟩;have HY:=hid hy;have HM:=hid YJ;have uJ:Hid (Below w.heap.size w w3):=j7.out.trans (hb3.mono j7.out.size);have ct:=hid hnone;have HS3:=hid hb3.size;have jA:=hid j7.out.size;clear hy LQ j7 hb3 zn HS YJ hnone LS wX
  by_cases k1:kind=1
  ·subst k1
   have hbs:=zS (λ_=>0) w3;have hown:=ah.alloc HM.out (.cells (Ks .u8 256 λ_=>0).toArray 32);have hnews:=Ac (W:=w3) (z:=λ_=>0);have hone:∀u∈Ks .u8 256 (λ_=>0),u.oneCell'=true:=λu hu=>by obtain⟨i,_,rfl⟩:=List.mem_map.1 hu;rfl
   obtain⟨i0,hi0,hz⟩:=Option.map_eq_some_iff.1 tU;simp only[Prod.mk.injEq] at hz;obtain⟨hz0,hz1,hz2⟩:=hz;have hb4:Below w.heap.size w (w3.alloc (.cells (Ks .u8 256 λ_=>0).toArray 32)):=uJ.out.alloc uJ.out.size _;have Oy:=hid hb4;have hlo:w2.heap.size<=(w3.alloc (.cells (Ks .u8 256 λ_=>0).toArray 32)).heap.size:=by rw[World.size_alloc];have:=HS3.out;omega
   clear hb4;go_wp2_with (first|(refine dt rfl 29 1 0 (.tmp 13) rfl (aL λ_=>0) rfl _ _ hbs ?_)|(refine wpList_append_own_at _ rfl (.tmp 12) (.tmp 14) 29 rfl w2.heap.size 32 i0 (aL λ_=>0) 256 256 Tryz.underlying29 hi0 hz0 hz1 hz2 (by simp[Value.cells,Ks]) (by decide) (.slice a n c) n (Cs (dW L) n) rfl hown ⟨w3.heap.size,0,none⟩ 1 1 (Ks .u8 256 λ_=>0) rfl (bD _ _ _) hnews hone (by unfold maxLen;omega) (by omega) hlo ?_))
   intro v' w5 yn wQ _ _;rw[KM] at yn;have Ni:ah w5 w2.heap.size 32 256 v' (n+1) (dW (tD L n λ_=>0)):=yn;obtain⟨a5,c5,e5⟩:=Ni.form;subst e5;have KI:Hid (Below w.heap.size w w5):=Oy.out.grown wQ Oy.out.size (λq hq=>by have h1:=(World.ownsRow.lt hown q hq).1;have:=jA.out;omega);have HM5:=hid Ni;have HY5:Hid (∀i,bm (tD L n (λ_=>0) i)):=λi=>by
    show bm (if i<n then L i elseλ_=>0);split
    ·exact HY.out i
    exact kz
   clear yn wQ Ni hown hnews hone hlo hbs Oy HM HY uJ;go_wp2_with fail;refine(lJ a5 (n+1) c5 (tD L n λ_=>0) HY5.out (by omega) (tR HM5.out) w5 (TL.out _ KI.out) (gz HM5.out)).mono ?_;rintro e w6 ⟨rfl,kx⟩;have Cd:Hid (Below w.heap.size w w6):=KI.out.trans (kx.mono KI.out.size);clear KI kx;go_wp2_with fail;go_ret;exact⟨rfl,Cd.out⟩
  have q1:(kind==1)=false:=by simp[k1]
  have HI:=hid (gz HM.out)
  by_cases km:kind= -1
  ·subst km
   by_cases h0:n=0
   ·have hn0:¬(0:Int)<(n:Int):=by omega
    have acU:decide ((n:Int)>0)=false:=decide_eq_false (by omega);subst h0;go_wp2_with fail;refine(lJ a 0 c L HY.out (by omega) (λh=>⟨rfl,(ct.out h).2⟩) w3 (TL.out _ uJ.out) HI.out).mono ?_;rintro e w6 ⟨rfl,kx⟩;have Cd:Hid (Below w.heap.size w w6):=uJ.out.trans (kx.mono uJ.out.size);clear kx;go_wp2_with fail;go_ret;exact⟨rfl,Cd.out⟩
   obtain⟨m,rfl⟩:∃m,n=m+1:=⟨n-1,by omega⟩;have hn0:(0:Int)<(m:Int)+1:=by omega
   obtain⟨g,c',e,hg1,hg2,hnc,hcm⟩:=ah.nM HM.out (show 0<m+1 by omega);injection e with e1 e2 e3
   subst e1 e3;have hmc:m<=c:=by omega
   have uG:=hid (ah.ahead HM.out (aZ _) (k:=m) (by omega));have hx1:=λW=>zT (some ⟨g,0,none⟩) (m+1) c m (m:Int) rfl (by omega) W
   have zv:Hid (m<=4294967296):=by show m<=_;omega
   clear h0 hnc hg1 hg2 hcm e2 HM HI ct;go_wp2_with fail;refine(lJ (some ⟨g,0,none⟩) m c L HY.out zv.out (tR uG.out) w3 (TL.out _ uJ.out) (gz uG.out)).mono ?_;rintro e w6 ⟨rfl,kx⟩;have Cd:Hid (Below w.heap.size w w6):=uJ.out.trans (kx.mono uJ.out.size);clear kx;go_wp2_with fail;go_ret;exact⟨rfl,Cd.out⟩
  have q2:(kind== -1)=false:=by simp[km]
  go_wp2_with fail;refine(lJ a n c L HY.out (by omega) ct.out w3 (TL.out _ uJ.out) HI.out).mono ?_;rintro e w6 ⟨rfl,kx⟩;have Cd:Hid (Below w.heap.size w w6):=uJ.out.trans (kx.mono uJ.out.size);clear kx;go_wp2_with fail;go_ret;exact⟨rfl,Cd.out⟩
end Go.Proofs.YtphamecphmbipaaGreatDoor
