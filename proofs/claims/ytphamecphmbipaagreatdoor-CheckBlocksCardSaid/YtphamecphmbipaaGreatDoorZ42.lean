/- Texts of this claim, merged. -/
import Derived.Test.YtphamecphmbipaaGreatDoorZ40
import Derived.Test.YtphamecphmbipaaGreatDoorZ41
set_option linter.unusedVariables false
set_option maxRecDepth 100000
set_option maxHeartbeats 16000000

namespace Go.Proofs.YtphamecphmbipaaGreatDoor
open Go.RowKit
variable {w W':World} {cap mc m i B B':Nat} {ma a:Option Addr} {L:Nat->Nat->Int} {o:Nat->Nat} {P:PlanD}
theorem A3(v:Value)(n:Nat)(L:Nat->Nat->Int)(hL:∀i,bu (L i))(gi:n<=4294967296)(w:World)(hT:Tab w)(hv:xq w v n L):
  Calls Tryz.prog 22 #[v] w λe w'=>e= .returned (.int .i64 (((Im.of L n).aV.1:Nat):Int))/\Below w.heap.size w w':=by
 have HE:=ah (gH v n L hL gi w hT hv);clear hT hv hL;go_enter Tryz.func22,Tryz.ntmps22;go_wp2_with fail;refine HE.Z.mono ?_;rintro e w1 ⟨p,rfl,hb,_⟩;have HB:=ah hb;clear hb HE;go_wp2_with fail;go_ret;exact⟨rfl,HB.Z⟩
theorem zf(v:Value)(n:Nat)(L:Nat->Nat->Int)(hL:∀i,bu (L i))(gi:n<=4294967296)(w:World)(hT:Tab w)(hv:xq w v n L):
  Calls Tryz.prog 15 #[v] w λe w'=>(((Im.of L n).aV.1≠0/\e= .returned (.tuple #[gJ 0 0 0 0 0,.int .i64 200]))\/((Im.of L n).aV.1=0/\(Im.of L n).Ok/\e= .returned (.tuple #[gJ (Im.of L n).g (Im.of L n).s (Im.of L n).i (Im.of L n).j (Im.of L n).o,.int .i64 0])))/\Below w.heap.size w w':=by
 have hzs:=fv;have hA0:=At.new w 47 (ax 0 0 0 0 0);have hb0:Below w.heap.size w (w.alloc (.cells (ax 0 0 0 0 0) 47)):=ag.alloc af _;have HE:=ah (gH v n L hL gi _ (hT.below hb0 af) (hv.below hb0));have uW:=ah hA0;have pK:=ah hb0;clear hT hv hL hA0 hb0;go_enter Tryz.func15,Tryz.ntmps15;go_wp2_with fail;refine HE.Z.mono ?_;rintro e w1 ⟨p,rfl,hb,hx⟩;have hr:=uW.Z.below hb uW.Z.lt;have HB:=ah (pK.Z.trans (hb.mono pK.Z.size));have HX:=ah hx;clear hb HE hx uW pK;obtain⟨K,hK⟩:=aa ((((Im.of L n).aV.1:Nat):Int));rw[<-hK];have HK:=ah hK;clear hK
 by_cases h0:K=0
 ·have q0:(K !=0)=false:=by simp[h0]
  have e0:(Im.of L n).aV.1=0:=by have:=HK.Z;omega
  obtain⟨hok,ds,ino,ay,sl,un,g,hA,hR,hg,oR⟩:=HX.Z e0;have HO:=ah hok;have E0:=ah e0;have hrg:w1.rangeAt p 1 (ax (Im.of L n).g (Im.of L n).s (Im.of L n).i (Im.of L n).j (Im.of L n).o).toList:=λk v' hk=>by
   match k,hk with
   |0,hk=>injection hk with hk;subst hk;exact hA.cell (i:=1) rfl
   |1,hk=>injection hk with hk;subst hk;exact hA.cell (i:=2) rfl
   |2,hk=>injection hk with hk;subst hk;exact hA.cell (i:=3) rfl
   |3,hk=>injection hk with hk;subst hk;exact hA.cell (i:=4) rfl
   |4,hk=>injection hk with hk;subst hk;exact hA.cell (i:=5) rfl
   |k+5,hk=>cases hk
  clear h0 HX hA hR hg oR hok e0;go_wp2_with (first|(refine aH rfl 47 _ rfl p 1 (ax (Im.of L n).g (Im.of L n).s (Im.of L n).i (Im.of L n).j (Im.of L n).o).toList _ rfl hrg Tryz.underlying47 rfl (by kernel_rfl) ?_)|(refine aD rfl 47 (.tmp 2) (.tmp 17) rfl w.heap.size (ax (Im.of L n).g (Im.of L n).s (Im.of L n).i (Im.of L n).j (Im.of L n).o) (ax 0 0 0 0 0) rfl rfl hr a7 rfl (eY _ _ _ _ _) ?_))
  intro w9 jv gQ;clear hrg hr;go_wp2_with fail;exact bodyPost_ret (bp rfl _ _ w.heap.size _ _ _ _ _ rfl jv) rfl ⟨.inr ⟨E0.Z,HO.Z,rfl⟩,HB.Z.trans (gQ.below af)⟩
 have q0:(K !=0)=true:=by simp[h0]
 have E0:Hd ((Im.of L n).aV.1≠0):=by show _≠_;have:=HK.Z;omega
 clear h0 HX;go_wp2_with (first|(refine aD rfl 47 (.tmp 2) (.tmp 13) rfl w.heap.size (ax 0 0 0 0 0) (ax 0 0 0 0 0) rfl rfl hr a7 rfl (eY _ _ _ _ _) ?_))
 intro w9 jv gQ;clear hr;go_wp2_with fail;exact bodyPost_ret (bp rfl _ _ w.heap.size _ _ _ _ _ rfl jv) rfl ⟨.inl ⟨E0.Z,rfl⟩,HB.Z.trans (gQ.below af)⟩
theorem zd(v:Value)(n:Nat)(L:Nat->Nat->Int)(hL:∀i,bu (L i))(gi:n<=4294967296)(w:World)(hT:Tab w)(hv:xq w v n L):
  Calls Tryz.prog 26 #[v] w λe w'=>e= .returned (.bool (decide ((Im.of L n).aV.1=0/\(Im.of L n).o=0)))/\Below w.heap.size w w':=by
 have HE:=ah (gH v n L hL gi w hT hv);clear hT hv hL;go_enter Tryz.func26,Tryz.ntmps26;go_wp2_with fail;refine HE.Z.mono ?_;rintro e w1 ⟨p,rfl,hb,hx⟩;have HB:=ah hb;have HX:=ah hx;clear hb HE hx;obtain⟨K,hK⟩:=aa ((((Im.of L n).aV.1:Nat):Int));rw[<-hK];have HK:=ah hK;clear hK
 by_cases h0:K=0
 ·have q0:(K==0)=true:=by simp[h0]
  have e0:(Im.of L n).aV.1=0:=by have:=HK.Z;omega
  obtain⟨hok,ds,ino,ay,sl,un,g,hA,hR,hg,oR⟩:=HX.Z e0;have E0:=ah e0;obtain⟨O,hO⟩:=aa ((((Im.of L n).o:Nat):Int));have c5:w1.cell? ⟨p,5,none⟩=some (.int .u32 O):=by rw[hO];exact hA.cell (i:=5) rfl
  have HO:=ah hO;clear h0 HX hA hR hg oR hok e0 hO;go_wp2_with fail;go_ret;refine⟨?_,HB.Z⟩;have:(O==0)=decide ((Im.of L n).aV.1=0/\(Im.of L n).o=0):=by
   rw[HO.Z,E0.Z]
   by_cases h:(Im.of L n).o=0
   ·simp[h]
   simp[h]
  rw[this];rfl
 have q0:(K==0)=false:=by simp[h0]
 have E0:Hd ((Im.of L n).aV.1≠0):=by show _≠_;have:=HK.Z;omega
 clear h0 HX;go_wp2_with fail;go_ret;exact⟨by rw[decide_eq_false (λh=>E0.Z h.1)];rfl,HB.Z⟩
def KY(w:World)(n:Nat)(L:Nat->Nat->Int)(e:Ending)(w':World):Prop:=
 Below w.heap.size w w'/\(((Im.of L n).aV.1≠0/\e= .returned (.slice none 0 0))\/((Im.of L n).aV.1=0/\(Im.of L n).Ok/\∃g,e= .returned (.slice (some ⟨g,0,none⟩) n n)/\w.heap.size<=g/\aE w' g 3 1 n (mG (Im.of L n).aV.2)))
theorem wL(v:Value)(n:Nat)(L:Nat->Nat->Int)(hL:∀i,bu (L i))(gi:n<=4294967296)(w:World)(hT:Tab w)(hv:xq w v n L):
  Calls Tryz.prog 14 #[v] w λe w'=>KY w n L e w':=by
 have HE:=ah (gH v n L hL gi w hT hv);clear hT hv hL;go_enter Tryz.func14,Tryz.ntmps14;go_wp2_with fail;refine HE.Z.mono ?_;rintro e w1 ⟨p,rfl,hb,hx⟩;have HB:=ah hb;have HX:=ah hx;clear hb HE hx;obtain⟨K,hK⟩:=aa ((((Im.of L n).aV.1:Nat):Int));rw[<-hK];have HK:=ah hK;clear hK
 by_cases h0:K=0
 ·have q0:(K !=0)=false:=by simp[h0]
  have e0:(Im.of L n).aV.1=0:=by have:=HK.Z;omega
  obtain⟨hok,ds,ino,ay,sl,un,g,hA,hR,hg,oR⟩:=HX.Z e0;have c13:w1.cell? ⟨p,13,none⟩=some (.slice (some ⟨g,0,none⟩) n n):=hA.cell (i:=13) rfl;have HF:Hd ((Im.of L n).aV.1=0/\(Im.of L n).Ok/\w.heap.size<=g/\aE w1 g 3 1 n (mG (Im.of L n).aV.2)):=⟨e0,hok,hg,hR⟩;clear h0 HX hA hR hg oR hok e0;go_wp2_with fail;go_ret;exact⟨HB.Z,.inr ⟨HF.Z.1,HF.Z.2.1,g,rfl,HF.Z.2.2⟩⟩
 have q0:(K !=0)=true:=by simp[h0]
 have E0:Hd ((Im.of L n).aV.1≠0):=by show _≠_;have:=HK.Z;omega
 clear h0 HX;go_wp2_with fail;go_ret;exact⟨HB.Z,.inl ⟨E0.Z,rfl⟩⟩
theorem Aj(v:Value)(n:Nat)(L:Nat->Nat->Int)(hL:∀i,bu (L i))(gi:n<=4294967296)(w:World)(hv:xq w v n L):
  Calls Tryz.prog 32 #[v] w λe w'=>e= .returned (.int .i64 (((Im.of L n).aV.1:Nat):Int))/\Below w.heap.size w w':=by
 have HE:=ah (jX v n L hL gi w hv);clear hv hL;go_enter Tryz.func32,Tryz.ntmps32;go_wp2_with fail;refine HE.Z.mono ?_;rintro e w1 ⟨hb,p,rfl,_⟩;have HB:=ah hb;clear hb HE;go_wp2_with fail;go_ret;exact⟨rfl,HB.Z⟩
theorem x6(v:Value)(n:Nat)(L:Nat->Nat->Int)(hL:∀i,bu (L i))(gi:n<=4294967296)(w:World)(hv:xq w v n L):
  Calls Tryz.prog 31 #[v] w λe w'=>(((Im.of L n).aV.1≠0/\e= .returned (.tuple #[gJ 0 0 0 0 0,.int .i64 200]))\/((Im.of L n).aV.1=0/\(Im.of L n).Ok/\e= .returned (.tuple #[gJ (Im.of L n).g (Im.of L n).s (Im.of L n).i (Im.of L n).j (Im.of L n).o,.int .i64 0])))/\Below w.heap.size w w':=by
 have hzs:=fv;have hA0:=At.new w 47 (ax 0 0 0 0 0);have hb0:Below w.heap.size w (w.alloc (.cells (ax 0 0 0 0 0) 47)):=ag.alloc af _;have HE:=ah (jX v n L hL gi _ (hv.below hb0));have uW:=ah hA0;have pK:=ah hb0;clear hv hL hA0 hb0;go_enter Tryz.func31,Tryz.ntmps31;go_wp2_with fail;refine HE.Z.mono ?_;rintro e w1 ⟨hb,p,rfl,hx⟩;have hr:=uW.Z.below hb uW.Z.lt;have HB:=ah (pK.Z.trans (hb.mono pK.Z.size));have HX:=ah hx;clear hb HE hx uW pK;have Oc:(0:Int)<=(((Im.of L n).aV.1:Nat):Int):=Int.natCast_nonneg _;obtain⟨K,hK⟩:=aa ((((Im.of L n).aV.1:Nat):Int));rw[<-hK] at Oc ⊢;have HK:=ah hK;clear hK
 by_cases h0:K=0
 ·have q0:decide ((0:Int)<K)=false:=decide_eq_false (by omega)
  have YG:¬(0:Int)<K:=by omega
  have e0:(Im.of L n).aV.1=0:=by have:=HK.Z;omega
  obtain⟨b,off,cap',ds,r,ci,ay,pt,Q,hkn,hq,_,hok⟩:=HX.Z e0;have hA:=hkn.i.k.a;have HO:=ah hok;have E0:=ah e0;have hrg:w1.rangeAt p 1 (ax (Im.of L n).g (Im.of L n).s (Im.of L n).i (Im.of L n).j (Im.of L n).o).toList:=λk v' hk=>by
   match k,hk with
   |0,hk=>injection hk with hk;subst hk;exact hA.cell (i:=1) rfl
   |1,hk=>injection hk with hk;subst hk;exact hA.cell (i:=2) rfl
   |2,hk=>injection hk with hk;subst hk;exact hA.cell (i:=3) rfl
   |3,hk=>injection hk with hk;subst hk;exact hA.cell (i:=4) rfl
   |4,hk=>injection hk with hk;subst hk;exact hA.cell (i:=5) rfl
   |k+5,hk=>cases hk
  clear h0 HX hA hkn hq hok e0;go_wp2_with (first|(refine aH rfl 47 _ rfl p 1 (ax (Im.of L n).g (Im.of L n).s (Im.of L n).i (Im.of L n).j (Im.of L n).o).toList _ rfl hrg Tryz.underlying47 rfl (by kernel_rfl) ?_)|(refine aD rfl 47 (.tmp 2) (.tmp 17) rfl w.heap.size (ax (Im.of L n).g (Im.of L n).s (Im.of L n).i (Im.of L n).j (Im.of L n).o) (ax 0 0 0 0 0) rfl rfl hr a7 rfl (eY _ _ _ _ _) ?_))
  intro w9 jv gQ;clear hrg hr;go_wp2_with fail;exact bodyPost_ret (bp rfl _ _ w.heap.size _ _ _ _ _ rfl jv) rfl ⟨.inr ⟨E0.Z,HO.Z,rfl⟩,HB.Z.trans (gQ.below af)⟩
 have hK0:(0:Int)<K:=by omega
 have E0:Hd ((Im.of L n).aV.1≠0):=by show _≠_;have:=HK.Z;omega
 clear h0 HX;go_wp2_with (first|(refine aD rfl 47 (.tmp 2) (.tmp 13) rfl w.heap.size (ax 0 0 0 0 0) (ax 0 0 0 0 0) rfl rfl hr a7 rfl (eY _ _ _ _ _) ?_))
 intro w9 jv gQ;clear hr;go_wp2_with fail;exact bodyPost_ret (bp rfl _ _ w.heap.size _ _ _ _ _ rfl jv) rfl ⟨.inl ⟨E0.Z,rfl⟩,HB.Z.trans (gQ.below af)⟩
theorem x5(v:Value)(n:Nat)(L:Nat->Nat->Int)(hL:∀i,bu (L i))(gi:n<=4294967296)(w:World)(hv:xq w v n L):
  Calls Tryz.prog 33 #[v] w λe w'=>e= .returned (.bool (decide ((Im.of L n).aV.1=0/\(Im.of L n).o=0)))/\Below w.heap.size w w':=by
 have HE:=ah (jX v n L hL gi w hv);clear hv hL;go_enter Tryz.func33,Tryz.ntmps33;go_wp2_with fail;refine HE.Z.mono ?_;rintro e w1 ⟨hb,p,rfl,hx⟩;have HB:=ah hb;have HX:=ah hx;clear hb HE hx;obtain⟨K,hK⟩:=aa ((((Im.of L n).aV.1:Nat):Int));rw[<-hK];have HK:=ah hK;clear hK
 by_cases h0:K=0
 ·have q0:(K==0)=true:=by simp[h0]
  have e0:(Im.of L n).aV.1=0:=by have:=HK.Z;omega
  obtain⟨b,off,cap',ds,r,ci,ay,pt,Q,hkn,hq,_,hok⟩:=HX.Z e0;have hA:=hkn.i.k.a;have E0:=ah e0;obtain⟨O,hO⟩:=aa ((((Im.of L n).o:Nat):Int));have c5:w1.cell? ⟨p,5,none⟩=some (.int .u32 O):=by rw[hO];exact hA.cell (i:=5) rfl
  have HO:=ah hO;clear h0 HX hA hkn hq hok e0 hO;go_wp2_with fail;go_ret;refine⟨?_,HB.Z⟩;have:(O==0)=decide ((Im.of L n).aV.1=0/\(Im.of L n).o=0):=by
   rw[HO.Z,E0.Z]
   by_cases h:(Im.of L n).o=0
   ·simp[h]
   simp[h]
  rw[this];rfl
 have q0:(K==0)=false:=by simp[h0]
 have E0:Hd ((Im.of L n).aV.1≠0):=by show _≠_;have:=HK.Z;omega
 clear h0 HX;go_wp2_with fail;go_ret;exact⟨by rw[decide_eq_false (λh=>E0.Z h.1)];rfl,HB.Z⟩
def Ar(o:Nat->Nat)(n:Nat):List Value:=(List.range n).map λi=> .int .i64 ((o i:Nat):Int)
theorem Dj(o:Nat->Nat)(n:Nat):Ar o (n+1)=Ar o n++[.int .i64 ((o n:Nat):Int)]:=by unfold Ar;rw[List.range_succ,List.map_append];rfl
theorem CZ(b:Int)(W:World):(Instr.buildSlice 37 1 #[(0,.int .i64 b)]).run Tryz.prog W= .ok (.slice (some ⟨W.heap.size,0,none⟩) 1 1) (W.alloc (.cells #[.int .i64 b] 3)):=by kernel_rfl
theorem Dy:∃i,Tryz.prog.info? 3=some i/\i.zero=some (.int .i64 0)/\i.size=1/\i.bytes=8:=by
 obtain⟨i,hi,hz⟩:=Option.map_eq_some_iff.1 uk;simp only[Prod.mk.injEq] at hz;exact⟨i,hi,hz.1,hz.2.1,hz.2.2⟩
theorem JG(w:World)(x:Int):∀(j:Nat) (u:Value),([.int .i64 x]:List Value)[j]? =some u->(w.alloc (.cells #[.int .i64 x] 3)).cell? ((⟨w.heap.size,0,none⟩:Addr).add j)=some u:=by
 intro j u hj;rw[bA];rcases j with _|j
 ·cases hj;exact aF (heap_alloc_new w _) rfl
 cases hj
structure PM(w:World)(p b off cap:Nat)(x:Im)(ds:Value)(r ci:Nat)(ay pt:Value)(Q:List Im.Pt)(v:Value)(k:Nat)(W:World):Prop where
 s:oq w p b off cap x ds r ci ay pt Q W
 o:W.ownsRow w.heap.size 3 1 v k (Ar (Im.bN Q) k)
theorem PM.below{p b off:Nat}{x:Im}{ds:Value}{r ci:Nat}{ay pt:Value}{Q:List Im.Pt}{v:Value}{k:Nat}{W:World}(h:PM w p b off cap x ds r ci ay pt Q v k W)(hb:Below W.heap.size W W'):PM w p b off cap x ds r ci ay pt Q v k W':=⟨h.s.below hb,nP h.o hb⟩
def OwR(w:World)(n:Nat)(L:Nat->Nat->Int)(e:Ending)(w':World):Prop:=
 Below w.heap.size w w'/\(((Im.of L n).aV.1≠0/\e= .returned (.slice none 0 0))\/((Im.of L n).aV.1=0/\(Im.of L n).Ok/\∃a c,e= .returned (.slice a n c)/\w'.ownsRow w.heap.size 3 1 (.slice a n c) n (Ar (Im.of L n).aV.2 n)))
theorem vC(v:Value)(n:Nat)(L:Nat->Nat->Int)(hL:∀i,bu (L i))(gi:n<=4294967296)(w:World)(hv:xq w v n L):
  Calls Tryz.prog 34 #[v] w λe w'=>OwR w n L e w':=by
 have HE:=ah (jX v n L hL gi w hv);obtain⟨a0,aeS,rfl,_⟩:=hv;clear hL;go_enter Tryz.func34,Tryz.ntmps34;go_wp2_with fail;refine HE.Z.mono ?_;rintro e w1 ⟨hb,p,rfl,hx⟩;have HB:=ah hb;have HX:=ah hx;clear hb HE hx;have Oc:(0:Int)<=(((Im.of L n).aV.1:Nat):Int):=Int.natCast_nonneg _;obtain⟨K,hK⟩:=aa ((((Im.of L n).aV.1:Nat):Int));rw[<-hK] at Oc ⊢;have HK:=ah hK;clear hK
 by_cases h0:K=0
 ·have q0:decide ((0:Int)<K)=false:=decide_eq_false (by omega)
  have YG:¬(0:Int)<K:=by omega
  have e0:(Im.of L n).aV.1=0:=by have:=HK.Z;omega
  obtain⟨b,off,cap,ds,r,ci,ay,pt,Q,hkn,hq,tl,hok⟩:=HX.Z e0;have HO:Hd ((Im.of L n).aV.1=0/\(Im.of L n).Ok/\Im.bN Q=(Im.of L n).aV.2):=⟨e0,hok,hq⟩;have HQL:=ah tl;have pX:=ah hkn.low;have dt:Hd (PM w1 p b off cap (Im.of L n) ds r ci ay pt Q (.slice none 0 0) 0 w1):=⟨⟨hkn,Below.refl _ _⟩,World.ownsRow_nil _ _ _ _⟩;clear h0 HX hkn hq hok e0 tl;go_wp2_with fail;go_loopw [5,6] (λv z wr=>∃(k:Nat) (a:Option Addr) (c:Nat),k<=n/\v= .slice a k c/\z= .int .i64 (k:Int)/\PM w1 p b off cap (Im.of L n) ds r ci ay pt Q v k wr) (λ_ z _=>n-(intOf z).toNat)
  case atStart=>exact⟨0,none,0,Nat.zero_le _,rfl,rfl,dt.Z⟩
  clear dt;obtain⟨k,a,c,hk,rfl,rfl,st⟩:=hrel;have ST:=ah st;clear st
  by_cases hlt:k<n
  ·have hlt':(k:Int)<(n:Int):=by omega
   go_wp2_with fail;refine(kS (x:=Im.of L n) p b off cap ds _ ay pt Q (by have:=HQL.Z;omega) k wr ST.Z.s.k.i.k ST.Z.s.k.q).mono ?_;rintro e w2 ⟨rfl,hb2⟩;have bW:=ST.Z.below hb2;have PS:=ah (Dj (Im.bN Q) k);obtain⟨d,hd⟩:=aa (((Im.bN Q k:Nat):Int):Int);rw[<-hd] at PS ⊢;have n9:=ah (bW.below ((ag.alloc af (.cells #[.int .i64 d] 3):Below w2.heap.size w2 (w2.alloc (.cells #[.int .i64 d] 3)))));have hown:=n9.Z.o;have hnews:=JG w2 d;have hbase:=n9.Z.s.bel.size;obtain⟨i0,hi0,hz0,hz1,hz2⟩:=Dy;clear ST bW hb2 hd;go_wp2_with (first|(refine er rfl 37 1 0 (.tmp 23) rfl (.int .i64 d) rfl _ _ (CZ d _) ?_)|(refine wpList_append_own_at _ rfl (.tmp 20) (.tmp 24) 37 rfl w1.heap.size 3 i0 (.int .i64 0) 1 8 Tryz.underlying37 hi0 hz0 hz1 hz2 rfl (by decide) (.slice a k c) k (Ar (Im.bN Q) k) rfl hown ⟨w2.heap.size,0,none⟩ 1 1 [.int .i64 d] rfl rfl hnews (λu hu=>by rw[List.mem_singleton.1 hu];rfl) (by unfold maxLen;omega) (by omega) hbase ?_))
   intro v' w5 wh xl _ J6;have JW:∀q,(Value.slice a k c).ownBlock=some q->w1.heap.size<=q:=λq hq=>(World.ownsRow.lt hown q hq).1
   have Ip:PM w1 p b off cap (Im.of L n) ds r ci ay pt Q v' (k+1) w5:=⟨n9.Z.s.grown xl JW pX.Z.p pX.Z.b pX.Z.r pX.Z.q,by rw[PS.Z];exact wh⟩;obtain⟨a6,c6,Nu⟩:=jF wh;subst Nu;have ed:=ah Ip;clear n9 hown hnews hbase wh xl J6 Ip JW PS;go_wp2_with fail;go_roundw
   case rel=>(try((repeat apply Exists.intro);refine⟨?_,rfl⟩));exact⟨k+1,a6,c6,by omega,rfl,by go_num,ed.Z⟩
   simp[intOf];omega
  obtain rfl:k=n:=by omega
  go_wp2_with fail;go_ret;exact⟨HB.Z.trans (ST.Z.s.bel.mono HB.Z.size),.inr ⟨HO.Z.1,HO.Z.2.1,a,c,rfl,by rw[<-HO.Z.2.2];exact Jn ST.Z.o HB.Z.size⟩⟩
 have hK0:(0:Int)<K:=by omega
 have E0:Hd ((Im.of L n).aV.1≠0):=by show _≠_;have:=HK.Z;omega
 clear h0 HX;go_wp2_with fail;go_ret;exact⟨HB.Z,.inl ⟨E0.Z,rfl⟩⟩
theorem iM{W:World}{base n:Nat}(h:au W base 32 256 (.slice ma n mc) n (dR L)):xq W (.slice ma n mc) n L:=
 ⟨ma,mc,rfl,λhn=>by
  obtain⟨g,c,e,h1,h2,_⟩:=au.nZ h hn;injection e with e1 _ e3
  subst e1 e3;exact⟨g,0,rfl,h2,au.bQ h (aZ _)⟩⟩
theorem xq.row{W:World}{n:Nat}(h:xq W (.slice a n cap) n L):cU W a 256 n (dR L):=by
 obtain⟨a',cap',e,hi⟩:=h;injection e with e1 _ e3
 subst e1 e3
 by_cases h0:n=0
 ·exact .inl h0
 obtain⟨b,off,e,_,hs⟩:=hi (by omega);exact .inr ⟨b,off,e,hs⟩
structure O9(w:World)(a:Option Addr)(n cap:Nat)(ma:Option Addr)(mc:Nat)(L:Nat->Nat->Int)(W:World):Prop where
 l:xq W (.slice a n cap) n L
 m:au W w.heap.size 32 256 (.slice ma n mc) n (dR L)
 t:Tab W
 bel:Below w.heap.size w W
theorem O9.below{n:Nat}{W:World}(h:O9 w a n cap ma mc L W)(hb:Below W.heap.size W W'):O9 w a n cap ma mc L W':=
 ⟨h.l.below hb,au.below h.m hb,h.t.below hb af,h.bel.trans (hb.mono h.bel.size)⟩
structure UA(w:World)(a:Option Addr)(n cap:Nat)(ma:Option Addr)(mc:Nat)(L:Nat->Nat->Int)(g4 g6:Nat)(sc:Array Value)(W:World):Prop where
 s:O9 w a n cap ma mc L W
 x:At W g4 47 sc
 y:At W g6 47 sc
theorem UA.below{n:Nat}{g4 g6:Nat}{sc:Array Value}{W:World}(h:UA w a n cap ma mc L g4 g6 sc W)(hb:Below W.heap.size W W'):UA w a n cap ma mc L g4 g6 sc W':=
 ⟨h.s.below hb,h.x.below hb h.x.lt,h.y.below hb h.y.lt⟩
def Hh(W:World)(a:Option Addr)(m:Nat)(o:Nat->Nat):Prop:=m=0\/∃q,a=some ⟨q,0,none⟩/\q<W.heap.size/\∀i,i<m->W.cell? ⟨q,i,none⟩=some (.int .i64 ((o i:Nat):Int))
theorem Hh.below{W:World}(h:Hh W a m o)(hb:Below W.heap.size W W'):Hh W' a m o:=by
 rcases h with h|⟨q,e,hq,hc⟩
 ·exact .inl h
 exact .inr ⟨q,e,Nat.lt_of_lt_of_le hq hb.size,λi hi=>(hb.cell (p:=⟨q,i,none⟩) hq).trans (hc i hi)⟩
structure Tn(w:World)(a:Option Addr)(n cap:Nat)(ma:Option Addr)(mc:Nat)(L:Nat->Nat->Int)(wa:Option Addr)(m:Nat)(o:Nat->Nat)(W:World):Prop where
 s:O9 w a n cap ma mc L W
 n:Hh W wa m o
theorem Tn.below{n:Nat}{wa:Option Addr}{W:World}(h:Tn w a n cap ma mc L wa m o W)(hb:Below W.heap.size W W'):Tn w a n cap ma mc L wa m o W':=⟨h.s.below hb,h.n.below hb⟩
def mF(o:Nat->Nat)(i j:Nat):List Value:=if j<i then [.int .i64 (-5)] else [.int .i64 ((o j:Nat):Int)]
theorem Ng(o:Nat->Nat)(i j:Nat):(mF o i j).length=1:=by unfold mF;split<;>rfl
structure EI(W0:World)(ga:Option Addr)(m i:Nat)(o:Nat->Nat)(W:World):Prop where
 bel:Below W0.heap.size W0 W
 g:m=0\/∃g,ga=some ⟨g,0,none⟩/\W0.heap.size<=g/\aE W g 3 1 m (mF o i)
theorem EI.below{W0:World}{ga:Option Addr}{W:World}(h:EI W0 ga m i o W)(hb:Below W.heap.size W W'):EI W0 ga m i o W':=by
 refine⟨h.bel.trans (hb.mono h.bel.size),?_⟩;rcases h.g with h|⟨g,e,hg,hr⟩
 ·exact .inl h
 exact .inr ⟨g,e,hg,hr.below hb⟩
theorem Nf{W:World}{g:Nat}(h:aE W g 3 1 m (mF o i))(hi:i<m):aE (W.setCell ⟨g,i,none⟩ (.int .i64 (-5))) g 3 1 m (mF o (i+1)):=by
 have:=h.dO (k:=i) (j:=0) hi (by decide) (λj=>Ng o i j) (.int .i64 (-5));rw[Nat.mul_one,Nat.add_zero] at this;refine this.congr λj hj=> ?_
 unfold mF
 by_cases e:j=i
 ·subst e;rw[if_pos rfl,if_neg (Nat.lt_irrefl _),if_pos (Nat.lt_succ_self _)];rfl
 rw[if_neg e]
 by_cases e2:j<i
 ·rw[if_pos e2,if_pos (by omega)]
 rw[if_neg e2,if_neg (by omega)]
theorem Af(W:World):(Instr.buildSlice 29 0 #[]).run Tryz.prog W= .ok (.slice (some ⟨W.heap.size,0,none⟩) 0 0) (W.alloc (.cells #[] 32)):=by kernel_rfl
theorem Ea(a:Option Addr)(n cap:Nat)(L:Nat->Nat->Int)(hL:∀i,bu (L i))(gi:n<=4294967296)(ha:a=none->n=0/\cap=0)(w:World)(hT:Tab w)(hv:xq w (.slice a n cap) n L):
  Calls Tryz.prog 10 #[.slice a n cap] w λe w'=>e= .returned (.bool true)/\Below w.heap.size w w':=by
 have hzs:=fv;have Ev:Below w.heap.size w (w.alloc (.cells #[] 32)):=ag.alloc af _;have hrow:=(hv.below Ev).row;have hown:(w.alloc (.cells #[] 32)).ownsRow w.heap.size 32 256 (.slice (some ⟨w.heap.size,0,none⟩) 0 0) 0 []:=
  ⟨by simp,.inr ⟨w.heap.size,0,#[],rfl,Nat.le_refl _,heap_alloc_new w _,Nat.le_refl _,Nat.zero_le _,rfl,by simp⟩⟩
 have hnews:∀ad,a=some ad->∀(j:Nat) (u:Value),(Cs (dR L) n)[j]? =some u->(w.alloc (.cells #[] 32)).cell? (ad.add j)=some u:=λad had=>by
  subst had;exact rh (m:=256) (by omega) (aZ _) hrow
 have hlen:(Cs (dR L) n).length=n*256:=di (aZ _) _;have hone:∀u∈Cs (dR L) n,u.oneCell'=true:=Hw (Cg _) _;obtain⟨i0,hi0,hz⟩:=Option.map_eq_some_iff.1 um;simp only[Prod.mk.injEq] at hz;obtain⟨hz0,hz1,hz2⟩:=hz;have hbs:=Af;have HV:=ah hv;have HL:=ah hL;have HT:=ah hT;have kJ:=ah gi;have II:=ah Ev;clear hv hL hT hrow Ev;go_enter Tryz.func10,Tryz.ntmps10;go_wp2_with (first|(refine o9 rfl (.tmp 12) (.tmp 13) 29 rfl w.heap.size 32 i0 (aR λ_=>0) 256 256 Tryz.underlying29 hi0 hz0 hz1 hz2 (by simp[Value.cells,Ks]) (by decide) w.heap.size rfl hown a n cap (Cs (dR L) n) rfl ha hlen hnews hone (by unfold maxLen;omega) (by omega) (by simp) ?_))
 intro v' w5 wh xl;have NK:au w5 w.heap.size 32 256 v' n (dR L):=wh;obtain⟨ma,mc,rfl⟩:=NK.form;have om:Below w.heap.size w w5:=II.Z.grown xl II.Z.size (λq e=>by injection e with e;omega);have ed:Hd (O9 w a n cap ma mc L w5):=⟨HV.Z.below om,NK,HT.Z.below om af,om⟩;obtain⟨G,S,I,J,O,E,ZX⟩:∃G S I J O E:Int,((Im.of L n).aV.1≠0/\G=0/\S=0/\I=0/\J=0/\O=0/\E=200)\/((Im.of L n).aV.1=0/\G=((Im.of L n).g:Nat)/\S=((Im.of L n).s:Nat)/\I=((Im.of L n).i:Nat)/\J=((Im.of L n).j:Nat)/\O=((Im.of L n).o:Nat)/\E=0):=by
  by_cases h:(Im.of L n).aV.1=0
  ·exact⟨_,_,_,_,_,_,.inr ⟨h,rfl,rfl,rfl,rfl,rfl,rfl⟩⟩
  exact⟨_,_,_,_,_,_,.inl ⟨h,rfl,rfl,rfl,rfl,rfl,rfl⟩⟩
 have Eh:Hd (∀e,(((Im.of L n).aV.1≠0/\e=Ending.returned (.tuple #[gJ 0 0 0 0 0,.int .i64 200]))\/((Im.of L n).aV.1=0/\(Im.of L n).Ok/\e= .returned (.tuple #[gJ (Im.of L n).g (Im.of L n).s (Im.of L n).i (Im.of L n).j (Im.of L n).o,.int .i64 0])))->e= .returned (.tuple #[gJ G S I J O,.int .i64 E])):=λe he=>by
  rcases ZX with⟨h0,rfl,rfl,rfl,rfl,rfl,rfl⟩|⟨h0,rfl,rfl,rfl,rfl,rfl,rfl⟩<;>rcases he with⟨h1,rfl⟩|⟨h1,_,rfl⟩
  ·rfl
  ·exact absurd h1 h0
  ·exact absurd h0 h1
  rfl
 clear wh xl NK om hown hnews hlen hone hbs HV HT II ZX;go_wp2_with fail;refine(zf _ n L HL.Z kJ.Z w5 ed.Z.t (iM ed.Z.m)).mono ?_;rintro e w6 ⟨hC,m4⟩;obtain rfl:=Eh.Z _ hC;have hr:=At.new w6 47 (ax 0 0 0 0 0);have jj:=ah (ed.Z.below m4);clear ed hC m4;go_wp2_with (first|(refine aD rfl 47 (.tmp 4) (.tmp 18) rfl w6.heap.size (ax G S I J O) (ax 0 0 0 0 0) rfl rfl hr a7 rfl (eY _ _ _ _ _) ?_))
 intro w7 WU DL;obtain⟨g4,hg4⟩:=aa w6.heap.size;rw[<-hg4] at WU DL ⊢;have wC:Below w6.heap.size w6 w7:=(ag.alloc af _).trans (DL.below (by omega));have EC:=ah (jj.Z.below wC);have XZ:=ah WU;clear jj wC WU DL hg4 hr;go_wp2_with fail;refine(x6 _ n L HL.Z kJ.Z w7 EC.Z.l).mono ?_;rintro e w8 ⟨hC,oh⟩;obtain rfl:=Eh.Z _ hC;have hr:=At.new w8 47 (ax 0 0 0 0 0);have tD:=ah (EC.Z.below oh);have XY:=ah (XZ.Z.below oh XZ.Z.lt);clear EC XZ hC oh;go_wp2_with (first|(refine aD rfl 47 (.tmp 6) (.tmp 23) rfl w8.heap.size (ax G S I J O) (ax 0 0 0 0 0) rfl rfl hr a7 rfl (eY _ _ _ _ _) ?_))
 intro w9 J8 gQ;obtain⟨g6,wy⟩:=aa w8.heap.size;rw[<-wy] at J8 gQ ⊢;have yK:Below w8.heap.size w8 w9:=(ag.alloc af _).trans (gQ.below (by omega));have oo:Hd (UA w a n cap ma mc L g4 g6 (ax G S I J O) w9):=⟨tD.Z.below yK,XY.Z.below yK XY.Z.lt,J8⟩;clear tD XY yK J8 gQ wy hr Eh hzs;go_wp2_with fail;refine(A3 _ n L HL.Z kJ.Z w9 oo.Z.s.t (iM oo.Z.s.m)).mono ?_;rintro e pL ⟨rfl,hb⟩;have xm:=ah (oo.Z.below hb);clear oo hb;go_wp2_with fail;refine(Aj _ n L HL.Z kJ.Z pL xm.Z.s.l).mono ?_;rintro e H7 ⟨rfl,hb⟩;have n9:=ah (xm.Z.below hb);have Y2:=n9.Z.x;have Y1:=n9.Z.y;have QY:∀W,(binOp .neq 47 (gJ G S I J O) (gJ G S I J O)).run Tryz.prog W= .ok (.bool false) W:=λW=>by rw[tb,Km.2 ⟨rfl,rfl,rfl,rfl,rfl⟩];rfl
 clear xm hb;generalize (((Im.of L n).aV.1:Nat):Int)=K at*;go_wp2_with (first|(refine aB rfl 47 (.tmp 4) rfl _ _ _ rfl Y2 Tryz.underlying47 rfl (by kernel_rfl) ?_)|(refine aB rfl 47 (.tmp 6) rfl _ _ _ rfl Y1 Tryz.underlying47 rfl (by kernel_rfl) ?_))
 clear Y2 Y1 QY;refine(zd _ n L HL.Z kJ.Z H7 n9.Z.s.t (iM n9.Z.s.m)).mono ?_;rintro e Qa ⟨rfl,hb⟩;have XH:=ah (n9.Z.below hb);obtain⟨B,hB⟩:∃B,B=decide ((Im.of L n).aV.1=0/\(Im.of L n).o=0):=⟨_,rfl⟩;have O2:=ah hB;have RL:(B !=B)=false:=by cases B<;>rfl
 rw[<-hB];clear n9 hb hB;go_wp2_with fail;refine(x5 _ n L HL.Z kJ.Z Qa XH.Z.s.l).mono ?_;rintro e UE ⟨rfl,hb⟩;have XF:=ah (XH.Z.below hb);clear XH hb;rw[<-O2.Z];go_wp2_with fail;refine(vC _ n L HL.Z kJ.Z UE XF.Z.s.l).mono ?_;rintro e MB ⟨hb,hC⟩;have OE:=ah (XF.Z.s.below hb);obtain⟨m,wa,wc,rfl,hm,hw⟩:∃m wa wc,e= .returned (.slice wa m wc)/\(((Im.of L n).aV.1≠0/\m=0)\/((Im.of L n).aV.1=0/\m=n))/\Hh MB wa m (Im.of L n).aV.2:=by
  rcases hC with⟨h0,rfl⟩|⟨h0,_,a2,c2,rfl,ho⟩
  ·exact⟨0,none,0,rfl,.inl ⟨h0,rfl⟩,.inl rfl⟩
  refine⟨n,a2,c2,rfl,.inr ⟨h0,rfl⟩,?_⟩
  by_cases hn:n=0
  ·exact .inl hn
  obtain⟨q,cq,hq⟩:=jG ho (by omega);injection hq with hq1 _ _
  subst hq1;refine .inr ⟨q,rfl,(World.ownsRow.lt ho q rfl).2,λi hi=> ?_⟩;have k1:=ho.cells (g:=q) rfl i (.int .i64 (((Im.of L n).aV.2 i:Nat):Int)) (by unfold Ar;rw[List.getElem?_map,List.getElem?_range hi];rfl);rw[bA,Nat.zero_add] at k1;exact k1
 have XD:Hd (Tn w a n cap ma mc L wa m (Im.of L n).aV.2 MB):=⟨OE.Z,hw⟩;have HCG:Hd (∀W,O9 w a n cap ma mc L W->Calls Tryz.prog 14 #[.slice ma n mc] W λe w'=>∃ga gc,e= .returned (.slice ga m gc)/\EI W ga m 0 (Im.of L n).aV.2 w'):=λW hW=>(wL _ n L HL.Z kJ.Z W hW.t (iM hW.m)).mono λe w' h=>by
  obtain⟨hb,hC⟩:=h;rcases hC with⟨h0,rfl⟩|⟨h0,_,g,rfl,hg,hr⟩
  ·rcases hm with⟨_,rfl⟩|⟨h1,_⟩
   ·exact⟨none,0,rfl,hb,.inl rfl⟩
   exact absurd h1 h0
  rcases hm with⟨h1,_⟩|⟨_,rfl⟩
  ·exact absurd h0 h1
  exact⟨_,_,rfl,hb,.inr ⟨g,rfl,hg,hr⟩⟩
 have Pn:m<=4294967296:=by rcases hm with⟨_,h⟩|⟨_,h⟩<;>omega
 obtain⟨o,ho⟩:=aa ((Im.of L n).aV.2);rw[<-ho] at XD HCG;clear XF OE hC hb hw hm ho O2 RL;go_wp2_with fail;go_loopw [9,10,11] (λv _ _ wr=>∃k:Nat,k<=2/\v= .int .i64 (k:Int)/\Tn w a n cap ma mc L wa m o wr) (λv _ _ _=>2-(intOf v).toNat)
 case atStart=>exact⟨0,Nat.zero_le _,rfl,XD.Z⟩
 clear XD;obtain⟨k,hk,rfl,st⟩:=hrel;have ST:=ah st;clear st
 by_cases hk2:k<2
 ·have adu:(k:Int)<2:=by omega
  go_wp2_with fail;refine(HCG.Z wr ST.Z.s).mono ?_;rintro e P9 ⟨ga,gc,rfl,hg⟩;obtain⟨W0,hW0⟩:=aa wr;rw[<-hW0] at ST hg;have iy:=ah hg;clear hg hW0;go_wp2_with fail;go_loopw [11] (λv wq=>∃i:Nat,i<=m/\v= .int .i64 (i:Int)/\EI W0 ga m i o wq) (λv _=>m-(intOf v).toNat)
  case atStart=>exact⟨0,Nat.zero_le _,rfl,iy.Z⟩
  clear iy;obtain⟨i,hi,rfl,st⟩:=hrel;have iy:=ah st;clear st
  by_cases him:i<m
  ·have adB:(i:Int)<(m:Int):=by omega
   have i0:(0:Int)<=(i:Int):=by omega
   obtain⟨g,Ws,hgl,hgr⟩:∃g,ga=some ⟨g,0,none⟩/\W0.heap.size<=g/\∀W,EI W0 ga m i o W->aE W g 3 1 m (mF o i):=by
    rcases iy.Z.g with h|⟨g,e,hg,_⟩
    ·omega
    refine⟨g,e,hg,λW hW=> ?_⟩;rcases hW.g with h|⟨g',e',_,hr⟩
    ·omega
    rw[e] at e';injection e' with e'
    injection e' with e'
    rw[e'];exact hr
   obtain⟨q,VE,Y6⟩:∃q,wa=some ⟨q,0,none⟩/\∀W,EI W0 ga m i o W->W.cell? ⟨q,i,none⟩=some (.int .i64 ((o i:Nat):Int)):=by
    rcases ST.Z.n with h|⟨q,e,hq,hc⟩
    ·omega
    exact⟨q,e,λW hW=>(hW.bel.cell (p:=⟨q,i,none⟩) hq).trans (hc i him)⟩
   have Ho:Hd (∀W,EI W0 ga m i o W->aE W g 3 1 m (mF o i)/\W.cell? ⟨g,i,none⟩=some (.int .i64 ((o i:Nat):Int))/\W.cell? ⟨q,i,none⟩=some (.int .i64 ((o i:Nat):Int))):=λW hW=>⟨hgr W hW,(hgr W hW).j8 him (by unfold mF;rw[if_neg (Nat.lt_irrefl _)]),Y6 W hW⟩
   have SY:=ah hgl;have Un:=ah him;clear hgr Y6 hgl;subst Ws VE;obtain⟨D,hD⟩:=aa (((o i:Nat):Int):Int);rw[<-hD] at Ho;clear hD;go_wp2_with fail;refine ar (EI W0 (some ⟨g,0,none⟩) m i o) (iy.Z.below ⟨rfl,rfl,rfl,Nat.le_refl _,λ_ _=>rfl⟩) ?_;clear iy;intro hne;have cG:∀y:a9 (EI W0 (some ⟨g,0,none⟩) m i o),y.W.cell? ⟨g,i,none⟩=some (.int .i64 D):=λy=>(Ho.Z _ y.h).2.1
   have cQ:∀y:a9 (EI W0 (some ⟨g,0,none⟩) m i o),y.W.cell? ⟨q,i,none⟩=some (.int .i64 D):=λy=>(Ho.Z _ y.h).2.2
   repeat go_big_quiet_step (fail)
   refine wpQuiet_nil ?_;intro IW h16;have jj:=ah h16.Z;clear h16 hne cG cQ;have cG:=(Ho.Z _ jj.Z).2.1;have fG:=(Ho.Z _ jj.Z).1.soft i;have ho:az g IW (IW.setCell ⟨g,i,none⟩ (.int .i64 (-5))):=az.setCell IW ⟨g,i,none⟩ _;have fK:Hd (EI W0 (some ⟨g,0,none⟩) m (i+1) o (IW.setCell ⟨g,i,none⟩ (.int .i64 (-5)))):=⟨jj.Z.bel.trans (ho.below SY.Z),.inr ⟨g,rfl,SY.Z,Nf (Ho.Z _ jj.Z).1 Un.Z⟩⟩;clear ho jj;go_wp2_with fail;go_roundw
   case rel=>(try((repeat apply Exists.intro);refine⟨?_,rfl⟩));exact⟨i+1,by omega,by go_num,fK.Z⟩
   simp[intOf];omega
  obtain rfl:i=m:=by omega
  have fK:=ah (ST.Z.below iy.Z.bel);go_wp2_with fail;go_roundw
  case rel=>(try((repeat apply Exists.intro);refine⟨?_,rfl⟩));exact⟨k+1,by omega,by go_num,fK.Z⟩
  simp[intOf];omega
 obtain rfl:k=2:=by omega
 have Hl:Hd (qY L L n n=true):=by
  show _=_;unfold qY;rw[beq_self_eq_true,Bool.true_and];exact(y7 _ _ _).2 λi _ j _=>rfl
 have SR:Hd ((n:Int)<=9223372036854775807):=by have:=kJ.Z;show(n:Int)<=_;omega
 go_wp2_with fail;refine(qX ma a n n mc cap L L SR.Z SR.Z wr (iM ST.Z.s.m).row ST.Z.s.l.row).mono ?_;rintro e Pc ⟨rfl,d,rfl⟩;rw[Hl.Z];have O2:=ah ST.Z.s.bel;go_wp2_with fail;go_ret;exact⟨rfl,O2.Z.trans ⟨rfl,rfl,rfl,Nat.le_refl _,λ_ _=>rfl⟩⟩
section
variable {b:Nat} {lk:Int} {w W W':World}
end
theorem fN.wide{W:World}{n:Nat}{f:Nat->List Value}(h:fN B W a m n f)(hB:B<=B'):fN B' W a m n f:=⟨h.1,λb off e hn=>Nat.lt_of_lt_of_le (h.2 b off e hn) hB⟩
theorem iX.wide{d:dL}{W:World}(h:iX B d P W)(hB:B<=B'):iX B' d P W:=⟨h.f.wide hB,λi hi=>(h.b i hi).wide hB,λi hi=>(h.n i hi).wide hB,h.c.wide hB⟩
theorem At.plan(G S I J:Int)(d:dL)(P:PlanD):At (w.alloc (.cells (dK G S I J d P) 27)) w.heap.size 27 (dK G S I J d P):=At.new _ _ _
section
variable {w:World} {p q:Nat} {cs:Array Value} {n:Nat} {L L':Nat->Nat->Int} {W W':World}
end
def XT(w:World)(e:Ending)(w':World):Prop:=
 Below w.heap.size w w'/\∃(a:Option Addr) (n c:Nat) (L:Nat->Nat->Int),e= .returned (.slice a n c)/\au w' w.heap.size 32 256 (.slice a n c) n (dR L)/\(∀b,bu (L b))/\n<=2048/\(a=none->n=0/\c=0)
theorem QH{G S I J:Int}{e:Ending}{w':World}(h:wZ G S I J P w e w'):XT w e w':=by
 obtain⟨hb,h⟩:=h;refine⟨hb,?_⟩;rcases h with⟨-,rfl⟩|⟨x,q,hx,-,-,-,-,-,rfl,hq,hr,hy⟩
 ·exact⟨none,0,0,λ_ _=>0,rfl,au.nil _ _ _ _ _,λ_=>ng,Nat.zero_le _,λ_=>⟨rfl,rfl⟩⟩
 exact⟨some ⟨q,0,none⟩,x.n,x.n,P.QI x,rfl,hr.QA (aZ _) hq (by have:=hx.iK;unfold maxLen;omega),hy,hx.iK,λh=>by cases h⟩
end Go.Proofs.YtphamecphmbipaaGreatDoor
