/- Texts of this claim, merged. -/
import Derived.Test.YtphamecphmbipaaGreatDoorZ39
set_option linter.unusedVariables false
namespace Go.Proofs.YtphamecphmbipaaGreatDoor
open Go.RowKit
variable {w:World} {off p:Nat} {m:Nat->Bool} {x:Im}
theorem aM.gws{w':World}{b m n:Nat}{f:Nat->List Value}(h:aM w b off m n f)(k:dV (JP p) w w')(hb:b<w.heap.size)(hp:b≠p):aM w' b off m n f:=
 λi hi j v hv=>(World.cell?_of_block (w:=w) (a:=⟨b,off+i*m+j,none⟩) (k.block b hb hp)).trans (h i hi j v hv)
theorem BE{N:Nat}:∀{Q:List Im.Pt},(∀y∈Q,y.i<=N)->∀c,Im.bN Q c<=N
 |[],_,c=>Nat.zero_le _
 |y::Q,h,c=>by
  rw[Im.bN];split
  ·exact h y (List.mem_cons_self ..)
  exact BE (λz hz=>h z (List.mem_cons_of_mem _ hz)) c
theorem Im.iO.le{Q:List Im.Pt}(h:Im.iO x m x.ni Q)(hx:x.Ok):Q.length<=2048:=by
 have h1:=hx.iK;have h2:=eT (λb=>Im.bN Q b !=0) x.n;have h3:=h.Lt;omega
theorem Im.iO.qok{Q:List Im.Pt}(h:Im.iO x m x.ni Q)(hx:x.Ok):Sp x Q:=
 ⟨h.le hx,λt h1 h2 hk i hi=>h.blk h1 h2 (by rw[hk];decide) hi,λt h1 h2 hk i hi h0=>Im.G6 (Im.xD (m:=m) (o:=Im.bN Q) h.run h1 h2 (by rw[hk];decide)) hi h0⟩
theorem wY.knq{b cap:Nat}{ds:Value}{r ci g:Nat}{pt:Value}{Q:List Im.Pt}{W:World}(h:wY w p b off cap x ds r ci g m pt Q W):xp p b off cap x ds r ci (.slice (some ⟨g,0,none⟩) (x.ni+1) (x.ni+1)) pt Q W:=by
 refine⟨h.s,?_⟩;have hq:=h.q;obtain⟨a,c,e⟩:=au.form hq;rw[e] at hq;exact⟨a,c,e,au.row hq (qj Q)⟩
set_option maxRecDepth 100000 in
set_option maxHeartbeats 16000000 in
theorem jX(v:Value)(n:Nat)(L:Nat->Nat->Int)(hL:∀i,bu (L i))(gi:n<=4294967296)(w:World)(hv:xq w v n L):
  Calls Tryz.prog 73 #[v] w λe w'=>zl w n L e w':=by
 obtain⟨a,cap,rfl,hi⟩:=hv;have pK:∀t:TypeId,∀cs,Hd (Below w.heap.size w (w.alloc (.cells cs t))):=λt cs=>ag.alloc af _
 by_cases hn0:n=0
 ·have q0:((n:Int)==0)=true:=by simp[hn0]
  have HF:Hd ((Im.of L n).aV=(0+1,λ_=>0)):=Im.so (by unfold Im.sS;rw[decide_eq_false (by show¬0<n;omega)];rfl);clear hn0 hi;go_enter Tryz.func73,Tryz.ntmps73;go_wp2_with fail;refine bodyPost_ret (results_tmp2 rfl _ _ _) rfl ?_;exact zl.no (pK _ _).Z rfl HF.Z
 have q0:((n:Int)==0)=false:=by simp;omega
 have uq:(0:Int)<(n:Int):=by omega
 obtain⟨b,off,rfl,r6,hseg⟩:=hi (by omega);obtain⟨W0,hW0⟩:=aa (w.alloc (.cells (GY (.slice (some ⟨b,off,none⟩) n cap) 0 0 0 0 0 false false) 157));have hb0:Below w.heap.size w W0:=by rw[hW0];exact(pK _ _).Z
 have Gi:=aM.below hseg hb0 r6;have hrg:(w.alloc (.cells (GY (.slice (some ⟨b,off,none⟩) n cap) 0 0 0 0 0 false false) 157)).rangeAt b off (dR L 0):=by rw[<-hW0];have:=aM.range Gi 0 (by omega);rwa[Nat.zero_mul,Nat.add_zero] at this
 have hA0:At W0 w.heap.size 157 (GY (.slice (some ⟨b,off,none⟩) n cap) 0 0 0 0 0 false false):=by rw[hW0];exact At.new _ _ _
 obtain⟨p,hp⟩:=aa w.heap.size;rw[<-hp] at hA0;have HBW:=ah r6;have HL:=ah hL;have HN9:=ah gi;have HP:Hd (p=w.heap.size/\p<W0.heap.size):=⟨hp,hA0.lt⟩;have HA:=ah hA0;have Cp:=ah Gi;have HB:=ah hb0;have IA:=ah hW0;have HNP:Hd (0<n):=by show 0<n;omega
 have hzs:=fv;clear hi hseg hb0 Gi hA0 gi r6 hL hn0 hW0 hp;go_enter Tryz.func73,Tryz.ntmps73;go_wp2_with (first|(refine aH rfl 32 (.tmp 16) rfl b off (dR L 0) _ rfl hrg Tryz.underlying32 rfl (by rw[aZ];exact aA) ?_))
 clear hrg;have P2:Hd ((Im.of L n).sS=(bU (L 0)==0&&((n:Int)==pj (hd (L 0) 4) (hd (L 0) 5) (hd (L 0) 6) (hd (L 0) 7)))):=by
  show(decide (0<n)&&_)=_;rw[decide_eq_true HNP.Z,Bool.true_and];rfl
 obtain⟨VG,VS,VI,VJ,VO,hV,RC⟩:∃G S I J O,kr (L 0)=gJ G S I J O/\(bU (L 0)=0->G=hd (L 0) 4/\S=hd (L 0) 5/\I=hd (L 0) 6/\J=hd (L 0) 7/\O=cR (L 0) 16):=by
  unfold kr;split
  ·exact⟨_,_,_,_,_,rfl,λ_=>⟨rfl,rfl,rfl,rfl,rfl⟩⟩
  rename_i h;exact⟨_,_,_,_,_,rfl,λh2=>absurd h2 h⟩
 have r8:=Ai (L 0) (HL.Z 0) W0;rw[hV] at r8;have e0:w.alloc (.cells (GY (.slice (some ⟨b,off,none⟩) n cap) 0 0 0 0 0 false false) 157)=W0:=IA.Z.symm;refine Calls.mono (show Calls _ _ _ (w.alloc (.cells (GY (.slice (some ⟨b,off,none⟩) n cap) 0 0 0 0 0 false false) 157)) _ by rw[e0];exact r8) ?_;rintro e w2 ⟨rfl,hb2⟩;rw[<-HP.Z.1];have Ud:=ah RC;obtain⟨E,hE⟩:=aa (bU (L 0));have HE:=ah hE;rw[<-hE];clear hV RC r8 hE e0;have hr:=At.new w2 47 (ax 0 0 0 0 0);have Ev:Below W0.heap.size W0 (w2.alloc (.cells (ax 0 0 0 0 0) 47)):=hb2.trans (ag.alloc hb2.size _);have gT:=hb2.size;go_wp2_with (first|(refine aD rfl 47 (.tmp 5) (.tmp 19) rfl w2.heap.size (ax VG VS VI VJ VO) (ax 0 0 0 0 0) rfl rfl hr a7 rfl (eY _ _ _ _ _) ?_))
 intro w3 N7 lS;obtain⟨G,hG⟩:=aa w2.heap.size;rw[<-hG] at N7 lS gT ⊢;have hb3:Below W0.heap.size W0 w3:=Ev.trans ((lS.below af).mono gT);have ST:Hd (Cn w p b off n L (GY (.slice (some ⟨b,off,none⟩) n cap) 0 0 0 0 0 false false) G (ax VG VS VI VJ VO) w3):=
  ⟨HA.Z.below hb3 HA.Z.lt,aM.below Cp.Z hb3 (Nat.lt_of_lt_of_le HBW.Z HB.Z.size),N7,HB.Z.trans (hb3.mono HB.Z.size),Nat.le_of_eq HP.Z.1.symm,Nat.lt_of_lt_of_le HP.Z.2 gT,HBW.Z⟩
 clear hr Ev hb2 N7 lS hb3 hG gT HA Cp HB IA hzs HP pK
 by_cases mq:E=0
 rotate_left
 ·have q1:(E !=0)=true:=by simp[mq]
  have HF:Hd ((Im.of L n).aV=(0+1,λ_=>0)):=Im.so (by rw[P2.Z,<-HE.Z];simp[mq]);clear mq;go_wp2_with fail;refine bodyPost_ret (results_tmp2 rfl _ _ _) rfl ?_;exact zl.no ST.Z.bel rfl HF.Z
 obtain⟨rfl,rfl,rfl,rfl,rfl⟩:=Ud.Z (HE.Z.symm.trans mq);subst mq;have tH:Hd ((Im.of L n).sS=((n:Int)==pj (hd (L 0) 4) (hd (L 0) 5) (hd (L 0) 6) (hd (L 0) 7))):=by show _=_;rw[P2.Z,<-HE.Z];rfl
 obtain⟨g,hg⟩:=aa (hd (L 0) 4);obtain⟨s,hs⟩:=aa (hd (L 0) 5);obtain⟨i,hi⟩:=aa (hd (L 0) 6);obtain⟨j,hj⟩:=aa (hd (L 0) 7);obtain⟨o,ho⟩:=aa (cR (L 0) 16);rw[<-hg,<-hs,<-hi,<-hj] at tH;rw[<-hg,<-hs,<-hi,<-hj,<-ho] at ST;have zw:=ah (And.intro hg (And.intro hs (And.intro hi (And.intro hj ho))));clear hg hs hi hj ho;obtain⟨N,hN⟩:=aa (pj g s i j);have HN:=ah hN;have m8:Hd (∀W,Calls Tryz.prog 113 #[bV g s i j] W λe w'=>e= .returned (.int .i64 N)/\Below W.heap.size W w'):=λW=>by rw[hN];exact yb g s i j W
 rw[<-hN] at tH;have QW:w3.rangeAt G 0 (ai g s i j).toList:=At.lT ST.Z.s;clear hN Ud;go_wp2_with (first|(refine aH rfl 23 (.tmp 26) rfl G 0 (ai g s i j).toList _ rfl QW Tryz.underlying23 rfl (by kernel_rfl) ?_))
 clear QW;refine(m8.Z _).mono ?_;rintro e w4 ⟨rfl,hb4⟩;have ey:=ah (ST.Z.below hb4);clear ST hb4 m8
 by_cases NI:(n:Int)=N
 rotate_left
 ·have q1:((n:Int) !=N)=true:=by simp[NI]
  have HF:Hd ((Im.of L n).aV=(0+1,λ_=>0)):=Im.so (by rw[tH.Z];simp[NI]);clear NI;go_wp2_with fail;refine bodyPost_ret (results_tmp2 rfl _ _ _) rfl ?_;exact zl.no ey.Z.bel rfl HF.Z
 have q1:((n:Int) !=N)=false:=by simp[NI]
 have tG:Hd ((Im.of L n).sS=true):=by show _=_;rw[tH.Z];simp[NI]
 have Ub:=ah NI;clear NI;go_wp2_with fail;apply Vp.bG 7 (λl i v W=>V7k p i v) (λl W=>Cn w p b off n L (GY (.slice (some ⟨b,off,none⟩) n cap) g s i j o (l 7) (l 10)) G (ax g s i j o) W/\(l 10=true->l 7=true)) (λW=>At W G 47 (ax g s i j o))
 case hm=>kernel_rfl
 case hd=>kernel_rfl
 case hpre=>kernel_rfl
 case hB=>kernel_rfl
 case hVl=>exactλl l' he i v W h=>h
 case hS=>exactλl l' W he h=>by rw[<-he 7 (by decide) (by decide),<-he 10 (by decide) (by decide)];exact h
 case hSC=>exactλl W h=>h.1.s
 case hVb=>exactλl i v W W' h hb=>h
 case hSb=>exactλl W W' h hb _=>⟨h.1.below hb,h.2⟩
 case h0=>exact⟨ey.Z.below ⟨rfl,rfl,rfl,Nat.le_refl _,λ_ _=>rfl⟩,λe=>by cases e⟩
 case hwalk=>
  simp only[List.take];intro R hR hne
  repeat go_big_quiet_step (fail)
  refine aO rfl 47 (.tmp 5) rfl G 0 rfl (ax g s i j o).toList _ (λW h=>h.1.range) Tryz.underlying47 rfl (by kernel_rfl) ?_;refine aj ?_
  repeat go_big_quiet_step (fail)
  refine aO rfl 23 (.tmp 35) rfl G 0 rfl (ai g s i j).toList _ (λW h=>At.lT h.1) Tryz.underlying23 rfl (by kernel_rfl) ?_;refine aj ?_
  repeat go_big_quiet_step (fail)
  exact wpQuiet_nil rfl
 case hst=>
  simp only[List.drop];refine⟨?_,?_,?_,?_,trivial⟩
  ·intro l a W hl hu h
   have e1:a.tmps.getD 38 undef= .pointer (some ⟨p,1,none⟩):=(h.vals 6 38 (aq hu 6) rfl).pre (by decide) rfl;have e2:a.tmps.getD 34 undef= .agg (ax g s i j o):=(h.vals 2 34 (aq hu 2) rfl).pre (by decide) rfl;have hs:=h.st.1;have Gq:l 10=false:=by
    cases h10:l 10 with
    |false=>rfl
    |true=>have:=h.st.2 h10;rw[hl] at this;cases this
   rw[hl,Gq] at hs;refine Vm.step h (by kernel_rfl) rfl rfl rfl hl (Vl.ef 47 (.tmp 38) (.tmp 34) rfl p 1 (ax g s i j o) e1 e2 (hs.a.there 1 5 (show(1:Nat)+5<=14 by decide)) a7 (eY _ _ _ _ _) ?_);refine⟨_,rfl,λi d _ hd hv'=>hv'.up λhi hv'=>hv',Vp.W.mk trivial,?_,λ_=>rfl⟩;show Cn w p b off n L (GY _ g s i j o (true||_) (l 10)) G _ _;rw[Gq];exact hs.put 1 _ rfl
  ·intro l a W hl hu h
   have e1:a.tmps.getD 33 undef= .pointer (some ⟨p,0,none⟩):=(h.vals 1 33 (aq hu 1) rfl).pre (by decide) rfl;exact Vm.aJ h (by kernel_rfl) rfl rfl rfl hl _ (Vl.mC (.tmp 33) rfl ⟨p,0,none⟩ e1) (λ_ _ hv=>hv.up λ_ hv=>hv) (Vp.W.mk rfl) (λs=>s)
  ·intro l a W hl hu h
   have e1:a.tmps.getD 39 undef= .pointer (some ⟨p,0,none⟩):=(h.vals 8 39 (aq hu 8) rfl).post;exact Vm.aJ h (by kernel_rfl) rfl rfl rfl hl _ (Vl.gB 157 (.tmp 39) 2 rfl e1 (by kernel_rfl)) (λ_ _ hv=>hv.up λ_ hv=>hv) (Vp.W.mk rfl) (λs=>s)
  intro l a W hl hu h;have e1:a.tmps.getD 40 undef= .pointer (some ⟨p,6,none⟩):=(h.vals 9 40 (aq hu 9) rfl).post;have e2:a.tmps.getD 36 undef= .agg (ai g s i j):=(h.vals 4 36 (aq hu 4) rfl).pre (by decide) rfl;have h7:l 7=true:=aq hu 7 (by kernel_rfl);have hs:=h.st.1;rw[h7,hl] at hs;refine Vm.step h (by kernel_rfl) rfl rfl rfl hl (Vl.ef 23 (.tmp 40) (.tmp 36) rfl p 6 (ai g s i j) e1 e2 (hs.a.there 6 4 (show(6:Nat)+4<=14 by decide)) (by kernel_rfl) (by kernel_rfl) ?_);refine⟨_,rfl,λi d _ hd hv'=>hv'.up λhi hv'=>hv',Vp.W.mk trivial,?_,λ_=>h7⟩;exact hs.put 6 _ rfl
 intro a' w8 h hall;have bX:=hall [39,40] (by kernel_rfl);clear hall;have e39:a'.tmps.getD 39 undef= .pointer (some ⟨p,0,none⟩):=(h.vals 8 39 rfl rfl).post;have e40:a'.tmps.getD 40 undef= .pointer (some ⟨p,6,none⟩):=(h.vals 9 40 rfl rfl).post;have tD:Hd (Cn w p b off n L (GY (.slice (some ⟨b,off,none⟩) n cap) g s i j o true true) G (ax g s i j o) w8):=h.st.1;rw[List.foldl_cons,List.foldl_cons,List.foldl_nil,e39,e40] at bX;simp only[Act.put,List.setIfInBounds_toArray,List.set_cons_succ,List.set_cons_zero] at bX;subst bX;clear h e39 e40 ey;go_wp2_with fail;have eS:aT g s i j=true:=by
  obtain⟨h1,h2,h3,h4,_⟩:=zw.Z;rw[h1,h2,h3,h4];exact oI HE.Z.symm
 have JT:1<n:=by
  have h1:=Ub.Z;rw[HN.Z,pj,if_pos eS] at h1;unfold aT at eS;simp only[decide_eq_true_eq] at eS;have h2:0<=g*s:=Int.mul_nonneg (by omega) (by omega);omega
 have V0:(1:Int)<(n:Int):=by omega
 have Bk:=ah eS;clear eS;apply Vp.bG 8 (λl k v W=>KQ g s i j (L 1) (G+1) p k v W) (λl W=>PJ w p b off n L (.slice (some ⟨b,off,none⟩) n cap) g s i j o G (l 14) W) (λW=>W.rangeAt p 6 (ai g s i j).toList/\aM W b off 256 n (dR L))
 case hm=>kernel_rfl
 case hd=>kernel_rfl
 case hpre=>kernel_rfl
 case hB=>kernel_rfl
 case hVl=>exactλl l' he i v W h=>h
 case hS=>exactλl l' W he h=>by rw[<-he 14 (by decide) (by decide)];exact h
 case hSC=>exactλl W h=>h.c
 case hVb=>exactλl i v W W' h hb=>h.below hb
 case hSb=>exactλl W W' h hb _=>h.below hb
 case h0=>exact⟨λ_=>tD.Z.below ⟨rfl,rfl,rfl,Nat.le_refl _,λ_ _=>rfl⟩,λe=>by cases e⟩
 case hwalk=>
  simp only[List.take];intro R hR hne
  repeat go_big_quiet_step (fail)
  refine aO rfl 23 (.tmp 45) rfl p 6 rfl (ai g s i j).toList _ (λW h=>h.1.1) Tryz.underlying23 rfl (by kernel_rfl) ?_;refine aj ?_
  repeat go_big_quiet_step (fail)
  refine aO rfl 32 (.tmp 48) rfl b (off+1*256) rfl (dR L 1) _ (λW h=>aM.range h.1.2 1 JT) Tryz.underlying32 rfl (by rw[aZ];exact aA) ?_;refine aj ?_;exact wpQuiet_nil rfl
 case hst=>
  simp only[List.drop];refine⟨?_,?_,?_,?_,?_,?_,?_,?_,trivial⟩
  ·intro l a W hl hu h
   have e1:a.tmps.getD 46 undef=bV g s i j:=(h.vals 4 46 (aq hu 4) rfl).pre (by decide) rfl;have e2:a.tmps.getD 49 undef=aR (L 1):=(h.vals 7 49 (aq hu 7) rfl).pre (by decide) rfl;have hst:G+1<=W.heap.size:=by
    cases h14:l 14 with
    |false=>exact(h.st.no h14).s.lt
    |true=>obtain⟨v,_,this⟩:=h.st.ye h14;exact this.s.lt
   refine Vm.step h (by kernel_rfl) rfl rfl rfl hl (Vl.il 114 #[bV g s i j,aR (L 1)] (Vl.nI 114 (.tmp 46) (.tmp 49) _ _ _ rfl e1 e2 (by kernel_rfl)) ?_);refine(pN g s i j (L 1) (HL.Z 1) W).mono ?_;rintro e W' ⟨v,E,rfl,hp,hb⟩;obtain⟨hv,rfl⟩:=Fu hp hst;exact⟨_,rfl,_,rfl,λi d _ _ hv=>hv.up λ_ hv=>hv.below hb,Vp.W.mk ⟨v,rfl,hv⟩,h.st.below hb⟩
  ·intro l a W hl hu h
   obtain⟨v,e1,hv⟩:=(h.vals 8 50 (aq hu 8) rfl).post;exact Vm.aJ h (by kernel_rfl) rfl rfl rfl hl _ (Vl.br (.tmp 50) rfl e1) (λ_ _ hv=>hv.up λ_ hv=>hv) (Vp.W.mk ⟨v,rfl,hv⟩) (λs=>s)
  ·intro l a W hl hu h
   obtain⟨v,e1,hv⟩:=(h.vals 9 41 (aq hu 9) rfl).post;exact Vm.aJ h (by kernel_rfl) rfl rfl rfl hl _ (Vl.fJ (.tmp 41) 0 _ rfl e1 rfl) (λ_ _ hv=>hv.up λ_ hv=>hv) (Vp.W.mk hv) (λs=>s)
  ·intro l a W hl hu h
   obtain⟨v,e1,hv⟩:=(h.vals 9 41 (aq hu 9) rfl).post;exact Vm.aJ h (by kernel_rfl) rfl rfl rfl hl _ (Vl.fJ (.tmp 41) 1 _ rfl e1 rfl) (λ_ _ hv=>hv.up λ_ hv=>hv) (Vp.W.mk rfl) (λs=>s)
  ·intro l a W hl hu h
   have e1:a.tmps.getD 42 undef= .pointer (some ⟨p,0,none⟩):=(h.vals 0 42 (aq hu 0) rfl).pre (by decide) rfl;exact Vm.aJ h (by kernel_rfl) rfl rfl rfl hl _ (Vl.mC (.tmp 42) rfl ⟨p,0,none⟩ e1) (λ_ _ hv=>hv.up λ_ hv=>hv) (Vp.W.mk rfl) (λs=>s)
  ·intro l a W hl hu h
   have e1:a.tmps.getD 53 undef= .pointer (some ⟨p,0,none⟩):=(h.vals 12 53 (aq hu 12) rfl).post;exact Vm.aJ h (by kernel_rfl) rfl rfl rfl hl _ (Vl.gB 157 (.tmp 53) 3 rfl e1 (by kernel_rfl)) (λ_ _ hv=>hv.up λ_ hv=>hv) (Vp.W.mk rfl) (λs=>s)
  ·intro l a W hl hu h
   have e1:a.tmps.getD 54 undef= .pointer (some ⟨p,10,none⟩):=(h.vals 13 54 (aq hu 13) rfl).post;have hv:tF g s i j (L 1) (G+1) (a.tmps.getD 51 undef) W:=(h.vals 10 51 (aq hu 10) rfl).post;have hs:=h.st.no hl;have Y8:p<G+1:=by have:=hs.lo.2.1;omega
   have ho:az p W (W.setCell ⟨p,10,none⟩ (a.tmps.getD 51 undef)):=az.setCell W ⟨p,10,none⟩ _;refine Vm.step h (by kernel_rfl) rfl rfl rfl hl (Vl.rG 51 (.tmp 54) (.tmp 51) rfl p 10 (a.tmps.getD 51 undef) (.slice none 0 0) e1 rfl (hs.a.cell (i:=10) rfl) (an hs.a 10) yC hv.form ?_);refine⟨_,rfl,λi d _ hd hv'=>hv'.up λhi hv'=>KQ.map hv' λv hv=>hv.only ho Y8,Vp.W.mk trivial,⟨(λe=>by have e:true=false:=e;cases e),λ_=>⟨_,hv.only ho Y8,hs.put 10 [_] rfl⟩⟩⟩
  intro l a W hl hu h;have e1:a.tmps.getD 52 undef= .int .i64 (jY g s i j (L 1)):=(h.vals 11 52 (aq hu 11) rfl).post;exact Vm.aJ h (by kernel_rfl) rfl rfl rfl hl _ (Vl.kV (.tmp 52) rfl e1) (λ_ _ hv=>hv.up λ_ hv=>hv) (Vp.W.mk rfl) (λs=>s)
 intro a' w9 h hall;have bX:=hall [50,41,51,52,53,54,6] (by kernel_rfl);clear hall;obtain⟨v11,e50,_⟩:=(h.vals 8 50 rfl rfl).post;obtain⟨v12,PE,_⟩:=(h.vals 9 41 rfl rfl).post;obtain⟨v13,e51⟩:=ae (a'.tmps.getD 51 undef);have e52:a'.tmps.getD 52 undef= .int .i64 (jY g s i j (L 1)):=(h.vals 11 52 rfl rfl).post;have e53:a'.tmps.getD 53 undef= .pointer (some ⟨p,0,none⟩):=(h.vals 12 53 rfl rfl).post;have e54:a'.tmps.getD 54 undef= .pointer (some ⟨p,10,none⟩):=(h.vals 13 54 rfl rfl).post;have e6:a'.tmps.getD 6 undef= .int .i64 (jY g s i j (L 1)):=(h.vals 15 6 rfl rfl).post;obtain⟨v,hv,hs⟩:=h.st.ye rfl;have HV:=ah hv;have oo:=ah hs;rw[List.foldl_cons,List.foldl_cons,List.foldl_cons,List.foldl_cons,List.foldl_cons,List.foldl_cons,List.foldl_cons,List.foldl_nil,e50,PE,e51,e52,e53,e54,e6] at bX;simp only[Act.put,List.setIfInBounds_toArray,List.set_cons_succ,List.set_cons_zero] at bX;subst bX;clear h e50 PE e51 e52 e53 e54 e6 hv hs tD;obtain⟨E,hE⟩:=aa (jY g s i j (L 1));have P1:Hd ((E==0)=iH g s i j (L 1)):=by show _=_;rw[hE,tX]
 rw[<-hE];clear hE;have eS:=Bk.Z;unfold aT at eS;simp only[decide_eq_true_eq] at eS;obtain⟨h1,h2,h3,h4,h5⟩:=zw.Z;have o0:0<=o:=by rw[h5];exact(dP (HL.Z 0) 16).1
 have eg:(Im.of L n).g=g.toNat:=by rw[h1];rfl
 have e1:(((Im.of L n).g:Nat):Int)=g:=by rw[eg];exact Int.toNat_of_nonneg (by omega)
 have e2:(((Im.of L n).s:Nat):Int)=s:=by rw[h2];exact Int.toNat_of_nonneg (by rw[<-h2];omega)
 have e3:(((Im.of L n).i:Nat):Int)=i:=by rw[h3];exact Int.toNat_of_nonneg (by rw[<-h3];omega)
 have e4:(((Im.of L n).j:Nat):Int)=j:=by rw[h4];exact Int.toNat_of_nonneg (by rw[<-h4];omega)
 have e5:(((Im.of L n).o:Nat):Int)=o:=by rw[h5];exact Int.toNat_of_nonneg (by rw[<-h5];omega)
 have DU:(Im.of L n).Cb=iH g s i j (L 1):=by
  show iH (((Im.of L n).g:Nat):Int) (((Im.of L n).s:Nat):Int) (((Im.of L n).i:Nat):Int) (((Im.of L n).j:Nat):Int) (L 1)=_;rw[e1,e2,e3,e4]
 have El:Hd ((Im.of L n).Cb=(E==0)):=DU.trans P1.Z.symm
 by_cases mq:E=0
 rotate_left
 ·have q2:(E !=0)=true:=by simp[mq]
  have HF:Hd ((Im.of L n).aV=(1+1,λ_=>0)):=Im.GU tG.Z (by rw[El.Z];simp[mq]);clear mq e1 e2 e3 e4 e5 eg DU h1 h2 h3 h4 h5 eS o0;go_wp2_with fail;refine bodyPost_ret (results_tmp2 rfl _ _ _) rfl ?_;exact zl.no oo.Z.bel rfl HF.Z
 have q2:(E !=0)=false:=by simp[mq]
 have H2:Hd ((Im.of L n).Cb=true):=by show _=_;rw[El.Z];simp[mq]
 have NL:=oo.Z.lo;have Kb:∃db dc,G+1<=db/\db<w9.heap.size/\qz p b off cap (Im.of L n) (.slice (some ⟨db,0,none⟩) (Im.of L n).g dc) (.slice none 0 0) (.slice none 0 0) (.slice none 0 0) w9/\aM w9 db 0 3 (Im.of L n).g (df (rB (L 1)) (rI (L 1)) (rD (L 1))):=by
  rcases HV.Z with⟨_,hm⟩|⟨hno,_⟩
  ·obtain⟨db,dc,rfl,hlo,hlt,_⟩:=au.nZ hm (by omega)
   refine⟨db,dc,hlo,hlt,⟨?_,oo.Z.i,Nat.lt_of_lt_of_le NL.2.2 oo.Z.bel.size⟩,?_⟩
   ·have hA:=oo.Z.a
    show At w9 p _ #[.slice (some ⟨b,off,none⟩) n cap,.int .i64 (((Im.of L n).g:Nat):Int),.int .i64 (((Im.of L n).s:Nat):Int),.int .i64 (((Im.of L n).i:Nat):Int),.int .i64 (((Im.of L n).j:Nat):Int),.int .u32 (((Im.of L n).o:Nat):Int),.int .i64 (((Im.of L n).g:Nat):Int),.int .i64 (((Im.of L n).s:Nat):Int),.int .i64 (((Im.of L n).i:Nat):Int),.int .i64 (((Im.of L n).j:Nat):Int),.slice (some ⟨db,0,none⟩) (Im.of L n).g dc,.slice none 0 0,.slice none 0 0,.slice none 0 0];rw[e1,e2,e3,e4,e5,eg];exact hA
   rw[eg];exact au.bQ hm (λ_=>rfl)
  have:=P1.Z;rw[hno] at this;simp[mq] at this
 obtain⟨db,dc,qp,J3,hK,hD⟩:=Kb;have HX:=ah (Im.Lq HL.Z tG.Z);have K9:=ah hK;have D9:=ah hD;have pX:Hd (b≠p/\db≠p/\p<w9.heap.size/\db<w9.heap.size):=⟨by omega,by omega,hK.a.lt,J3⟩;have m8:Hd (∀W',dV (JP p) w9 W'->Below w.heap.size w W'):=λW' k=>oo.Z.bel.trans (k.below oo.Z.bel.size (λj hj=>by have hj:j=p:=hj;rw[hj];exact NL.1))
 clear oo HV e1 e2 e3 e4 e5 eg DU h1 h2 h3 h4 h5 eS o0 mq El P1 NL qp J3 hK hD zw HN Ub HE P2 tH Bk;go_wp2_with fail;refine(x4 HX.Z p b off cap _ _ _ _ w9 K9.Z).mono ?_;rintro e pL ⟨rfl,yL⟩;have XS:=ah (K9.Z.below yL);have GR:Hd (dV (JP p) w9 pL):=dV.b9 yL;clear K9 yL;obtain⟨c,hc⟩:=aa (aK (Im.of L n).qy (Im.of L n).g);rw[<-hc];have H3:=ah hc.symm;clear hc;cases c
 case false=>
  go_wp2_with fail;refine bodyPost_ret (results_tmp2 rfl _ _ _) rfl ?_;exact zl.no (k:=2) (m8.Z _ GR.Z) rfl (Im.GS tG.Z H2.Z H3.Z)
 go_wp2_with fail;refine(x3 HX.Z p b off cap _ _ _ _ pL XS.Z pX.Z.1).mono ?_;rintro e H7 ⟨rfl,hg,rW⟩;have Uz:=ah (GR.Z.trans hg);have HZ:Hd (p<pL.heap.size):=XS.Z.a.lt;clear XS GR hg;obtain⟨c,hc⟩:=aa (aK (λt=>(Im.of L n).ki (t+1)) (Im.of L n).ni);rw[<-hc] at rW ⊢;have H4:=ah hc.symm;clear hc;cases c
 case false=>
  clear rW;go_wp2_with fail;refine bodyPost_ret (results_tmp2 rfl _ _ _) rfl ?_;exact zl.no (k:=3) (m8.Z _ Uz.Z) rfl (Im.GQ tG.Z H2.Z H3.Z H4.Z)
 obtain⟨iv,hk4⟩:=rW rfl;obtain⟨r,ci,hr1,hi4⟩:=hk4.kni;have Su:=ah hi4;have HRP:Hd (r≠p):=by have:=HZ.Z;show r≠p;omega
 have HM:=ah (Im.Cj H4.Z);have xd:Hd (1<=(Im.of L n).ni):=by
  have h:=dX HX.Z.may;show 1<=(Im.of L n).g*(Im.of L n).i;exact Nat.mul_pos (by omega) (by omega)
 clear rW hk4 hr1 hi4 HZ;have c11:H7.cell? ⟨p,11,none⟩=some (.slice (some ⟨r,0,none⟩) ((Im.of L n).ni+1) ci):=Su.Z.k.a.cell (i:=11) rfl;have cK:H7.cell? ⟨r,16,none⟩=some (.int .u8 ((Im.of L n).ino 1).kind):=Su.Z.ino (t:=1) (by have:=xd.Z;omega) 0 rfl;have n1:(1:Int)<((Im.of L n).ni:Int)+1:=by have:=xd.Z;omega
 obtain⟨kd,fV⟩:=aa (((Im.of L n).ino 1).kind);rw[<-fV] at cK
 by_cases hk2:kd=2
 rotate_left
 ·have q3:(kd !=2)=true:=by simp[hk2]
  have HF:Hd ((Im.of L n).aV=(4+1,λ_=>0)):=Im.GP tG.Z H2.Z H3.Z H4.Z (by rw[<-fV];simp[hk2]);clear hk2 fV;go_wp2_with fail;refine bodyPost_ret (results_tmp2 rfl _ _ _) rfl ?_;exact zl.no (m8.Z _ Uz.Z) rfl HF.Z
 have q3:(kd !=2)=false:=by simp[hk2]
 have T5:Hd (Im.EA (Im.of L n)):=⟨tG.Z,H2.Z,H3.Z,H4.Z,by rw[<-fV];simp[hk2]⟩;clear hk2 fV;go_wp2_with fail;clear c11 cK n1;refine(x2 HX.Z p b off cap _ r ci _ _ H7 pX.Z.1 HRP.Z Su.Z).mono ?_;rintro e Qa ⟨rfl,hg,rW⟩;have Uy:=ah (Uz.Z.trans hg);have HZ:Hd (p<H7.heap.size):=Su.Z.k.a.lt;clear Su Uz hg;obtain⟨c,hc⟩:=aa ((Im.of L n).vP);rw[<-hc] at rW ⊢;have H6:=ah hc.symm;clear hc;cases c
 case false=>
  clear rW;go_wp2_with fail;refine bodyPost_ret (results_tmp2 rfl _ _ _) rfl ?_;exact zl.no (k:=5) (m8.Z _ Uy.Z) rfl (T5.Z.YK H6.Z)
 obtain⟨m,og,hm,VQ,Zq⟩:=rW rfl;have Ua:=ah Zq;have Uj:=ah hm;clear rW hm VQ Zq HZ;go_wp2_with fail;refine(xZ HX.Z HM.Z p b off cap _ r ci og m Qa pX.Z.1 HRP.Z Ua.Z.s Ua.Z.o).mono ?_;rintro e UE hC;rcases hC with⟨h7,rfl,hg⟩|⟨Q,pt,rfl,hP,h7⟩
 ·have Ux:=ah (Uy.Z.trans hg)
  have HF:=ah (T5.Z.YJ H6.Z Uj.Z h7);clear Ua hg h7;go_wp2_with fail;refine bodyPost_ret (results_tmp2 rfl _ _ _) rfl ?_;exact zl.no (k:=6) (m8.Z _ Ux.Z) rfl HF.Z
 have Ux:=ah (Uy.Z.trans h7.gr);have XR:=ah h7.knq;have HQ:=ah (hP.qok HX.Z);have Uh:Hd (∀c,Im.bN Q c<=256):=BE λy hy=>by have:=(hP.mem.1 hy).2.1;have:=eX HX.Z.may;exact Nat.le_trans (hP.mem.1 hy).2.1 this
 have T7:Hd (Im.Md (Im.of L n) (Im.bN Q)):=T5.Z.YD H6.Z Uj.Z hP.run;clear Ua Uy hP h7 T5 H6 Uj;go_wp2_with fail;refine(xY HX.Z p b off cap _ r ci _ pt Q HQ.Z.len Uh.Z UE XR.Z).mono ?_;rintro e MB ⟨rfl,hb⟩;have XQ:=ah (XR.Z.below hb);have Yv:Hd (dV (JP p) w9 MB):=Ux.Z.trans (dV.b9 hb);clear XR Ux hb Uh;obtain⟨c,hc⟩:=aa (aK ((Im.of L n).uL (Im.bN Q)) (Im.of L n).g);rw[<-hc];have H8:=ah hc.symm;clear hc;cases c
 case false=>
  go_wp2_with fail;refine bodyPost_ret (results_tmp2 rfl _ _ _) rfl ?_;exact zl.no (k:=7) (m8.Z _ Yv.Z) rfl (T7.Z.YI H8.Z)
 go_wp2_with fail;refine(xX HX.Z HM.Z p b off cap _ r ci _ pt Q HQ.Z MB XQ.Z).mono ?_;rintro e P9 ⟨rfl,hb⟩;have XP:=ah (XQ.Z.below hb);have Yu:Hd (dV (JP p) w9 P9):=Yv.Z.trans (dV.b9 hb);clear XQ Yv hb;obtain⟨D,hD⟩:=aa ((Im.of L n).mR);rw[<-hD];have H9:=ah hD.symm;clear hD;cases D
 case none=>
  go_wp2_with fail;refine bodyPost_ret (results_tmp2 rfl _ _ _) rfl ?_;exact zl.no (k:=8) (m8.Z _ Yu.Z) rfl (T7.Z.YH H8.Z H9.Z)
 rename_i u;have HU:=ah (Im.uok HM.Z H9.Z);have T9:=ah (T7.Z.YC H8.Z H9.Z);clear T7 H8 H9;go_wp2_with fail;refine(vB HX.Z HM.Z p b off cap _ r ci _ pt Q HQ.Z u HU.Z xd.Z P9 XP.Z).mono ?_;rintro e IW ⟨rfl,hb⟩;have XO:=ah (XP.Z.below hb);have Yt:Hd (dV (JP p) w9 IW):=Yu.Z.trans (dV.b9 hb);clear XP Yu hb;obtain⟨c,hc⟩:=aa (aK (λt=>(Im.of L n).gW u (t+1)) (Im.of L n).ni);rw[<-hc];have Ld:=ah hc.symm;clear hc;cases c
 case false=>
  go_wp2_with fail;refine bodyPost_ret (results_tmp2 rfl _ _ _) rfl ?_;exact zl.no (k:=9) (m8.Z _ Yt.Z) rfl (T9.Z.Qu Ld.Z)
 go_wp2_with fail;refine(vA HX.Z HM.Z p b off cap _ r ci _ pt Q HQ.Z u HU.Z xd.Z IW XO.Z).mono ?_;rintro e Pc ⟨rfl,hb⟩;have XN:=ah (XO.Z.below hb);have Tm:Hd (dV (JP p) w9 Pc):=Yt.Z.trans (dV.b9 hb);clear XO Yt hb;obtain⟨c,hc⟩:=aa (aK ((Im.of L n).jt ((Im.of L n).reach u)) ((Im.of L n).ni+1));rw[<-hc];have O3:=ah hc.symm;clear hc;cases c
 case false=>
  go_wp2_with fail;refine bodyPost_ret (results_tmp2 rfl _ _ _) rfl ?_;exact zl.no (k:=10) (m8.Z _ Tm.Z) rfl (T9.Z.Qt Ld.Z O3.Z)
 have D17:Hd (aM Pc db 0 3 (Im.of L n).g (df (rB (L 1)) (rI (L 1)) (rD (L 1)))):=D9.Z.gws Tm.Z pX.Z.2.2.2 pX.Z.2.1;go_wp2_with fail;refine(vz HX.Z p b off cap db 0 dc r ci _ pt Q ((aY _ _).1 H3.Z) Pc (Nat.lt_of_lt_of_le pX.Z.2.2.2 Tm.Z.size) D17.Z XN.Z).mono ?_;rintro e YA ⟨rfl,hb⟩;have K18:=ah (XN.Z.below hb);have GR9:Hd (dV (JP p) w9 YA):=Tm.Z.trans (dV.b9 hb);clear XN Tm hb D17 D9;obtain⟨c,hc⟩:=aa (aK (Im.of L n).js (Im.of L n).g);rw[<-hc];have H12:=ah hc.symm;clear hc;cases c
 case false=>
  go_wp2_with fail;refine bodyPost_ret (results_tmp2 rfl _ _ _) rfl ?_;exact zl.no (k:=11) (m8.Z _ GR9.Z) rfl (T9.Z.Qs Ld.Z O3.Z H12.Z)
 have HF:Hd ((Im.of L n).aV=(0,Im.bN Q)):=T9.Z.yes Ld.Z O3.Z H12.Z;go_wp2_with fail;refine bodyPost_ret (results_tmp2 rfl _ _ _) rfl ?_;exact⟨m8.Z _ GR9.Z,p,by rw[HF.Z];rfl,λ_=>⟨b,off,cap,_,r,ci,_,pt,Q,K18.Z,by rw[HF.Z],HQ.Z.len,HX.Z⟩⟩
end Go.Proofs.YtphamecphmbipaaGreatDoor
