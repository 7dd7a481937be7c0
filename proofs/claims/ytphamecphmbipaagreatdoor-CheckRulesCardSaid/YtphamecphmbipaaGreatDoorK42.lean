/- Texts of this claim, merged. -/
import Derived.Test.YtphamecphmbipaaGreatDoorK41
set_option linter.unusedVariables false
namespace Go.Proofs.YtphamecphmbipaaGreatDoor
open Go.RowKit
open Lib (hid)
variable {w:World} {b off p:Nat} {m:Nat->Bool} {x:Im}
theorem aF.gws{w':World}{m n:Nat}{f:Nat->List Value}(h:aF w b off m n f)(k:dJ (JP p) w w')(hb:b<w.heap.size)(hp:b≠p):aF w' b off m n f:=
 λi hi j v hv=>(World.cell?_of_block (w:=w) (a:=⟨b,off+i*m+j,none⟩) (k.block b hb hp)).trans (h i hi j v hv)
theorem Bp{N:Nat}:∀{Q:List Im.Pt},(∀y∈Q,y.i<=N)->∀c,Im.bF Q c<=N
 |[],_,c=>Nat.zero_le _
 |y::Q,h,c=>by
  rw[Im.bF];split
  ·exact h y (List.mem_cons_self ..)
  ·exact Bp (λz hz=>h z (List.mem_cons_of_mem _ hz)) c
theorem Im.iz.le{Q:List Im.Pt}(h:Im.iz x m x.ni Q)(hx:x.Ok):Q.length<=2048:=by
 have h1:=hx.iu;have h2:=eF (λb=>Im.bF Q b !=0) x.n;have h3:=h.K2;omega
theorem Im.iz.qok{Q:List Im.Pt}(h:Im.iz x m x.ni Q)(hx:x.Ok):RR x Q:=
 ⟨h.le hx,λt h1 h2 hk i hi=>h.blk h1 h2 (by rw[hk];decide) hi,λt h1 h2 hk i hi h0=>Im.GG (Im.xj (m:=m) (o:=Im.bF Q) h.run h1 h2 (by rw[hk];decide)) hi h0⟩
theorem wG.knq{cap:Nat}{ds:Value}{r ci g:Nat}{pt:Value}{Q:List Im.Pt}{W:World}(h:wG w p b off cap x ds r ci g m pt Q W):wT p b off cap x ds r ci (.slice (some ⟨g,0,none⟩) (x.ni+1) (x.ni+1)) pt Q W:=by
 refine⟨h.s,?_⟩;have hq:=h.q;obtain⟨a,c,e⟩:=ah.form hq;rw[e] at hq;exact⟨a,c,e,ah.row hq (pS Q)⟩
set_option maxRecDepth 100000 in
set_option maxHeartbeats 16000000 in
theorem jK(v:Value)(n:Nat)(L:Nat->Nat->Int)(hL:∀i,bm (L i))(fY:n<=4294967296)(w:World)(hv:wU w v n L):
  Calls Tryz.prog 73 #[v] w λe w'=>yX w n L e w':=by
 obtain⟨a,cap,rfl,hi⟩:=hv;have pn:∀t:TypeId,∀cs,Hid (Below w.heap.size w (w.alloc (.cells cs t))):=λt cs=>(Below.refl _ _).alloc (Nat.le_refl _) _
 by_cases hn0:n=0
 ·have q0:((n:Int)==0)=true:=by simp[hn0]
  have HF:Hid ((Im.of L n).aN=(0+1,λ_=>0)):=Im.rT (by unfold Im.sE;rw[decide_eq_false (by show¬0<n;omega)];rfl);clear hn0 hi;go_enter Tryz.func73,Tryz.ntmps73;go_wp2_with fail;refine bodyPost_ret (results_tmp2 rfl _ _ _) rfl ?_;exact yX.no (pn _ _).out rfl HF.out
 have q0:((n:Int)==0)=false:=by simp;omega
 have tW:(0:Int)<(n:Int):=by omega
 obtain⟨b,off,rfl,rL,hseg⟩:=hi (by omega);obtain⟨W0,hW0⟩:∃W0,W0=w.alloc (.cells (Gz (.slice (some ⟨b,off,none⟩) n cap) 0 0 0 0 0 false false) 157):=⟨_,rfl⟩;have hb0:Below w.heap.size w W0:=by rw[hW0];exact(pn _ _).out
 have FV:=aF.below hseg hb0 rL;have hrg:(w.alloc (.cells (Gz (.slice (some ⟨b,off,none⟩) n cap) 0 0 0 0 0 false false) 157)).rangeAt b off (dW L 0):=by rw[<-hW0];have:=aF.range FV 0 (by omega);rwa[Nat.zero_mul,Nat.add_zero] at this
 have hA0:At W0 w.heap.size 157 (Gz (.slice (some ⟨b,off,none⟩) n cap) 0 0 0 0 0 false false):=by rw[hW0];exact At.new _ _ _
 obtain⟨p,hp⟩:∃p,p=w.heap.size:=⟨_,rfl⟩;rw[<-hp] at hA0;have HBW:=hid rL;have HL:=hid hL;have HN9:=hid fY;have HP:Hid (p=w.heap.size/\p<W0.heap.size):=⟨hp,hA0.lt⟩;have HA:=hid hA0;have B9:=hid FV;have HB:=hid hb0;have Hy:=hid hW0;have HNP:Hid (0<n):=by show 0<n;omega
 have hzs:=fe;clear hi hseg hb0 FV hA0 fY rL hL hn0 hW0 hp;go_enter Tryz.func73,Tryz.ntmps73;go_wp2_with (first|(refine aB rfl 32 (.tmp 16) rfl b off (dW L 0) _ rfl hrg Tryz.underlying32 rfl (by rw[aZ];exact au) ?_))
 clear hrg;have Px:Hid ((Im.of L n).sE=(bM (L 0)==0&&((n:Int)==oV (hd (L 0) 4) (hd (L 0) 5) (hd (L 0) 6) (hd (L 0) 7)))):=by
  show(decide (0<n)&&_)=_;rw[decide_eq_true HNP.out,Bool.true_and];rfl
 obtain⟨VG,VS,VI,VJ,VO,hV,Q8⟩:∃G S I J O,ka (L 0)=gu G S I J O/\(bM (L 0)=0->G=hd (L 0) 4/\S=hd (L 0) 5/\I=hd (L 0) 6/\J=hd (L 0) 7/\O=b9 (L 0) 16):=by
  unfold ka;split
  ·exact⟨_,_,_,_,_,rfl,λ_=>⟨rfl,rfl,rfl,rfl,rfl⟩⟩
  ·rename_i h;exact⟨_,_,_,_,_,rfl,λh2=>absurd h2 h⟩
 have rM:=zW (L 0) (HL.out 0) W0;rw[hV] at rM;have e0:w.alloc (.cells (Gz (.slice (some ⟨b,off,none⟩) n cap) 0 0 0 0 0 false false) 157)=W0:=Hy.out.symm;refine Calls.mono (show Calls _ _ _ (w.alloc (.cells (Gz (.slice (some ⟨b,off,none⟩) n cap) 0 0 0 0 0 false false) 157)) _ by rw[e0];exact rM) ?_;rintro e w2 ⟨rfl,hb2⟩;rw[<-HP.out.1];have TK:=hid Q8;obtain⟨E,hE⟩:∃E,E=bM (L 0):=⟨_,rfl⟩;have HE:=hid hE;rw[<-hE];clear hV Q8 rM hE e0;have hr:=At.new w2 47 (aj 0 0 0 0 0);have JE:Below W0.heap.size W0 (w2.alloc (.cells (aj 0 0 0 0 0) 47)):=hb2.trans ((Below.refl _ _).alloc hb2.size _);have gI:=hb2.size;go_wp2_with (first|(refine ax rfl 47 (.tmp 5) (.tmp 19) rfl w2.heap.size (aj VG VS VI VJ VO) (aj 0 0 0 0 0) rfl rfl hr aR rfl (eL _ _ _ _ _) ?_))
 intro w3 NF nU;obtain⟨G,hG⟩:∃G,G=w2.heap.size:=⟨_,rfl⟩;rw[<-hG] at NF nU gI ⊢;have hb3:Below W0.heap.size W0 w3:=JE.trans ((nU.below (Nat.le_refl _)).mono gI);have ST:Hid (B7 w p b off n L (Gz (.slice (some ⟨b,off,none⟩) n cap) 0 0 0 0 0 false false) G (aj VG VS VI VJ VO) w3):=
  ⟨HA.out.below hb3 HA.out.lt,aF.below B9.out hb3 (Nat.lt_of_lt_of_le HBW.out HB.out.size),NF,HB.out.trans (hb3.mono HB.out.size),Nat.le_of_eq HP.out.1.symm,Nat.lt_of_lt_of_le HP.out.2 gI,HBW.out⟩
 clear hr JE hb2 NF nU hb3 hG gI HA B9 HB Hy hzs HP pn
 by_cases lZ:E=0
 rotate_left
 ·have q1:(E !=0)=true:=by simp[lZ]
  have HF:Hid ((Im.of L n).aN=(0+1,λ_=>0)):=Im.rT (by rw[Px.out,<-HE.out];simp[lZ]);clear lZ;go_wp2_with fail;refine bodyPost_ret (results_tmp2 rfl _ _ _) rfl ?_;exact yX.no ST.out.bel rfl HF.out
 obtain⟨rfl,rfl,rfl,rfl,rfl⟩:=TK.out (HE.out.symm.trans lZ);subst lZ;have tq:Hid ((Im.of L n).sE=((n:Int)==oV (hd (L 0) 4) (hd (L 0) 5) (hd (L 0) 6) (hd (L 0) 7))):=by show _=_;rw[Px.out,<-HE.out];rfl
 obtain⟨g,hg⟩:∃g,g=hd (L 0) 4:=⟨_,rfl⟩;obtain⟨s,hs⟩:∃g,g=hd (L 0) 5:=⟨_,rfl⟩;obtain⟨i,hi⟩:∃g,g=hd (L 0) 6:=⟨_,rfl⟩;obtain⟨j,hj⟩:∃g,g=hd (L 0) 7:=⟨_,rfl⟩;obtain⟨o,ho⟩:∃g,g=b9 (L 0) 16:=⟨_,rfl⟩;rw[<-hg,<-hs,<-hi,<-hj] at tq;rw[<-hg,<-hs,<-hi,<-hj,<-ho] at ST;have zd:=hid (And.intro hg (And.intro hs (And.intro hi (And.intro hj ho))));clear hg hs hi hj ho;obtain⟨N,hN⟩:∃N,N=oV g s i j:=⟨_,rfl⟩;have HN:=hid hN;have mT:Hid (∀W,Calls Tryz.prog 113 #[bN g s i j] W λe w'=>e= .returned (.int .i64 N)/\Below W.heap.size W w'):=λW=>by rw[hN];exact xQ g s i j W
 rw[<-hN] at tq;have Qu:w3.rangeAt G 0 (aa g s i j).toList:=At.lH ST.out.s;clear hN TK;go_wp2_with (first|(refine aB rfl 23 (.tmp 26) rfl G 0 (aa g s i j).toList _ rfl Qu Tryz.underlying23 rfl (by kernel_rfl) ?_))
 clear Qu;refine(mT.out _).mono ?_;rintro e w4 ⟨rfl,hb4⟩;have eI:=hid (ST.out.below hb4);clear ST hb4 mT
 by_cases Ng:(n:Int)=N
 rotate_left
 ·have q1:((n:Int) !=N)=true:=by simp[Ng]
  have HF:Hid ((Im.of L n).aN=(0+1,λ_=>0)):=Im.rT (by rw[tq.out];simp[Ng]);clear Ng;go_wp2_with fail;refine bodyPost_ret (results_tmp2 rfl _ _ _) rfl ?_;exact yX.no eI.out.bel rfl HF.out
 have q1:((n:Int) !=N)=false:=by simp[Ng]
 have wV:Hid ((Im.of L n).sE=true):=by show _=_;rw[tq.out];simp[Ng]
 have TH:=hid Ng;clear Ng;go_wp2_with fail;apply Vp.br 7 (λl i v W=>V7k p i v) (λl W=>B7 w p b off n L (Gz (.slice (some ⟨b,off,none⟩) n cap) g s i j o (l 7) (l 10)) G (aj g s i j o) W/\(l 10=true->l 7=true)) (λW=>At W G 47 (aj g s i j o))
 case hm=>kernel_rfl
 case hd=>kernel_rfl
 case hpre=>kernel_rfl
 case hB=>kernel_rfl
 case hVl=>exactλl l' he i v W h=>h
 case hS=>exactλl l' W he h=>by rw[<-he 7 (by decide) (by decide),<-he 10 (by decide) (by decide)];exact h
 case hSC=>exactλl W h=>h.1.s
 case hVb=>exactλl i v W W' h hb=>h
 case hSb=>exactλl W W' h hb _=>⟨h.1.below hb,h.2⟩
 case h0=>exact⟨eI.out.below ⟨rfl,rfl,rfl,Nat.le_refl _,λ_ _=>rfl⟩,λe=>by cases e⟩
 case hwalk=>
  simp only[List.take];intro R hR hne
  repeat go_big_quiet_step (fail)
  refine aH rfl 47 (.tmp 5) rfl G 0 rfl (aj g s i j o).toList _ (λW h=>h.1.range) Tryz.underlying47 rfl (by kernel_rfl) ?_;refine ae ?_
  repeat go_big_quiet_step (fail)
  refine aH rfl 23 (.tmp 35) rfl G 0 rfl (aa g s i j).toList _ (λW h=>At.lH h.1) Tryz.underlying23 rfl (by kernel_rfl) ?_;refine ae ?_
  repeat go_big_quiet_step (fail)
  exact wpQuiet_nil rfl
 case hst=>
  simp only[List.drop];refine⟨?_,?_,?_,?_,trivial⟩
  ·intro l a W hl hu h
   have e1:a.tmps.getD 38 undef= .pointer (some ⟨p,1,none⟩):=(h.vals 6 38 (aq hu 6) rfl).pre (by decide) rfl;have e2:a.tmps.getD 34 undef= .agg (aj g s i j o):=(h.vals 2 34 (aq hu 2) rfl).pre (by decide) rfl;have hs:=h.st.1;have F3:l 10=false:=by
    cases h10:l 10 with
    |false=>rfl
    |true=>have:=h.st.2 h10;rw[hl] at this;cases this
   rw[hl,F3] at hs;refine Vm.step h (by kernel_rfl) rfl rfl rfl hl (Vl.gw 47 (.tmp 38) (.tmp 34) rfl p 1 (aj g s i j o) e1 e2 (hs.a.there 1 5 (show(1:Nat)+5<=14 by decide)) aR (eL _ _ _ _ _) ?_);refine⟨_,rfl,λi d _ hd hv'=>hv'.up λhi hv'=>hv',Vp.W.mk (by decide) trivial,?_,λ_=>rfl⟩;show B7 w p b off n L (Gz _ g s i j o (true||_) (l 10)) G _ _;rw[F3];exact hs.put 1 _ rfl
  ·intro l a W hl hu h
   have e1:a.tmps.getD 33 undef= .pointer (some ⟨p,0,none⟩):=(h.vals 1 33 (aq hu 1) rfl).pre (by decide) rfl;exact Vm.bB h (by kernel_rfl) rfl rfl rfl hl _ (Vl.mq (.tmp 33) rfl ⟨p,0,none⟩ e1) (λ_ _ hv=>hv.up λ_ hv=>hv) (Vp.W.mk (by decide) rfl) (λs=>s)
  ·intro l a W hl hu h
   have e1:a.tmps.getD 39 undef= .pointer (some ⟨p,0,none⟩):=(h.vals 8 39 (aq hu 8) rfl).post (by decide);exact Vm.bB h (by kernel_rfl) rfl rfl rfl hl _ (Vl.jM 157 (.tmp 39) 2 rfl e1 (by kernel_rfl)) (λ_ _ hv=>hv.up λ_ hv=>hv) (Vp.W.mk (by decide) rfl) (λs=>s)
  ·intro l a W hl hu h
   have e1:a.tmps.getD 40 undef= .pointer (some ⟨p,6,none⟩):=(h.vals 9 40 (aq hu 9) rfl).post (by decide);have e2:a.tmps.getD 36 undef= .agg (aa g s i j):=(h.vals 4 36 (aq hu 4) rfl).pre (by decide) rfl;have h7:l 7=true:=aq hu 7 (by kernel_rfl);have hs:=h.st.1;rw[h7,hl] at hs;refine Vm.step h (by kernel_rfl) rfl rfl rfl hl (Vl.gw 23 (.tmp 40) (.tmp 36) rfl p 6 (aa g s i j) e1 e2 (hs.a.there 6 4 (show(6:Nat)+4<=14 by decide)) (by kernel_rfl) (by kernel_rfl) ?_);refine⟨_,rfl,λi d _ hd hv'=>hv'.up λhi hv'=>hv',Vp.W.mk (by decide) trivial,?_,λ_=>h7⟩;exact hs.put 6 _ rfl
 intro a' w8 h hall;have bO:=hall [39,40] (by kernel_rfl);clear hall;have e39:a'.tmps.getD 39 undef= .pointer (some ⟨p,0,none⟩):=(h.vals 8 39 rfl rfl).post (by decide);have e40:a'.tmps.getD 40 undef= .pointer (some ⟨p,6,none⟩):=(h.vals 9 40 rfl rfl).post (by decide);have tj:Hid (B7 w p b off n L (Gz (.slice (some ⟨b,off,none⟩) n cap) g s i j o true true) G (aj g s i j o) w8):=h.st.1;rw[List.foldl_cons,List.foldl_cons,List.foldl_nil,e39,e40] at bO;simp only[Act.put,List.setIfInBounds_toArray,List.set_cons_succ,List.set_cons_zero] at bO;subst bO;clear h e39 e40 eI;go_wp2_with fail;have eE:aM g s i j=true:=by
  obtain⟨h1,h2,h3,h4,_⟩:=zd.out;rw[h1,h2,h3,h4];exact oq HE.out.symm
 have Jr:1<n:=by
  have h1:=TH.out;rw[HN.out,oV,if_pos eE] at h1;unfold aM at eE;simp only[decide_eq_true_eq] at eE;have h2:0<=g*s:=Int.mul_nonneg (by omega) (by omega);omega
 have Vn:(1:Int)<(n:Int):=by omega
 have A5:=hid eE;clear eE;apply Vp.br 8 (λl k v W=>Kq g s i j (L 1) (G+1) p k v W) (λl W=>Pd w p b off n L (.slice (some ⟨b,off,none⟩) n cap) g s i j o G (l 14) W) (λW=>W.rangeAt p 6 (aa g s i j).toList/\aF W b off 256 n (dW L))
 case hm=>kernel_rfl
 case hd=>kernel_rfl
 case hpre=>kernel_rfl
 case hB=>kernel_rfl
 case hVl=>exactλl l' he i v W h=>h
 case hS=>exactλl l' W he h=>by rw[<-he 14 (by decide) (by decide)];exact h
 case hSC=>exactλl W h=>h.c
 case hVb=>exactλl i v W W' h hb=>h.below hb
 case hSb=>exactλl W W' h hb _=>h.below hb
 case h0=>exact⟨λ_=>tj.out.below ⟨rfl,rfl,rfl,Nat.le_refl _,λ_ _=>rfl⟩,λe=>by cases e⟩
 case hwalk=>
  simp only[List.take];intro R hR hne
  repeat go_big_quiet_step (fail)
  refine aH rfl 23 (.tmp 45) rfl p 6 rfl (aa g s i j).toList _ (λW h=>h.1.1) Tryz.underlying23 rfl (by kernel_rfl) ?_;refine ae ?_
  repeat go_big_quiet_step (fail)
  refine aH rfl 32 (.tmp 48) rfl b (off+1*256) rfl (dW L 1) _ (λW h=>aF.range h.1.2 1 Jr) Tryz.underlying32 rfl (by rw[aZ];exact au) ?_;refine ae ?_;exact wpQuiet_nil rfl
 case hst=>
  simp only[List.drop];refine⟨?_,?_,?_,?_,?_,?_,?_,?_,trivial⟩
  ·intro l a W hl hu h
   have e1:a.tmps.getD 46 undef=bN g s i j:=(h.vals 4 46 (aq hu 4) rfl).pre (by decide) rfl;have e2:a.tmps.getD 49 undef=aL (L 1):=(h.vals 7 49 (aq hu 7) rfl).pre (by decide) rfl;have hst:G+1<=W.heap.size:=by
    cases ZX:l 14 with
    |false=>exact(h.st.no ZX).s.lt
    |true=>obtain⟨v,_,this⟩:=h.st.ye ZX;exact this.s.lt
   refine Vm.step h (by kernel_rfl) rfl rfl rfl hl (Vl.iQ 114 #[bN g s i j,aL (L 1)] (Vl.nr 114 (.tmp 46) (.tmp 49) _ _ _ rfl e1 e2 (by kernel_rfl)) ?_);refine(pr g s i j (L 1) (HL.out 1) W).mono ?_;rintro e W' ⟨v,E,rfl,hp,hb⟩;obtain⟨hv,rfl⟩:=E8 hp hst;exact⟨_,rfl,_,rfl,λi d _ _ hv=>hv.up λ_ hv=>hv.below hb,Vp.W.mk (by decide) ⟨v,rfl,hv⟩,h.st.below hb⟩
  ·intro l a W hl hu h
   obtain⟨v,e1,hv⟩:=(h.vals 8 50 (aq hu 8) rfl).post (by decide);exact Vm.bB h (by kernel_rfl) rfl rfl rfl hl _ (Vl.ea (.tmp 50) rfl e1) (λ_ _ hv=>hv.up λ_ hv=>hv) (Vp.W.mk (by decide) ⟨v,rfl,hv⟩) (λs=>s)
  ·intro l a W hl hu h
   obtain⟨v,e1,hv⟩:=(h.vals 9 41 (aq hu 9) rfl).post (by decide);exact Vm.bB h (by kernel_rfl) rfl rfl rfl hl _ (Vl.fu (.tmp 41) 0 _ rfl e1 rfl) (λ_ _ hv=>hv.up λ_ hv=>hv) (Vp.W.mk (by decide) hv) (λs=>s)
  ·intro l a W hl hu h
   obtain⟨v,e1,hv⟩:=(h.vals 9 41 (aq hu 9) rfl).post (by decide);exact Vm.bB h (by kernel_rfl) rfl rfl rfl hl _ (Vl.fu (.tmp 41) 1 _ rfl e1 rfl) (λ_ _ hv=>hv.up λ_ hv=>hv) (Vp.W.mk (by decide) rfl) (λs=>s)
  ·intro l a W hl hu h
   have e1:a.tmps.getD 42 undef= .pointer (some ⟨p,0,none⟩):=(h.vals 0 42 (aq hu 0) rfl).pre (by decide) rfl;exact Vm.bB h (by kernel_rfl) rfl rfl rfl hl _ (Vl.mq (.tmp 42) rfl ⟨p,0,none⟩ e1) (λ_ _ hv=>hv.up λ_ hv=>hv) (Vp.W.mk (by decide) rfl) (λs=>s)
  ·intro l a W hl hu h
   have e1:a.tmps.getD 53 undef= .pointer (some ⟨p,0,none⟩):=(h.vals 12 53 (aq hu 12) rfl).post (by decide);exact Vm.bB h (by kernel_rfl) rfl rfl rfl hl _ (Vl.jM 157 (.tmp 53) 3 rfl e1 (by kernel_rfl)) (λ_ _ hv=>hv.up λ_ hv=>hv) (Vp.W.mk (by decide) rfl) (λs=>s)
  ·intro l a W hl hu h
   have e1:a.tmps.getD 54 undef= .pointer (some ⟨p,10,none⟩):=(h.vals 13 54 (aq hu 13) rfl).post (by decide);have hv:tp g s i j (L 1) (G+1) (a.tmps.getD 51 undef) W:=(h.vals 10 51 (aq hu 10) rfl).post (by decide);have hs:=h.st.no hl;have YB:p<G+1:=by have:=hs.lo.2.1;omega
   have ho:an p W (W.setCell ⟨p,10,none⟩ (a.tmps.getD 51 undef)):=an.setCell W ⟨p,10,none⟩ _;refine Vm.step h (by kernel_rfl) rfl rfl rfl hl (Vl.q9 51 (.tmp 54) (.tmp 51) rfl p 10 (a.tmps.getD 51 undef) (.slice none 0 0) e1 rfl (hs.a.cell (i:=10) rfl) (ag hs.a 10) yi hv.form ?_);refine⟨_,rfl,λi d _ hd hv'=>hv'.up λhi hv'=>Kq.map hv' λv hv=>hv.only ho YB,Vp.W.mk (by decide) trivial,⟨(λe=>by have e:true=false:=e;cases e),λ_=>⟨_,hv.only ho YB,hs.put 10 [_] rfl⟩⟩⟩
  ·intro l a W hl hu h
   have e1:a.tmps.getD 52 undef= .int .i64 (jL g s i j (L 1)):=(h.vals 11 52 (aq hu 11) rfl).post (by decide);exact Vm.bB h (by kernel_rfl) rfl rfl rfl hl _ (Vl.qS (.tmp 52) rfl e1) (λ_ _ hv=>hv.up λ_ hv=>hv) (Vp.W.mk (by decide) rfl) (λs=>s)
 intro a' w9 h hall;have bO:=hall [50,41,51,52,53,54,6] (by kernel_rfl);clear hall;obtain⟨v11,e50,_⟩:=(h.vals 8 50 rfl rfl).post (by decide);obtain⟨v12,O8,_⟩:=(h.vals 9 41 rfl rfl).post (by decide);obtain⟨v13,X5⟩:∃v,a'.tmps.getD 51 undef=v:=⟨_,rfl⟩;have AZ:a'.tmps.getD 52 undef= .int .i64 (jL g s i j (L 1)):=(h.vals 11 52 rfl rfl).post (by decide);have zq:a'.tmps.getD 53 undef= .pointer (some ⟨p,0,none⟩):=(h.vals 12 53 rfl rfl).post (by decide);have tA:a'.tmps.getD 54 undef= .pointer (some ⟨p,10,none⟩):=(h.vals 13 54 rfl rfl).post (by decide);have e6:a'.tmps.getD 6 undef= .int .i64 (jL g s i j (L 1)):=(h.vals 15 6 rfl rfl).post (by decide);obtain⟨v,hv,hs⟩:=h.st.ye rfl;have HV:=hid hv;have nW:=hid hs;rw[List.foldl_cons,List.foldl_cons,List.foldl_cons,List.foldl_cons,List.foldl_cons,List.foldl_cons,List.foldl_cons,List.foldl_nil,e50,O8,X5,AZ,zq,tA,e6] at bO;simp only[Act.put,List.setIfInBounds_toArray,List.set_cons_succ,List.set_cons_zero] at bO;subst bO;clear h e50 O8 X5 AZ zq tA e6 hv hs tj;obtain⟨E,hE⟩:∃E,E=jL g s i j (L 1):=⟨_,rfl⟩;have Pw:Hid ((E==0)=il g s i j (L 1)):=by show _=_;rw[hE,tJ]
 rw[<-hE];clear hE;have eE:=A5.out;unfold aM at eE;simp only[decide_eq_true_eq] at eE;obtain⟨h1,h2,h3,h4,h5⟩:=zd.out;have o0:0<=o:=by rw[h5];exact(dA (HL.out 0) 16).1
 have eg:(Im.of L n).g=g.toNat:=by rw[h1];rfl
 have e1:(((Im.of L n).g:Nat):Int)=g:=by rw[eg];exact Int.toNat_of_nonneg (by omega)
 have e2:(((Im.of L n).s:Nat):Int)=s:=by rw[h2];exact Int.toNat_of_nonneg (by rw[<-h2];omega)
 have e3:(((Im.of L n).i:Nat):Int)=i:=by rw[h3];exact Int.toNat_of_nonneg (by rw[<-h3];omega)
 have e4:(((Im.of L n).j:Nat):Int)=j:=by rw[h4];exact Int.toNat_of_nonneg (by rw[<-h4];omega)
 have e5:(((Im.of L n).o:Nat):Int)=o:=by rw[h5];exact Int.toNat_of_nonneg (by rw[<-h5];omega)
 have DE:(Im.of L n).BV=il g s i j (L 1):=by
  show il (((Im.of L n).g:Nat):Int) (((Im.of L n).s:Nat):Int) (((Im.of L n).i:Nat):Int) (((Im.of L n).j:Nat):Int) (L 1)=_;rw[e1,e2,e3,e4]
 have D4:Hid ((Im.of L n).BV=(E==0)):=DE.trans Pw.out.symm
 by_cases lZ:E=0
 rotate_left
 ·have q2:(E !=0)=true:=by simp[lZ]
  have HF:Hid ((Im.of L n).aN=(1+1,λ_=>0)):=Im.Gv wV.out (by rw[D4.out];simp[lZ]);clear lZ e1 e2 e3 e4 e5 eg DE h1 h2 h3 h4 h5 eE o0;go_wp2_with fail;refine bodyPost_ret (results_tmp2 rfl _ _ _) rfl ?_;exact yX.no nW.out.bel rfl HF.out
 have q2:(E !=0)=false:=by simp[lZ]
 have H2:Hid ((Im.of L n).BV=true):=by show _=_;rw[D4.out];simp[lZ]
 have Nj:=nW.out.lo;have JK:∃db dc,G+1<=db/\db<w9.heap.size/\qj p b off cap (Im.of L n) (.slice (some ⟨db,0,none⟩) (Im.of L n).g dc) (.slice none 0 0) (.slice none 0 0) (.slice none 0 0) w9/\aF w9 db 0 3 (Im.of L n).g (df (rB (L 1)) (rI (L 1)) (rD (L 1))):=by
  rcases HV.out with⟨_,hm⟩|⟨hno,_⟩
  ·obtain⟨db,dc,rfl,hlo,hlt,_⟩:=ah.nM hm (by omega)
   refine⟨db,dc,hlo,hlt,⟨?_,nW.out.i,Nat.lt_of_lt_of_le Nj.2.2 nW.out.bel.size⟩,?_⟩
   ·have hA:=nW.out.a
    show At w9 p _ #[.slice (some ⟨b,off,none⟩) n cap,.int .i64 (((Im.of L n).g:Nat):Int),.int .i64 (((Im.of L n).s:Nat):Int),.int .i64 (((Im.of L n).i:Nat):Int),.int .i64 (((Im.of L n).j:Nat):Int),.int .u32 (((Im.of L n).o:Nat):Int),.int .i64 (((Im.of L n).g:Nat):Int),.int .i64 (((Im.of L n).s:Nat):Int),.int .i64 (((Im.of L n).i:Nat):Int),.int .i64 (((Im.of L n).j:Nat):Int),.slice (some ⟨db,0,none⟩) (Im.of L n).g dc,.slice none 0 0,.slice none 0 0,.slice none 0 0];rw[e1,e2,e3,e4,e5,eg];exact hA
   ·rw[eg];exact ah.bI hm (λ_=>rfl)
  ·have:=Pw.out;rw[hno] at this;simp[lZ] at this
 obtain⟨db,dc,pZ,JB,hK,hD⟩:=JK;have HX:=hid (Im.K0 HL.out wV.out);have K9:=hid hK;have D9:=hid hD;have pH:Hid (b≠p/\db≠p/\p<w9.heap.size/\db<w9.heap.size):=⟨by omega,by omega,hK.a.lt,JB⟩;have mT:Hid (∀W',dJ (JP p) w9 W'->Below w.heap.size w W'):=λW' k=>nW.out.bel.trans (k.below nW.out.bel.size (λj hj=>by have hj:j=p:=hj;rw[hj];exact Nj.1))
 clear nW HV e1 e2 e3 e4 e5 eg DE h1 h2 h3 h4 h5 eE o0 lZ D4 Pw Nj pZ JB hK hD zd HN TH HE Px tq A5;go_wp2_with fail;refine(xI HX.out p b off cap _ _ _ _ w9 K9.out).mono ?_;rintro e po ⟨rfl,yu⟩;have Xl:=hid (K9.out.below yu);have GR:Hid (dJ (JP p) w9 po):=dJ.bQ yu;clear K9 yu;obtain⟨c,hc⟩:∃c,c=aD (Im.of L n).qi (Im.of L n).g:=⟨_,rfl⟩;rw[<-hc];have H3:=hid hc.symm;clear hc;cases c
 case false=>
  go_wp2_with fail;refine bodyPost_ret (results_tmp2 rfl _ _ _) rfl ?_;exact yX.no (k:=2) (mT.out _ GR.out) rfl (Im.Gu wV.out H2.out H3.out)
 go_wp2_with fail;refine(xH HX.out p b off cap _ _ _ _ po Xl.out pH.out.1).mono ?_;rintro e Hb ⟨rfl,hg,rE⟩;have T8:=hid (GR.out.trans hg);have HZ:Hid (p<po.heap.size):=Xl.out.a.lt;clear Xl GR hg;obtain⟨c,hc⟩:∃c,c=aD (λt=>(Im.of L n).j1 (t+1)) (Im.of L n).ni:=⟨_,rfl⟩;rw[<-hc] at rE ⊢;have H4:=hid hc.symm;clear hc;cases c
 case false=>
  clear rE;go_wp2_with fail;refine bodyPost_ret (results_tmp2 rfl _ _ _) rfl ?_;exact yX.no (k:=3) (mT.out _ T8.out) rfl (Im.Gt wV.out H2.out H3.out H4.out)
 obtain⟨iv,hk4⟩:=rE rfl;obtain⟨r,ci,hr1,hi4⟩:=hk4.kni;have RW:=hid hi4;have HRP:Hid (r≠p):=by have:=HZ.out;show r≠p;omega
 have HM:=hid (Im.B4 H4.out);have wJ:Hid (1<=(Im.of L n).ni):=by
  have h:=dL HX.out.may;show 1<=(Im.of L n).g*(Im.of L n).i;exact Nat.mul_pos (by omega) (by omega)
 clear rE hk4 hr1 hi4 HZ;have c11:Hb.cell? ⟨p,11,none⟩=some (.slice (some ⟨r,0,none⟩) ((Im.of L n).ni+1) ci):=RW.out.k.a.cell (i:=11) rfl;have cK:Hb.cell? ⟨r,16,none⟩=some (.int .u8 ((Im.of L n).ino 1).kind):=RW.out.ino (t:=1) (by have:=wJ.out;omega) 0 rfl;have n1:(1:Int)<((Im.of L n).ni:Int)+1:=by have:=wJ.out;omega
 obtain⟨kd,fE⟩:∃kd,kd=((Im.of L n).ino 1).kind:=⟨_,rfl⟩;rw[<-fE] at cK
 by_cases hk2:kd=2
 rotate_left
 ·have q3:(kd !=2)=true:=by simp[hk2]
  have HF:Hid ((Im.of L n).aN=(4+1,λ_=>0)):=Im.Gs wV.out H2.out H3.out H4.out (by rw[<-fE];simp[hk2]);clear hk2 fE;go_wp2_with fail;refine bodyPost_ret (results_tmp2 rfl _ _ _) rfl ?_;exact yX.no (mT.out _ T8.out) rfl HF.out
 have q3:(kd !=2)=false:=by simp[hk2]
 have T5:Hid (Im.Ei (Im.of L n)):=⟨wV.out,H2.out,H3.out,H4.out,by rw[<-fE];simp[hk2]⟩;clear hk2 fE;go_wp2_with fail;clear c11 cK n1;refine(xG HX.out p b off cap _ r ci _ _ Hb pH.out.1 HRP.out RW.out).mono ?_;rintro e PH ⟨rfl,hg,rE⟩;have T6:=hid (T8.out.trans hg);have HZ:Hid (p<Hb.heap.size):=RW.out.k.a.lt;clear RW T8 hg;obtain⟨c,hc⟩:∃c,c=(Im.of L n).vC:=⟨_,rfl⟩;rw[<-hc] at rE ⊢;have H6:=hid hc.symm;clear hc;cases c
 case false=>
  clear rE;go_wp2_with fail;refine bodyPost_ret (results_tmp2 rfl _ _ _) rfl ?_;exact yX.no (k:=5) (mT.out _ T6.out) rfl (T5.out.Ye H6.out)
 obtain⟨m,og,hm,Vc,YT⟩:=rE rfl;have TG:=hid YT;have TR:=hid hm;clear rE hm Vc YT HZ;go_wp2_with fail;refine(xF HX.out HM.out p b off cap _ r ci og m PH pH.out.1 HRP.out TG.out.s TG.out.o).mono ?_;rintro e Ud hC;rcases hC with⟨h7,rfl,hg⟩|⟨Q,pt,rfl,hP,h7⟩
 ·have T4:=hid (T6.out.trans hg)
  have HF:=hid (T5.out.Yd H6.out TR.out h7);clear TG hg h7;go_wp2_with fail;refine bodyPost_ret (results_tmp2 rfl _ _ _) rfl ?_;exact yX.no (k:=6) (mT.out _ T4.out) rfl HF.out
 have T4:=hid (T6.out.trans h7.gr);have Xk:=hid h7.knq;have HQ:=hid (hP.qok HX.out);have TP:Hid (∀c,Im.bF Q c<=256):=Bp λy hy=>by have:=(hP.mem.1 hy).2.1;have:=eK HX.out.may;exact Nat.le_trans (hP.mem.1 hy).2.1 this
 have T7:Hid (Im.LI (Im.of L n) (Im.bF Q)):=T5.out.X7 H6.out TR.out hP.run;clear TG T6 hP h7 T5 H6 TR;go_wp2_with fail;refine(xE HX.out p b off cap _ r ci _ pt Q HQ.out.len TP.out Ud Xk.out).mono ?_;rintro e Ma ⟨rfl,hb⟩;have Xj:=hid (Xk.out.below hb);have XX:Hid (dJ (JP p) w9 Ma):=T4.out.trans (dJ.bQ hb);clear Xk T4 hb TP;obtain⟨c,hc⟩:∃c,c=aD ((Im.of L n).uw (Im.bF Q)) (Im.of L n).g:=⟨_,rfl⟩;rw[<-hc];have H8:=hid hc.symm;clear hc;cases c
 case false=>
  go_wp2_with fail;refine bodyPost_ret (results_tmp2 rfl _ _ _) rfl ?_;exact yX.no (k:=7) (mT.out _ XX.out) rfl (T7.out.Yc H8.out)
 go_wp2_with fail;refine(xD HX.out HM.out p b off cap _ r ci _ pt Q HQ.out Ma Xj.out).mono ?_;rintro e PG ⟨rfl,hb⟩;have Xi:=hid (Xj.out.below hb);have XW:Hid (dJ (JP p) w9 PG):=XX.out.trans (dJ.bQ hb);clear Xj XX hb;obtain⟨D,hD⟩:∃D,D=(Im.of L n).mI:=⟨_,rfl⟩;rw[<-hD];have H9:=hid hD.symm;clear hD;cases D
 case none=>
  go_wp2_with fail;refine bodyPost_ret (results_tmp2 rfl _ _ _) rfl ?_;exact yX.no (k:=8) (mT.out _ XW.out) rfl (T7.out.Yb H8.out H9.out)
 rename_i u;have HU:=hid (Im.uok HM.out H9.out);have T9:=hid (T7.out.X6 H8.out H9.out);clear T7 H8 H9;go_wp2_with fail;refine(vk HX.out HM.out p b off cap _ r ci _ pt Q HQ.out u HU.out wJ.out PG Xi.out).mono ?_;rintro e Ir ⟨rfl,hb⟩;have Xh:=hid (Xi.out.below hb);have XV:Hid (dJ (JP p) w9 Ir):=XW.out.trans (dJ.bQ hb);clear Xi XW hb;obtain⟨c,hc⟩:∃c,c=aD (λt=>(Im.of L n).gL u (t+1)) (Im.of L n).ni:=⟨_,rfl⟩;rw[<-hc];have KK:=hid hc.symm;clear hc;cases c
 case false=>
  go_wp2_with fail;refine bodyPost_ret (results_tmp2 rfl _ _ _) rfl ?_;exact yX.no (k:=9) (mT.out _ XV.out) rfl (T9.out.P2 KK.out)
 go_wp2_with fail;refine(vj HX.out HM.out p b off cap _ r ci _ pt Q HQ.out u HU.out wJ.out Ir Xh.out).mono ?_;rintro e OH ⟨rfl,hb⟩;have Xg:=hid (Xh.out.below hb);have SJ:Hid (dJ (JP p) w9 OH):=XV.out.trans (dJ.bQ hb);clear Xh XV hb;obtain⟨c,hc⟩:∃c,c=aD ((Im.of L n).jd ((Im.of L n).reach u)) ((Im.of L n).ni+1):=⟨_,rfl⟩;rw[<-hc];have Oz:=hid hc.symm;clear hc;cases c
 case false=>
  go_wp2_with fail;refine bodyPost_ret (results_tmp2 rfl _ _ _) rfl ?_;exact yX.no (k:=10) (mT.out _ SJ.out) rfl (T9.out.P1 KK.out Oz.out)
 have D17:Hid (aF OH db 0 3 (Im.of L n).g (df (rB (L 1)) (rI (L 1)) (rD (L 1)))):=D9.out.gws SJ.out pH.out.2.2.2 pH.out.2.1;go_wp2_with fail;refine(vi HX.out p b off cap db 0 dc r ci _ pt Q ((aP _ _).1 H3.out) OH (Nat.lt_of_lt_of_le pH.out.2.2.2 SJ.out.size) D17.out Xg.out).mono ?_;rintro e X3 ⟨rfl,hb⟩;have K18:=hid (Xg.out.below hb);have GR9:Hid (dJ (JP p) w9 X3):=SJ.out.trans (dJ.bQ hb);clear Xg SJ hb D17 D9;obtain⟨c,hc⟩:∃c,c=aD (Im.of L n).jc (Im.of L n).g:=⟨_,rfl⟩;rw[<-hc];have H12:=hid hc.symm;clear hc;cases c
 case false=>
  go_wp2_with fail;refine bodyPost_ret (results_tmp2 rfl _ _ _) rfl ?_;exact yX.no (k:=11) (mT.out _ GR9.out) rfl (T9.out.P0 KK.out Oz.out H12.out)
 have HF:Hid ((Im.of L n).aN=(0,Im.bF Q)):=T9.out.yes KK.out Oz.out H12.out;go_wp2_with fail;refine bodyPost_ret (results_tmp2 rfl _ _ _) rfl ?_;exact⟨mT.out _ GR9.out,p,by rw[HF.out];rfl,λ_=>⟨b,off,cap,_,r,ci,_,pt,Q,K18.out,by rw[HF.out],HQ.out.len,HX.out⟩⟩
end Go.Proofs.YtphamecphmbipaaGreatDoor
