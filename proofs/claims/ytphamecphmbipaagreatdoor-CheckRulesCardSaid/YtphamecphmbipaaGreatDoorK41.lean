/- Texts of this claim, merged. -/
import Derived.Test.YtphamecphmbipaaGreatDoorK39
import Derived.Test.YtphamecphmbipaaGreatDoorK40
set_option linter.unusedVariables false
set_option maxRecDepth 100000
set_option maxHeartbeats 16000000

namespace Go.Proofs.YtphamecphmbipaaGreatDoor
open Go.RowKit
open Lib (hid)
variable {w W':World} {z:Nat->Int} {p G k b off B:Nat} {S J g s i j o:Int} {v im:Value} {L:Nat->Nat->Int} {cs sc:Array Value} {y:Bool}
structure RrS(w:World)(z:Nat->Int)(W:World):Prop where
 b:aQ W w.heap.size 32 256 z
 r:At W (w.heap.size+1) 47 (aj 0 0 0 0 0)
 bel:Below w.heap.size w W
theorem RrS.below{W:World}(h:RrS w z W)(hb:Below W.heap.size W W'):RrS w z W':=⟨h.b.below hb h.b.lt,h.r.below hb h.r.lt,h.bel.trans (hb.mono h.bel.size)⟩
theorem RrS.sz{W:World}(h:RrS w z W):w.heap.size+2<=W.heap.size:=h.r.lt
theorem Mo(z:Nat->Int)(c:Bool)(hc:de (λi=>z (20+i)) 232=c)(w W:World)(hB:aQ W w.heap.size 32 256 z):
  Calls Tryz.prog 147 #[.slice (some ⟨w.heap.size,20,none⟩) 232 236] W λe w'=>e= .returned (.bool c)/\W=w':=by
 rw[<-hc];exact oc (some ⟨w.heap.size,20,none⟩) 232 236 (λi=>z (20+i)) W (by omega) (.inr ⟨_,_,rfl,by have:=hB.bI.sub 20 232 (by omega);rwa[Nat.zero_add] at this⟩)
theorem FO:(Tryz.prog.info? 23).map (·.size)=some 4:=by kernel_rfl
theorem RG(G S I J:Int):(aa G S I J).all (·.oneCell')=true:=by kernel_rfl
structure Kx(w:World)(z:Nat->Int)(p:Nat)(G S I J:Int)(W:World):Prop extends RrS w z W where
 v:At W p 23 (aa G S I J)
theorem Kx.below{G I:Int}{W:World}(h:Kx w z p G S I J W)(hb:Below W.heap.size W W'):Kx w z p G S I J W':=⟨h.toRrS.below hb,h.v.below hb h.v.lt⟩
structure GnW(w:World)(z:Nat->Int)(G S I J:Int)(l:Nat->Bool)(i:Nat)(v:Value)(W:World):Prop where
 p:i=9->∃p,v= .pointer (some ⟨p,0,none⟩)/\w.heap.size+2<=p/\At W p 23 (if l 10=true then aa G S I J else aa 0 0 0 0)
theorem RrS.only{W:World}(h:RrS w z W)(ho:an p W W')(hp:w.heap.size+2<=p):RrS w z W':=⟨h.b.only ho (by omega),h.r.only ho (by omega),h.bel.trans (ho.below (by omega))⟩
theorem zW(z:Nat->Int)(hzb:bm z)(w:World):
  Calls Tryz.prog 112 #[aL z] w λe w'=>e= .returned (.tuple #[ka z,.int .i64 (bM z)])/\Below w.heap.size w w':=by
 have adA:=fe;have adB:=xc;have st:RrS w z ((w.alloc (.cells (Ks .u8 256 z).toArray 32)).alloc (.cells (aj 0 0 0 0 0) 47)):=by
  refine⟨(aQ.new w _ _ _).alloc _,?_,((Below.refl _ _).alloc (Nat.le_refl _) _).alloc (by simp) _⟩;have:=At.new (w.alloc (.cells (Ks .u8 256 z).toArray 32)) 47 (aj 0 0 0 0 0);simp only[World.size_alloc] at this;exact this
 have M6:=λW=>bU w.heap.size 0 0 252 0 252 rfl rfl (by omega) (by omega) (by omega) W
 have hsc:=λW=>bU w.heap.size 0 20 252 20 252 rfl rfl (by omega) (by omega) (by omega) W
 have H60:Hid (ik z=false->bM z=60):=λh=>by unfold bM;rw[h];rfl
 have hc:((b9 z 0 !=827216465)=(!false)/\ik z=false)\/((b9 z 0 !=827216465)=false/\(((hd z 2 !=1)=(!false)/\ik z=false)\/((hd z 2 !=1)=false/\(((hd z 3 !=256)=(!false)/\ik z=false)\/((hd z 3 !=256)=false/\(((b9 z 252 !=jZ z 252)=(!false)/\ik z=false)\/((b9 z 252 !=jZ z 252)=false/\∃b,de (λi=>z (20+i)) 232=b/\ik z=b))))))):=by
  unfold ik xr bne;cases (b9 z 0==827216465)<;>cases (hd z 2==1)<;>cases (hd z 3==256)<;>cases (b9 z 252==jZ z 252)<;>simp
 go_enter Tryz.func112,Tryz.ntmps112;have HST:=hid st;clear st;rcases hc with⟨n0,hA⟩|⟨n0,⟨n1,hA⟩|⟨n1,⟨n2,hA⟩|⟨n2,⟨n3,hA⟩|⟨n3,b4,h4,hA⟩⟩⟩⟩
 rotate_right;cases b4
 rotate_left;rotate_left
 all_goals
  have HA:=hid hA;clear hA;have HZ:Hid (∀W,RrS w z W->Calls Tryz.prog 147 #[.slice (some ⟨w.heap.size,20,none⟩) 232 236] W λe w'=>e= .returned (.bool (de (λi=>z (20+i)) 232))/\RrS w z w'):=λW hW=>(Mo z _ rfl w W hW.b).mono λe w' h=>⟨h.1,h.2▸hW⟩
  try rw[h4] at HZ
  go_wp2_with fail;refine ai (RrS w z) (by kernel_rfl) (by kernel_rfl) ⟨HST.out.b,HST.out.r,HST.out.bel.drew⟩ ?_;clear HST;intro hne
  repeat(first|(refine aH rfl 32 (.tmp 1) rfl _ _ rfl (Ks .u8 256 z) _ (λW h=>h.b.range) Tryz.underlying32 rfl (by rw[bD];exact au) ?_;refine ae ?_)|go_big_quiet_step (fail)|(go_big_quiet_want;go_big_quiet_op;refine⟨_,λs=>aG s (λW hW=>by first|(with_reducible show Calls _ 145 #[_,.int .i64 0] _ _);exact(fV z hzb 0 0 rfl (by omega) W).mono λe w' h=>⟨h.1,hW.below h.2⟩|(with_reducible show Calls _ 146 #[_,.int .i64 4] _ _);exact(du z hzb 2 4 rfl (by omega) W).mono λe w' h=>⟨h.1,hW.below h.2⟩|(with_reducible show Calls _ 146 #[_,.int .i64 6] _ _);exact(du z hzb 3 6 rfl (by omega) W).mono λe w' h=>⟨h.1,hW.below h.2⟩|(with_reducible show Calls _ 145 #[_,.int .i64 252] _ _);exact(fV z hzb 252 252 rfl (by omega) W).mono λe w' h=>⟨h.1,hW.below h.2⟩|(with_reducible show Calls _ 72 _ _ _);exact(iq (some ⟨w.heap.size,0,none⟩) 252 256 z W (by omega) (.inr ⟨_,_,rfl,hW.b.bI.take 252 (by omega)⟩) hzb).mono λe w' h=>⟨h.1,h.2▸hW⟩|exact HZ.out W hW),?_⟩;go_big_quiet_on))
  refine wpQuiet_nil ?_;intro w5 h5;have eB:=h5.out;clear h5 hne
  try
   have HE:Hid (bM z=60):=H60.out HA.out;have hr:=eB.r;go_wp2_with (first|(refine ax rfl 47 (.tmp 2) (.tmp 30) rfl (w.heap.size+1) (aj 0 0 0 0 0) (aj 0 0 0 0 0) rfl rfl hr aR rfl (eL _ _ _ _ _) ?_))
   intro w9 jf gD;go_wp2_with fail;exact bodyPost_ret (aW rfl _ _ (w.heap.size+1) _ _ _ _ _ rfl jf) rfl ⟨by rw[eS (by rw[HE.out];decide),HE.out];rfl,eB.bel.trans (gD.below (by omega))⟩
 have A7:Hid (bM z=if aM (hd z 4) (hd z 5) (hd z 6) (hd z 7) then(if b9 z 16<=pX (hd z 4) (hd z 5) (hd z 6) (hd z 7) then 0 else 60) else 50):=by show _=_;unfold bM;rw[HA.out];rfl
 have SB:Hid (bM z=0->ka z=gu (hd z 4) (hd z 5) (hd z 6) (hd z 7) (b9 z 16)):=λh=>by unfold ka;rw[if_pos h]
 clear n0 n1 n2 n3 h4 M6 hsc HZ HA H60;go_wp2_with fail;apply Vp.br 9 (λl i v W=>GnW w z (hd z 4) (hd z 5) (hd z 6) (hd z 7) l i v W) (λl W=>RrS w z W/\(l 10=true->l 9=true)) (RrS w z)
 case hm=>kernel_rfl
 case hd=>kernel_rfl
 case hpre=>kernel_rfl
 case hB=>kernel_rfl
 case hVl=>exactλl l' he i v W h=>⟨λe=>by rw[<-he 10 (by decide) (by decide)];exact h.p e⟩
 case hS=>exactλl l' W he h=>by rw[<-he 9 (by decide) (by decide),<-he 10 (by decide) (by decide)];exact h
 case hSC=>exactλl W h=>h.1
 case hVb=>exactλl i v W W' h hb=>⟨λe=>by obtain⟨p,h1,h2,h3⟩:=h.p e;exact⟨p,h1,h2,h3.below hb h3.lt⟩⟩
 case hSb=>exactλl W W' h hb _=>⟨h.1.below hb,h.2⟩
 case h0=>exact⟨⟨eB.b,eB.r,eB.bel.drew⟩,λe=>by cases e⟩
 case hwalk=>
  simp only[List.take];intro R hR hne;iterate 4
   (refine aH rfl 32 _ rfl _ _ rfl (Ks .u8 256 z) _ (λW h=>h.1.b.range) Tryz.underlying32 rfl (by rw[bD];exact au) ?_
    refine ae ?_
    go_big_quiet_want
    go_big_quiet_op
    refine⟨_,λs=>aG s (λW hW=>by first|(with_reducible show Calls _ 146 #[_,.int .i64 8] _ _);exact(du z hzb 4 8 rfl (by omega) W).mono λe w' h=>⟨h.1,hW.1.below h.2,hR W w' hW.2 h.2⟩|(with_reducible show Calls _ 146 #[_,.int .i64 10] _ _);exact(du z hzb 5 10 rfl (by omega) W).mono λe w' h=>⟨h.1,hW.1.below h.2,hR W w' hW.2 h.2⟩|(with_reducible show Calls _ 146 #[_,.int .i64 12] _ _);exact(du z hzb 6 12 rfl (by omega) W).mono λe w' h=>⟨h.1,hW.1.below h.2,hR W w' hW.2 h.2⟩|(with_reducible show Calls _ 146 #[_,.int .i64 14] _ _);exact(du z hzb 7 14 rfl (by omega) W).mono λe w' h=>⟨h.1,hW.1.below h.2,hR W w' hW.2 h.2⟩),?_⟩
    go_big_quiet_on)
  go_big_quiet_step (fail)
  exact wpQuiet_nil rfl
 case hst=>
  simp only[List.drop];refine⟨?_,?_,trivial⟩
  ·intro l a W hl hu h
   have h10:l 10=false:=by
    cases e:l 10 with
    |false=>rfl
    |true=>have:=h.st.2 e;rw[hl] at this;cases this
   refine Vm.step h (by kernel_rfl) rfl rfl rfl hl (eM (w':=W.alloc (.cells (aa 0 0 0 0) 23)) (Vl.IJ (v:=.pointer (some ⟨W.heap.size,0,none⟩)) 23 rfl (by kernel_rfl)) ?_);have hb:Below W.heap.size W (W.alloc (.cells (aa 0 0 0 0) 23)):=(Below.refl _ _).alloc (Nat.le_refl _) _;refine⟨_,rfl,λi d hi hd hv=>hv.up λhi' hv'=>⟨λe=>by subst e;rw[hl] at hi;cases hi⟩,Vp.W.mk (by decide) ⟨λ_=>⟨W.heap.size,rfl,h.st.1.sz,?_⟩⟩,h.st.1.below hb,λ_=>rfl⟩;show At _ _ _ (if(10==9||l 10)=true then _ else _);rw[h10];exact At.new _ _ _
  intro l a W hl hu h;obtain⟨p,e1,hp,hA⟩:=((h.vals 9 4 (aq hu 9) rfl).post (by decide)).p rfl;rw[if_neg (by rw[hl];decide)] at hA;have e2:a.tmps.getD 39 undef=bN (hd z 4) (hd z 5) (hd z 6) (hd z 7):=(h.vals 8 39 (aq hu 8) rfl).pre (by decide) rfl;refine Vm.step h (by kernel_rfl) rfl rfl rfl hl (wp_store_row 23 (.tmp 4) (.tmp 39) rfl p (aa (hd z 4) (hd z 5) (hd z 6) (hd z 7)) e1 e2 23 _ hA FO rfl (RG _ _ _ _) ?_);have ho:=gx W p (aa (hd z 4) (hd z 5) (hd z 6) (hd z 7)) hA rfl;refine⟨_,rfl,λi d hi hd hv=> ?_,Vp.W.mk (by decide) ⟨λe=>by cases e⟩,h.st.1.only ho hp,λ_=>aq hu 9 (by kernel_rfl)⟩;refine hv.up λhi' hv'=>⟨λe=> ?_⟩
  subst e;have AD:d=4:=by
   have:some d=some 4:=hd.symm;exact Option.some.inj this
  subst AD;exact⟨p,e1,hp,setRow_heap W p _ _ _ _ hA⟩
 intro a' w6 h Hk;obtain⟨p,e4,acJ,Y6⟩:=((h.vals 9 4 rfl rfl).post (by decide)).p rfl;have Hk:=Hk [4] (by kernel_rfl);have iW:=hid h.st.1;have HV6:=hid Y6;simp only[List.foldl_cons,List.foldl_nil,e4] at Hk;clear h e4 Y6 eB;simp only[Act.put,List.setIfInBounds_toArray,List.set_cons_succ,List.set_cons_zero] at Hk;subst Hk;have ho:=dA hzb 16;have Zh:=fV z hzb 16 16 rfl (by omega);have GZ:=hid Zh;clear Zh;generalize hd z 4=G at*;generalize hd z 5=S at*;generalize hd z 6=I at*;generalize hd z 7=J at*;generalize hOO:b9 z 16=O at*;have Ug:Kx w z p G S I J w6:=⟨iW.out,HV6.out⟩;clear iW HV6;have MZ:=Ug.v;go_wp2_with (first|(refine ar rfl 23 (.tmp 4) rfl _ _ _ rfl MZ Tryz.underlying23 rfl (by kernel_rfl) ?_))
 refine(dY G S I J w6).mono ?_;rintro e w7 ⟨rfl,DF⟩;have D6:=Ug.below DF;clear Ug MZ DF;cases hm:aM G S I J with
 |false=>
  have HE:Hid (bM z=50):=by show _=_;rw[A7.out,hm];rfl
  have hr:=D6.r;clear hm;go_wp2_with (first|(refine ax rfl 47 (.tmp 2) (.tmp 43) rfl (w.heap.size+1) (aj 0 0 0 0 0) (aj 0 0 0 0 0) rfl rfl hr aR rfl (eL _ _ _ _ _) ?_))
  intro w9 jf gD;go_wp2_with fail;exact bodyPost_ret (aW rfl _ _ (w.heap.size+1) _ _ _ _ _ rfl jf) rfl ⟨by rw[eS (by rw[HE.out];decide),HE.out];rfl,D6.bel.trans (gD.below (by omega))⟩
 |true=>
 have HM:=hid hm;obtain⟨p1,p2,p3,p4,p5,p6,p7,p8,p9,Uu,Ut⟩:=(aX G S I J).1 hm;have BI:=Cf p1 p2 p5 p6;have hw:IntKind.i64.wrap (G*I)=G*I:=IntWalk.i64_in _ (by omega);have hwo:IntKind.i64.wrap O=O:=IntWalk.i64_in _ (by omega);have Jq:Hid (pX G S I J=G*I):=by show _=_;unfold pX;rw[hm];rfl
 have Te:∀x:aT (Kx w z p G S I J),x.W.cell? ⟨p,0,none⟩=some (.int .i64 G):=λx=>x.h.v.cell (i:=0) rfl
 have hf2:∀x:aT (Kx w z p G S I J),x.W.cell? ⟨p,2,none⟩=some (.int .i64 I):=λx=>x.h.v.cell (i:=2) rfl
 clear hm p7 Uu Ut
 by_cases hle:O<=G*I
 rotate_left
 ·have HE:Hid (bM z=60):=by show _=_;rw[A7.out,HM.out,Jq.out,if_pos rfl,if_neg hle]
  have hq:decide (G*I<O)=true:=by rw[decide_eq_true_eq];omega
  clear hle;go_wp2_with fail;refine ai (Kx w z p G S I J) (by kernel_rfl) (by kernel_rfl) ⟨⟨D6.b,D6.r,D6.bel.drew⟩,D6.v⟩ ?_;clear D6;intro hne;refine aH rfl 32 _ rfl _ _ rfl (Ks .u8 256 z) _ (λW h=>h.b.range) Tryz.underlying32 rfl (by rw[bD];exact au) ?_;refine ae ?_
  go_big_quiet_want
  go_big_quiet_op
  refine⟨_,λs=>aG s (λW hW=>(GZ.out W).mono λe w' h=>⟨h.1,hW.below h.2⟩),?_⟩
  go_big_quiet_on
  repeat go_big_quiet_step (fail)
  refine wpQuiet_nil ?_;intro w8 h8;have KQ:=h8.out;clear h8 hne Te hf2;have hr:=KQ.r;go_wp2_with (first|(refine ax rfl 47 (.tmp 2) (.tmp 53) rfl (w.heap.size+1) (aj 0 0 0 0 0) (aj 0 0 0 0 0) rfl rfl hr aR rfl (eL _ _ _ _ _) ?_))
  intro w9 jf gD;go_wp2_with fail;exact bodyPost_ret (aW rfl _ _ (w.heap.size+1) _ _ _ _ _ rfl jf) rfl ⟨by rw[eS (by rw[HE.out];decide),HE.out];rfl,KQ.bel.trans (gD.below (by omega))⟩
 have HE:Hid (bM z=0):=by show _=_;rw[A7.out,HM.out,Jq.out,if_pos rfl,if_pos hle]
 have hq:decide (G*I<O)=false:=by rw[decide_eq_false_iff_not];omega
 clear hle;go_wp2_with fail;refine ai (Kx w z p G S I J) (by kernel_rfl) (by kernel_rfl) ⟨⟨D6.b,D6.r,D6.bel.drew⟩,D6.v⟩ ?_;clear D6;intro hne;refine aH rfl 32 _ rfl _ _ rfl (Ks .u8 256 z) _ (λW h=>h.b.range) Tryz.underlying32 rfl (by rw[bD];exact au) ?_;refine ae ?_
 go_big_quiet_want
 go_big_quiet_op
 refine⟨_,λs=>aG s (λW hW=>(GZ.out W).mono λe w' h=>⟨h.1,hW.below h.2⟩),?_⟩
 go_big_quiet_on
 repeat go_big_quiet_step (fail)
 refine wpQuiet_nil ?_;intro w8 h8;have KQ:=h8.out;clear h8 hne Te hf2;have hbs:=λW=>pf G S I J O W
 go_wp2_with fail;refine aA (Kx w z p G S I J) 4 (by kernel_rfl) (by kernel_rfl) (by kernel_rfl) (by kernel_rfl) (by kernel_rfl) (by decide) ⟨⟨KQ.b,KQ.r,KQ.bel.drew⟩,KQ.v⟩ ?_;simp only[List.take,List.drop];clear KQ;intro hne;refine aH rfl 23 _ rfl _ _ rfl (aa G S I J).toList _ (λW h=>h.v.range) Tryz.underlying23 rfl (by kernel_rfl) ?_;refine ae ?_;refine aH rfl 32 _ rfl _ _ rfl (Ks .u8 256 z) _ (λW h=>h.b.range) Tryz.underlying32 rfl (by rw[bD];exact au) ?_;refine ae ?_
 go_big_quiet_want
 go_big_quiet_op
 refine⟨_,λs=>aG s (λW hW=>(GZ.out W).mono λe w' h=>⟨h.1,hW.below h.2⟩),?_⟩
 go_big_quiet_on
 repeat go_big_quiet_step (fail)
 refine wpQuiet_nil ?_;intro po h10;have PK:=h10.out;clear h10 hne;have hr:=PK.r;go_wp2_with (first|(refine ax rfl 47 (.tmp 2) (.tmp 57) rfl (w.heap.size+1) (aj G S I J O) (aj 0 0 0 0 0) rfl rfl hr aR rfl (eL _ _ _ _ _) ?_))
 intro w9 jf gD;go_wp2_with fail;exact bodyPost_ret (aW rfl _ _ (w.heap.size+1) _ _ _ _ _ rfl jf) rfl ⟨by rw[SB.out HE.out,HE.out];rfl,PK.bel.trans (gD.below (by omega))⟩
structure GP(w:World)(G S I J:Int)(z:Nat->Int)(v:Value)(k:Nat)(W:World):Prop where
 s:At W w.heap.size 23 (aa G S I J)
 b:aQ W (w.heap.size+1) 32 256 z
 own:ah W (w.heap.size+2) 67 3 v k (df (rB z) (rI z) (rD z))
 bel:Below w.heap.size w W
theorem GP.below{G I:Int}{W:World}(h:GP w G S I J z v k W)(hb:Below W.heap.size W W'):GP w G S I J z v k W':=
 ⟨h.s.below hb h.s.lt,h.b.below hb h.b.lt,h.own.below hb,h.bel.trans (hb.mono h.bel.size)⟩
structure TC(w:World)(G S I J:Int)(z:Nat->Int)(v:Value)(k:Nat)(t:Mv.St)(W:World):Prop where
 s:At W w.heap.size 23 (aa G S I J)
 b:aQ W (w.heap.size+1) 32 256 z
 bel:Below w.heap.size w W
 s0:t.n<2->ah W (w.heap.size+2) 67 3 v k (df (rB z) (rI z) (rD z))
 s1:t.n=1->∀q,t.v= .slice (some ⟨q,0,none⟩) 1 1->∀j u,(df (rB z) (rI z) (rD z) k)[j]? =some u->W.cell? ((⟨q,0,none⟩:Addr).add j)=some u
 s2:t.n=2->ah W (w.heap.size+2) 67 3 t.v (k+1) (df (rB z) (rI z) (rD z))
theorem TC.below{G I:Int}{W:World}(h:TC w G S I J z v k ⟨0,undef⟩ W)(hb:Below W.heap.size W W'):TC w G S I J z v k ⟨0,undef⟩ W':=
 ⟨h.s.below hb h.s.lt,h.b.below hb h.b.lt,h.bel.trans (hb.mono h.bel.size),λh'=>(h.s0 h').below hb,(λh'=>by cases h'),(λh'=>by cases h')⟩
theorem CM(x y v:Int)(w:World):(Instr.buildSlice 51 1 #[(0,kp x y v)]).run Tryz.prog w= .ok (.slice (some ⟨w.heap.size,0,none⟩) 1 1) (w.alloc (.cells #[.int .i64 x,.int .i64 y,.int .i64 v] 67)):=by kernel_rfl
theorem yg:∃i,Tryz.prog.info? 67=some i/\i.zero=some (kp 0 0 0)/\i.size=3/\i.bytes=24:=by
 obtain⟨i,hi,h⟩:=Option.map_eq_some_iff.1 jW;simp only[Prod.mk.injEq] at h;exact⟨i,hi,h.1,h.2.1,h.2.2⟩
theorem pr(G S I J:Int)(z:Nat->Int)(hzb:bm z)(w:World):
  Calls Tryz.prog 114 #[bN G S I J,aL z] w λe w'=>∃v E,e= .returned (.tuple #[v,.int .i64 E])/\mM w G S I J z v E w'/\Below w.heap.size w w':=by
 obtain⟨W,hW⟩:∃W,W=(w.alloc (.cells (aa G S I J) 23)).alloc (.cells (Ks .u8 256 z).toArray 32):=⟨_,rfl⟩;have hS:At W w.heap.size 23 (aa G S I J):=by rw[hW];exact(At.new w _ _).alloc _
 have hB:aQ W (w.heap.size+1) 32 256 z:=by
  rw[hW];have:=aQ.new (w.alloc (.cells (aa G S I J) 23)) 32 256 z;simp only[World.size_alloc] at this;exact this
 have hL:Below w.heap.size w W:=by rw[hW];exact((Below.refl _ _).alloc (Nat.le_refl _) _).alloc (by simp) _
 have HW:=hid hW;clear hW;go_enter Tryz.func114,Tryz.ntmps114;have yw:At ((w.alloc (.cells (aa G S I J) 23)).alloc (.cells (Ks .u8 256 z).toArray 32)) w.heap.size 23 (aa G S I J):=(At.new w _ _).alloc _;go_wp2_with (first|(refine ar rfl 23 (.tmp 2) rfl _ _ _ rfl yw Tryz.underlying23 rfl (by kernel_rfl) ?_))
 rw[<-HW.out];clear HW yw;refine(dY G S I J W).mono ?_;rintro e w1 ⟨rfl,hb1⟩;have hS1:=hS.below hb1 hS.lt;have vY:=hB.below hb1 hB.lt;have fR:Below w.heap.size w w1:=hL.trans (hb1.mono hL.size);clear hS hB hL hb1;cases hm:aM G S I J with
 |false=>
  have HO:Hid (mM w G S I J z (.slice none 0 0) 50 w1):=.inr ⟨by unfold il;rw[hm];rfl,by rw[hm];rfl,rfl⟩;clear hm;go_wp2_with fail
  go_ret2
  exact⟨_,_,rfl,HO.out,fR⟩
 |true=>
 have HM:=hid hm;have hG:1<=G/\G<=4:=by
  obtain⟨h1,h2,h3,h4,h5,h6,h7,h8,h9,h10,h11⟩:=(aX G S I J).1 hm;exact⟨h1,h2⟩
 clear hm;have HF:Hid (∀W,jm G S I J z=false->mM w G S I J z (.slice none 0 0) 60 W):=λW h=> .inr ⟨by unfold il;rw[HM.out,h];rfl,by rw[HM.out];rfl,rfl⟩
 obtain⟨n,hn⟩:∃n:Nat,G=(n:Int):=⟨G.toNat,by omega⟩;have KH:Hid (G.toNat=n):=by show _=_;omega
 have YG:1<=n/\n<=4:=by omega
 have DY:=hid hn;clear hn;have st0:Hid (GP w G S I J z (.slice none 0 0) 0 w1):=⟨hS1,vY,ah.nil _ _ _ _ _,fR⟩;clear hS1 vY fR;go_wp2_with fail;go_loopw [6,7] (λv u wr=>∃(V:Value) (k:Nat),V=v/\k<=n/\u= .int .i64 (k:Int)/\Hid (aD (λk=>hd z (4*k+3)==0) k=true)/\GP w G S I J z V k wr) (λ_ u _=>n-(intOf u).toNat)
 case atStart=>exact⟨_,0,rfl,by omega,rfl,rfl,st0.out⟩
 clear st0;obtain⟨v,k,rfl,hk,rfl,eJ,st⟩:=hrel;have hc0:wr.cell? ⟨w.heap.size,0,none⟩=some (.int .i64 G):=st.s.cell (i:=0) rfl;have Ta:(decide ((k:Int)<G))=decide (k<n):=by rw[DY.out];simp
 by_cases hlt:k<n
 ·have hq:decide ((k:Int)<G)=true:=by rw[Ta];simpa using hlt
  have hq2:(k:Int)<G:=by simpa using hq
  have e0:IntKind.i64.wrap (8*(k:Int))=8*(k:Int):=IntWalk.i64_in _ (by omega);have e1:IntKind.i64.wrap (8*(k:Int)+2)=8*(k:Int)+2:=IntWalk.i64_in _ (by omega);have e2:IntKind.i64.wrap (8*(k:Int)+4)=8*(k:Int)+4:=IntWalk.i64_in _ (by omega);have e3:IntKind.i64.wrap (8*(k:Int)+6)=8*(k:Int)+6:=IntWalk.i64_in _ (by omega);obtain⟨i0,hi,hz0,hz1,hz2⟩:=yg;clear Ta;go_wp2_with fail;clear hc0;refine Mv.bs (TC w G S I J z v k) ⟨0,undef⟩ (by kernel_rfl) (by kernel_rfl) (by kernel_rfl) ⟨st.s,st.b,st.bel.drew,λ_=>st.own,(λh=>by cases h),(λh=>by cases h)⟩ ?_;clear st;intro hne
  (refine Mv.aO 4 (by kernel_rfl) ?_;simp only[List.take,List.drop])
  go_big_quiet_step (fail)
  refine aH rfl 32 (.tmp 3) rfl _ _ rfl (Ks .u8 256 z) _ (λW h=>by obtain⟨_,h⟩:=h;exact h.b.range) Tryz.underlying32 rfl (by rw[bD];exact au) ?_;refine ae ?_;iterate 2 go_big_quiet_step (fail)
  refine wpQuiet_nil ?_;refine Mv.bR rfl rfl 146 #[aL z,.int .i64 (8*(k:Int))] (.int .i64 (hd z (4*k))) ⟨0,undef⟩ (λW=>by kernel_rfl) (λW hW=> ?c0) ?_
  case c0=>exact(du z hzb (4*k) _ (by omega) (by omega) W).mono λe w' h=>⟨h.1,hW.below h.2⟩
  refine Mv.frame ?_
  (refine Mv.aO 4 (by kernel_rfl) ?_;simp only[List.take,List.drop])
  refine aH rfl 32 (.tmp 3) rfl _ _ rfl (Ks .u8 256 z) _ (λW h=>by obtain⟨_,h⟩:=h;exact h.b.range) Tryz.underlying32 rfl (by rw[bD];exact au) ?_;refine ae ?_;iterate 3 go_big_quiet_step (fail)
  refine wpQuiet_nil ?_;refine Mv.bR rfl rfl 146 #[aL z,.int .i64 (8*(k:Int)+2)] (.int .i64 (hd z (4*k+1))) ⟨0,undef⟩ (λW=>by kernel_rfl) (λW hW=> ?c1) ?_
  case c1=>exact(du z hzb (4*k+1) _ (by omega) (by omega) W).mono λe w' h=>⟨h.1,hW.below h.2⟩
  refine Mv.frame ?_
  (refine Mv.aO 4 (by kernel_rfl) ?_;simp only[List.take,List.drop])
  refine aH rfl 32 (.tmp 3) rfl _ _ rfl (Ks .u8 256 z) _ (λW h=>by obtain⟨_,h⟩:=h;exact h.b.range) Tryz.underlying32 rfl (by rw[bD];exact au) ?_;refine ae ?_;iterate 3 go_big_quiet_step (fail)
  refine wpQuiet_nil ?_;refine Mv.bR rfl rfl 146 #[aL z,.int .i64 (8*(k:Int)+4)] (.int .i64 (hd z (4*k+2))) ⟨0,undef⟩ (λW=>by kernel_rfl) (λW hW=> ?c2) ?_
  case c2=>exact(du z hzb (4*k+2) _ (by omega) (by omega) W).mono λe w' h=>⟨h.1,hW.below h.2⟩
  refine Mv.frame ?_
  (refine Mv.aO 1 (by kernel_rfl) ?_;simp only[List.take,List.drop])
  go_big_quiet_step (fail)
  refine wpQuiet_nil ?_;refine Mv.jS rfl _ _ _ _ rfl λW hW=>⟨_,_,⟨1,.slice (some ⟨W.heap.size,0,none⟩) 1 1⟩,CM _ _ _ W,?_,?_⟩
  ·refine⟨hW.s.alloc _,hW.b.alloc _,hW.bel.alloc hW.bel.size _,λ_=>(hW.s0 (by decide)).alloc _,?_,(λh=>by cases h)⟩
   rintro _ q hq;injection hq with h1 h2 h3;injection h1 with h1;injection h1 with h1;subst h1
   exact ez W (df (rB z) (rI z) (rD z) k) _
  generalize W.heap.size=g0 at*;clear hW;refine Mv.frame ?_;refine Mv.jT rfl _ _ _ rfl λW hW=> ?_
  have hown:=hW.s0 (by show(1:Nat)<2;decide);obtain⟨v',w',hr,ho,hg,_⟩:=run_append_own (P:=Tryz.prog) W (w.heap.size+2) 51 51 67 i0 (kp 0 0 0) 3 24 Tryz.underlying51 hi hz0 hz1 hz2 rfl (by decide) v k (Cs (df (rB z) (rI z) (rD z)) k) hown ⟨g0,0,none⟩ 1 1 (df (rB z) (rI z) (rD z) k) rfl
   (hW.s1 rfl g0 rfl) (Gx _ _ _ k) (by unfold maxLen;omega) (by omega) (by have:=hW.b.lt;omega)
  refine⟨v',w',⟨2,v'⟩,hr,?_,?_⟩
  ·have lG:∀q,v.ownBlock=some q->w.heap.size+2<=q:=λq hq=>(World.ownsRow.lt hown q hq).1
   have hs:=hW.s;have hb:=hW.b;exact⟨(hg.block _ hs.lt (λe=>by have:=lG _ e.symm;omega)).trans hs,(hg.block _ hb.lt (λe=>by have:=lG _ e.symm;omega)).trans hb,hW.bel.grown hg hW.bel.size (λq e=>by have:=lG q e;omega),(λh=>absurd h (by show¬(2:Nat)<2;decide)),(λh=>by cases h),λ_=>ah.append ho (by rfl)⟩
  clear hr ho hg hW hown;refine Mv.frame ?_
  (refine Mv.aO 1 (by kernel_rfl) ?_;simp only[List.take,List.drop])
  go_big_quiet_step (fail)
  refine wpQuiet_nil ?_;refine Mv.bu ?_;intro w4 h4;have iF:GP w G S I J z v' (k+1) w4:=⟨h4.s,h4.b,h4.s2 rfl,h4.bel⟩;clear h4 hne;have hB4:=iF.b;go_wp2_with (first|(refine dD rfl (.tmp 3) rfl (w.heap.size+1) z rfl hB4 ?_))
  clear hB4;refine(du z hzb (4*k+3) _ (by omega) (by omega) _).mono ?_;rintro e w6 ⟨rfl,kx⟩;have eQ:=iF.below kx;clear iF kx;cases FQ:(hd z (4*k+3)==0) with
  |false=>
   have HX:Hid (jm G S I J z=false):=by show _=_;unfold jm;rw[KH.out,bJ hlt FQ];simp
   have hn7:(hd z (4*k+3) !=0)=true:=by rw[bne,FQ];rfl
   clear FQ;go_wp2_with fail
   go_ret2
   exact⟨_,_,rfl,HF.out _ HX.out,eQ.bel⟩
  |true=>
   have zg:Hid (aD (λk=>hd z (4*k+3)==0) (k+1)=true):=by show(aD _ k&&(hd z (4*k+3)==0))=true;rw[eJ.out,FQ];rfl
   have hn7:(hd z (4*k+3) !=0)=false:=by rw[bne,FQ];rfl
   clear FQ eJ;go_wp2_with fail;go_roundw
   case rel=>first|exact⟨_,k+1,rfl,by omega,by go_num,zg,eQ⟩|exact⟨_,k+1,rfl,by omega,rfl,zg,eQ⟩
   simp[intOf];omega
 obtain rfl:k=n:=by omega
 have hq:decide ((k:Int)<G)=false:=by rw[Ta];simp
 have hq2:¬(k:Int)<G:=by simpa using hq
 have hgg:=DY.out;obtain⟨a,cap,rfl⟩:=st.own.form;have e0:IntKind.i64.wrap (8*(k:Int))=8*(k:Int):=IntWalk.i64_in _ (by omega);have hgl:∀x:aT (GP w G S I J z (.slice a k cap) k),x.W.cell? ⟨w.heap.size,0,none⟩=some (.int .i64 (k:Int)):=λx=>(x.h.s.cell (i:=0) (v:=.int .i64 G) rfl).trans (congrArg (λt=>some (Value.int .i64 t)) DY.out)
 have M6:=λW=>bU (w.heap.size+1) 0 0 252 0 252 rfl rfl (by omega) (by omega) (by omega) W
 have hsc:=λW=>bU (w.heap.size+1) 0 (8*k) 252 (8*(k:Int)) 252 (by omega) rfl (by omega) (by omega) (by omega) W
 clear Ta hgg;obtain⟨c0,hc0⟩:∃c,(b9 z 252==jZ z 252)=c:=⟨_,rfl⟩;have hn0:(b9 z 252 !=jZ z 252)= !c0:=by rw[<-hc0];rfl
 have HS:Hid (xr z=c0):=hc0;clear hc0;cases c0 with
 |false=>
  have HX:Hid (jm G S I J z=false):=by show _=_;unfold jm;rw[HS.out];rfl
  go_wp2_with fail;refine ai (GP w G S I J z (.slice a k cap) k) (by kernel_rfl) (by kernel_rfl) ⟨st.s,st.b,st.own,st.bel.drew⟩ ?_;clear st;intro hne;refine aH rfl 32 (.tmp 3) rfl _ _ rfl (Ks .u8 256 z) _ (λW h=>h.b.range) Tryz.underlying32 rfl (by rw[bD];exact au) ?_;refine ae ?_
  go_big_quiet_want
  go_big_quiet_op
  refine⟨_,λs=>aG s (λW hW=>(fV z hzb 252 252 rfl (by omega) W).mono λe w' h=>⟨h.1,hW.below h.2⟩),?_⟩
  go_big_quiet_on
  go_big_quiet_step (fail)
  go_big_quiet_want
  go_big_quiet_op
  refine⟨_,λs=>aG s (λW hW=>(iq (some ⟨w.heap.size+1,0,none⟩) 252 256 z W (by omega) (.inr ⟨_,_,rfl,hW.b.bI.take 252 (by omega)⟩) hzb).mono λe w' h=>⟨h.1,h.2▸hW⟩),?_⟩
  go_big_quiet_on
  iterate 15 go_big_quiet_step (fail)
  refine wpQuiet_nil ?_;intro w5 h5;have eB:=h5.out;clear h5 hne;go_wp2_with fail
  go_ret2
  exact⟨_,_,rfl,HF.out _ HX.out,eB.bel⟩
 |true=>
 obtain⟨c1,hc1⟩:∃c,de (λi=>z (8*k+i)) (252-8*k)=c:=⟨_,rfl⟩;have Xq:Hid (∀W,aQ W (w.heap.size+1) 32 256 z->Calls Tryz.prog 147 #[.slice (some ⟨w.heap.size+1,8*k,none⟩) (252-8*k) (256-8*k)] W λe w'=>e= .returned (.bool c1)/\W=w'):=λW hB=>by
  rw[<-hc1];exact oc (some ⟨w.heap.size+1,8*k,none⟩) (252-8*k) (256-8*k) (λi=>z (8*k+i)) W (by omega) (.inr ⟨_,_,rfl,by have:=hB.bI.sub (8*k) (252-8*k) (by omega);rwa[Nat.zero_add] at this⟩)
 have HZ:=hid hc1;clear hc1;cases c1 with
 |false=>
  have HX:Hid (jm G S I J z=false):=by show _=_;unfold jm;rw[HS.out,KH.out,HZ.out];rfl
  go_wp2_with fail;refine ai (GP w G S I J z (.slice a k cap) k) (by kernel_rfl) (by kernel_rfl) ⟨st.s,st.b,st.own,st.bel.drew⟩ ?_;clear st;intro hne;refine aH rfl 32 (.tmp 3) rfl _ _ rfl (Ks .u8 256 z) _ (λW h=>h.b.range) Tryz.underlying32 rfl (by rw[bD];exact au) ?_;refine ae ?_
  go_big_quiet_want
  go_big_quiet_op
  refine⟨_,λs=>aG s (λW hW=>(fV z hzb 252 252 rfl (by omega) W).mono λe w' h=>⟨h.1,hW.below h.2⟩),?_⟩
  go_big_quiet_on
  go_big_quiet_step (fail)
  go_big_quiet_want
  go_big_quiet_op
  refine⟨_,λs=>aG s (λW hW=>(iq (some ⟨w.heap.size+1,0,none⟩) 252 256 z W (by omega) (.inr ⟨_,_,rfl,hW.b.bI.take 252 (by omega)⟩) hzb).mono λe w' h=>⟨h.1,h.2▸hW⟩),?_⟩
  go_big_quiet_on
  iterate 6 go_big_quiet_step (fail)
  go_big_quiet_want
  go_big_quiet_op
  refine⟨_,λs=>aG s (λW hW=>(Xq.out W hW.b).mono λe w' h=>⟨h.1,h.2▸hW⟩),?_⟩
  go_big_quiet_on
  iterate 8 go_big_quiet_step (fail)
  refine wpQuiet_nil ?_;intro w5 h5;have eB:=h5.out;clear h5 hne;go_wp2_with fail
  go_ret2
  exact⟨_,_,rfl,HF.out _ HX.out,eB.bel⟩
 |true=>
 obtain⟨c2,hc2⟩:∃c,jR G S I J k (rB z) (rI z) (rD z)=c:=⟨_,rfl⟩;have Pq:Hid (∀W,ah W (w.heap.size+2) 67 3 (.slice a k cap) k (df (rB z) (rI z) (rD z))->Below w.heap.size w W->Calls Tryz.prog 99 #[bN G S I J,.slice a k cap] W λe w'=>e= .returned (.bool c2)/\Below W.heap.size W w'):=λW hM _=>by
  rw[<-hc2];exact tI G S I J HM.out a k cap _ _ _ (by omega) W (hM.row (rW _ _ _))
 have HD:=hid hc2;clear hc2;cases c2 with
 |false=>
  have HX:Hid (jm G S I J z=false):=by show _=_;unfold jm;rw[HS.out,KH.out,HZ.out,HD.out];simp
  go_wp2_with fail;refine ai (GP w G S I J z (.slice a k cap) k) (by kernel_rfl) (by kernel_rfl) ⟨st.s,st.b,st.own,st.bel.drew⟩ ?_;clear st;intro hne;refine aH rfl 32 (.tmp 3) rfl _ _ rfl (Ks .u8 256 z) _ (λW h=>h.b.range) Tryz.underlying32 rfl (by rw[bD];exact au) ?_;refine ae ?_
  go_big_quiet_want
  go_big_quiet_op
  refine⟨_,λs=>aG s (λW hW=>(fV z hzb 252 252 rfl (by omega) W).mono λe w' h=>⟨h.1,hW.below h.2⟩),?_⟩
  go_big_quiet_on
  go_big_quiet_step (fail)
  go_big_quiet_want
  go_big_quiet_op
  refine⟨_,λs=>aG s (λW hW=>(iq (some ⟨w.heap.size+1,0,none⟩) 252 256 z W (by omega) (.inr ⟨_,_,rfl,hW.b.bI.take 252 (by omega)⟩) hzb).mono λe w' h=>⟨h.1,h.2▸hW⟩),?_⟩
  go_big_quiet_on
  iterate 6 go_big_quiet_step (fail)
  go_big_quiet_want
  go_big_quiet_op
  refine⟨_,λs=>aG s (λW hW=>(Xq.out W hW.b).mono λe w' h=>⟨h.1,h.2▸hW⟩),?_⟩
  go_big_quiet_on
  iterate 3 go_big_quiet_step (fail)
  refine aH rfl 23 (.tmp 2) rfl _ _ rfl (aa G S I J).toList _ (λW h=>h.s.range) Tryz.underlying23 rfl (by kernel_rfl) ?_;refine ae ?_;go_big_quiet_step (fail)
  go_big_quiet_want
  go_big_quiet_op
  refine⟨_,λs=>aG s (λW hW=>(Pq.out W hW.own hW.bel).mono λe w' h=>⟨h.1,hW.below h.2⟩),?_⟩
  go_big_quiet_on
  iterate 2 go_big_quiet_step (fail)
  refine wpQuiet_nil ?_;intro w5 h5;have eB:=h5.out;clear h5 hne;go_wp2_with fail
  go_ret2
  exact⟨_,_,rfl,HF.out _ HX.out,eB.bel⟩
 |true=>
 have HX:Hid (il G S I J z=true):=by show _=_;unfold il jm;rw[HM.out,HS.out,KH.out,HZ.out,HD.out,eJ.out];rfl
 go_wp2_with fail;refine ai (GP w G S I J z (.slice a k cap) k) (by kernel_rfl) (by kernel_rfl) ⟨st.s,st.b,st.own,st.bel.drew⟩ ?_;clear st;intro hne;refine aH rfl 32 (.tmp 3) rfl _ _ rfl (Ks .u8 256 z) _ (λW h=>h.b.range) Tryz.underlying32 rfl (by rw[bD];exact au) ?_;refine ae ?_
 go_big_quiet_want
 go_big_quiet_op
 refine⟨_,λs=>aG s (λW hW=>(fV z hzb 252 252 rfl (by omega) W).mono λe w' h=>⟨h.1,hW.below h.2⟩),?_⟩
 go_big_quiet_on
 go_big_quiet_step (fail)
 go_big_quiet_want
 go_big_quiet_op
 refine⟨_,λs=>aG s (λW hW=>(iq (some ⟨w.heap.size+1,0,none⟩) 252 256 z W (by omega) (.inr ⟨_,_,rfl,hW.b.bI.take 252 (by omega)⟩) hzb).mono λe w' h=>⟨h.1,h.2▸hW⟩),?_⟩
 go_big_quiet_on
 iterate 6 go_big_quiet_step (fail)
 go_big_quiet_want
 go_big_quiet_op
 refine⟨_,λs=>aG s (λW hW=>(Xq.out W hW.b).mono λe w' h=>⟨h.1,h.2▸hW⟩),?_⟩
 go_big_quiet_on
 iterate 3 go_big_quiet_step (fail)
 refine aH rfl 23 (.tmp 2) rfl _ _ rfl (aa G S I J).toList _ (λW h=>h.s.range) Tryz.underlying23 rfl (by kernel_rfl) ?_;refine ae ?_;go_big_quiet_step (fail)
 go_big_quiet_want
 go_big_quiet_op
 refine⟨_,λs=>aG s (λW hW=>(Pq.out W hW.own hW.bel).mono λe w' h=>⟨h.1,hW.below h.2⟩),?_⟩
 go_big_quiet_on
 iterate 2 go_big_quiet_step (fail)
 refine wpQuiet_nil ?_;intro w5 h5;have eB:=h5.out;clear h5 hne;go_wp2_with fail
 go_ret2
 exact⟨_,_,rfl,.inl ⟨HX.out,rfl,by rw[KH.out];exact eB.own.low (by omega)⟩,eB.bel⟩
def Gz(im:Value)(g s i j o:Int)(a c:Bool):Array Value:=
 let z:=Value.slice none 0 0
 if c then #[im,.int .i64 g,.int .i64 s,.int .i64 i,.int .i64 j,.int .u32 o,.int .i64 g,.int .i64 s,.int .i64 i,.int .i64 j,z,z,z,z]
 else if a then #[im,.int .i64 g,.int .i64 s,.int .i64 i,.int .i64 j,.int .u32 o,.int .i64 0,.int .i64 0,.int .i64 0,.int .i64 0,z,z,z,z]
 else #[im,.int .i64 0,.int .i64 0,.int .i64 0,.int .i64 0,.int .u32 0,.int .i64 0,.int .i64 0,.int .i64 0,.int .i64 0,z,z,z,z]
structure B7(w:World)(p b off n:Nat)(L:Nat->Nat->Int)(cs:Array Value)(G:Nat)(sc:Array Value)(W:World):Prop where
 a:At W p 157 cs
 i:aF W b off 256 n (dW L)
 s:At W G 47 sc
 bel:Below w.heap.size w W
 lo:w.heap.size<=p/\p<G/\b<w.heap.size
theorem B7.below{n:Nat}{W:World}(h:B7 w p b off n L cs G sc W)(hb:Below W.heap.size W W'):B7 w p b off n L cs G sc W':=
 ⟨h.a.below hb h.a.lt,aF.below h.i hb (Nat.lt_of_lt_of_le h.lo.2.2 h.bel.size),h.s.below hb h.s.lt,h.bel.trans (hb.mono h.bel.size),h.lo⟩
theorem B7.put{n:Nat}{cs':Array Value}{W:World}(h:B7 w p b off n L cs G sc W)(k:Nat)(vs:List Value)(he:m8 cs k vs=cs'):B7 w p b off n L cs' G sc (W.setCells p k vs):=by
 have ho:an p W (W.setCells p k vs):=eU p vs k W;obtain⟨h1,h2,h3⟩:=h.lo;exact⟨he▸h.a.Mm vs k,aF.only h.i ho (by omega),h.s.only ho (by omega),h.bel.trans ((ho.below (Nat.le_refl _)).mono h1),h1,h2,h3⟩
theorem B7.lH{n:Nat}{W:World}(h:B7 w p b off n L cs G sc W)(h0:cs[6]? =some (.int .i64 g))(h1:cs[7]? =some (.int .i64 s))(h2:cs[8]? =some (.int .i64 i))(h3:cs[9]? =some (.int .i64 j)):W.rangeAt p 6 (aa g s i j).toList:=λk v hk=>by
 match k,hk with
 |0,hk=>injection hk with hk;subst hk;exact h.a.cell h0
 |1,hk=>injection hk with hk;subst hk;exact h.a.cell h1
 |2,hk=>injection hk with hk;subst hk;exact h.a.cell h2
 |3,hk=>injection hk with hk;subst hk;exact h.a.cell h3
 |k+4,hk=>cases hk
def V7k(p:Nat)(i:Nat)(v:Value):Prop:=if i=8 then v= .pointer (some ⟨p,0,none⟩) else if i=9 then v= .pointer (some ⟨p,6,none⟩) else True
def Kq(g s i j:Int)(z:Nat->Int)(B p:Nat)(k:Nat)(v:Value)(W:World):Prop:=
 if k=8\/k=9 then∃v',v= .tuple #[v',.int .i64 (jL g s i j z)]/\tp g s i j z B v' W
 else if k=10 then tp g s i j z B v W
 else if k=11 then v= .int .i64 (jL g s i j z)
 else if k=12 then v= .pointer (some ⟨p,0,none⟩)
 else if k=13 then v= .pointer (some ⟨p,10,none⟩) else if k=15 then v= .int .i64 (jL g s i j z) else True
theorem Kq.map{W:World}(h:Kq g s i j z B p k v W)(hf:∀v,tp g s i j z B v W->tp g s i j z B v W'):Kq g s i j z B p k v W':=by
 unfold Kq at h ⊢
 by_cases h1:k=8\/k=9
 ·rw[if_pos h1] at h ⊢
  obtain⟨v',e,h⟩:=h;exact⟨v',e,hf _ h⟩
 rw[if_neg h1] at h ⊢
 by_cases h2:k=10
 ·rw[if_pos h2] at h ⊢;exact hf _ h
 rw[if_neg h2] at h ⊢;exact h
theorem Kq.below{W:World}(h:Kq g s i j z B p k v W)(hb:Below W.heap.size W W'):Kq g s i j z B p k v W':=h.map λ_ h=>h.below hb
structure Pd(w:World)(p b off n:Nat)(L:Nat->Nat->Int)(im:Value)(g s i j o:Int)(G:Nat)(y:Bool)(W:World):Prop where
 no:y=false->B7 w p b off n L (Gz im g s i j o true true) G (aj g s i j o) W
 ye:y=true->∃v,tp g s i j (L 1) (G+1) v W/\B7 w p b off n L ((Gz im g s i j o true true).setIfInBounds 10 v) G (aj g s i j o) W
theorem Pd.below{n:Nat}{W:World}(h:Pd w p b off n L im g s i j o G y W)(hb:Below W.heap.size W W'):Pd w p b off n L im g s i j o G y W':=
 ⟨λe=>(h.no e).below hb,λe=>let ⟨v,h1,h2⟩:=h.ye e;⟨v,h1.below hb,h2.below hb⟩⟩
theorem Pd.c{n:Nat}{W:World}(h:Pd w p b off n L im g s i j o G y W):W.rangeAt p 6 (aa g s i j).toList/\aF W b off 256 n (dW L):=by
 cases y with
 |false=>have h:=h.no rfl;exact⟨h.lH rfl rfl rfl rfl,h.i⟩
 |true=>
  obtain⟨v,_,h⟩:=h.ye rfl;exact⟨h.lH rfl rfl rfl rfl,h.i⟩
def yX(w:World)(n:Nat)(L:Nat->Nat->Int)(e:Ending)(w':World):Prop:=
 Below w.heap.size w w'/\∃p,e= .returned (.tuple #[.pointer (some ⟨p,0,none⟩),.int .i64 (((Im.of L n).aN.1:Nat):Int)])/\
  ((Im.of L n).aN.1=0->∃b off cap ds r ci ak pt Q,wT p b off cap (Im.of L n) ds r ci ak pt Q w'/\Im.bF Q=(Im.of L n).aN.2/\Q.length<=2048/\(Im.of L n).Ok)
theorem yX.no{n:Nat}{w':World}{N:Int}(hb:Below w.heap.size w w')(hN:N=((k+1:Nat):Int))(h:(Im.of L n).aN=(k+1,λ_=>0)):yX w n L (.returned (.tuple #[.pointer (some ⟨p,0,none⟩),.int .i64 N])) w':=
 ⟨hb,p,by rw[h,hN],λe=>by rw[h] at e;cases e⟩
end Go.Proofs.YtphamecphmbipaaGreatDoor
