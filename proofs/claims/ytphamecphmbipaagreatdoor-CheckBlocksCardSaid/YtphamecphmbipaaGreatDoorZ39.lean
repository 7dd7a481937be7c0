/- Texts of this claim, merged. -/
import Derived.Test.YtphamecphmbipaaGreatDoorZ37
import Derived.Test.YtphamecphmbipaaGreatDoorZ38
set_option linter.unusedVariables false
set_option maxRecDepth 100000
set_option maxHeartbeats 16000000

namespace Go.Proofs.YtphamecphmbipaaGreatDoor
open Go.RowKit
variable {w W':World} {z:Nat->Int} {p G k off B:Nat} {S J g s i j o:Int} {v im:Value} {L:Nat->Nat->Int} {sc:Array Value} {y:Bool}
structure RrS(w:World)(z:Nat->Int)(W:World):Prop where
 b:aU W w.heap.size 32 256 z
 r:At W (w.heap.size+1) 47 (ax 0 0 0 0 0)
 bel:Below w.heap.size w W
theorem RrS.below{W:World}(h:RrS w z W)(hb:Below W.heap.size W W'):RrS w z W':=⟨h.b.below hb h.b.lt,h.r.below hb h.r.lt,h.bel.trans (hb.mono h.bel.size)⟩
theorem RrS.sz{W:World}(h:RrS w z W):w.heap.size+2<=W.heap.size:=h.r.lt
theorem MP(z:Nat->Int)(c:Bool)(hc:dw (λi=>z (20+i)) 232=c)(w W:World)(hB:aU W w.heap.size 32 256 z):
  Calls Tryz.prog 147 #[.slice (some ⟨w.heap.size,20,none⟩) 232 236] W λe w'=>e= .returned (.bool c)/\W=w':=by
 rw[<-hc];exact oD (some ⟨w.heap.size,20,none⟩) 232 236 (λi=>z (20+i)) W (by omega) (.inr ⟨_,_,rfl,by have:=hB.bQ.sub 20 232 (by omega);rwa[Nat.zero_add] at this⟩)
theorem Ga:(Tryz.prog.info? 23).map (·.size)=some 4:=by kernel_rfl
theorem Sf(G S I J:Int):(ai G S I J).all (·.oneCell')=true:=by kernel_rfl
structure KW(w:World)(z:Nat->Int)(p:Nat)(G S I J:Int)(W:World):Prop extends RrS w z W where
 v:At W p 23 (ai G S I J)
theorem KW.below{G I:Int}{W:World}(h:KW w z p G S I J W)(hb:Below W.heap.size W W'):KW w z p G S I J W':=⟨h.toRrS.below hb,h.v.below hb h.v.lt⟩
structure GnW(w:World)(z:Nat->Int)(G S I J:Int)(l:Nat->Bool)(i:Nat)(v:Value)(W:World):Prop where
 p:i=9->∃p,v= .pointer (some ⟨p,0,none⟩)/\w.heap.size+2<=p/\At W p 23 (if l 10=true then ai G S I J else ai 0 0 0 0)
theorem RrS.only{W:World}(h:RrS w z W)(ho:az p W W')(hp:w.heap.size+2<=p):RrS w z W':=⟨h.b.only ho (by omega),h.r.only ho (by omega),h.bel.trans (ho.below (by omega))⟩
theorem Ai(z:Nat->Int)(hzb:bu z)(w:World):
  Calls Tryz.prog 112 #[aR z] w λe w'=>e= .returned (.tuple #[kr z,.int .i64 (bU z)])/\Below w.heap.size w w':=by
 have ad3:=fv;have ad4:=xx;have st:RrS w z ((w.alloc (.cells (Ks .u8 256 z).toArray 32)).alloc (.cells (ax 0 0 0 0 0) 47)):=by
  refine⟨(aU.new w _ _ _).alloc _,?_,(ag.alloc af _).alloc (by simp) _⟩;have:=At.new (w.alloc (.cells (Ks .u8 256 z).toArray 32)) 47 (ax 0 0 0 0 0);simp only[World.size_alloc] at this;exact this
 have Ny:=λW=>ct w.heap.size 0 0 252 0 252 rfl rfl (by omega) (by omega) (by omega) W
 have hsc:=λW=>ct w.heap.size 0 20 252 20 252 rfl rfl (by omega) (by omega) (by omega) W
 have H60:Hd (iG z=false->bU z=60):=λh=>by unfold bU;rw[h];rfl
 have hc:((cR z 0 !=827216465)=(!false)/\iG z=false)\/((cR z 0 !=827216465)=false/\(((hd z 2 !=1)=(!false)/\iG z=false)\/((hd z 2 !=1)=false/\(((hd z 3 !=256)=(!false)/\iG z=false)\/((hd z 3 !=256)=false/\(((cR z 252 !=kh z 252)=(!false)/\iG z=false)\/((cR z 252 !=kh z 252)=false/\∃b,dw (λi=>z (20+i)) 232=b/\iG z=b))))))):=by
  unfold iG xK bne;cases (cR z 0==827216465)<;>cases (hd z 2==1)<;>cases (hd z 3==256)<;>cases (cR z 252==kh z 252)<;>simp
 go_enter Tryz.func112,Tryz.ntmps112;have HST:=ah st;clear st;rcases hc with⟨n0,hA⟩|⟨n0,⟨n1,hA⟩|⟨n1,⟨n2,hA⟩|⟨n2,⟨n3,hA⟩|⟨n3,b4,h4,hA⟩⟩⟩⟩
 rotate_right;cases b4
 rotate_left;rotate_left
 all_goals
  have HA:=ah hA;clear hA;have HZ:Hd (∀W,RrS w z W->Calls Tryz.prog 147 #[.slice (some ⟨w.heap.size,20,none⟩) 232 236] W λe w'=>e= .returned (.bool (dw (λi=>z (20+i)) 232))/\RrS w z w'):=λW hW=>(MP z _ rfl w W hW.b).mono λe w' h=>⟨h.1,h.2▸hW⟩
  try rw[h4] at HZ
  go_wp2_with fail;refine ar (RrS w z) ⟨HST.Z.b,HST.Z.r,HST.Z.bel.drew⟩ ?_;clear HST;intro hne
  repeat(first|(refine aO rfl 32 (.tmp 1) rfl _ _ rfl (Ks .u8 256 z) _ (λW h=>h.b.range) Tryz.underlying32 rfl (by rw[bD];exact aA) ?_;refine aj ?_)|go_big_quiet_step (fail)|(go_big_quiet_want;go_big_quiet_op;refine⟨_,λs=>aN s (λW hW=>by first|(with_reducible show Calls _ 145 #[_,.int .i64 0] _ _);exact(gp z hzb 0 0 rfl (by omega) W).mono λe w' h=>⟨h.1,hW.below h.2⟩|(with_reducible show Calls _ 146 #[_,.int .i64 4] _ _);exact(dG z hzb 2 4 rfl (by omega) W).mono λe w' h=>⟨h.1,hW.below h.2⟩|(with_reducible show Calls _ 146 #[_,.int .i64 6] _ _);exact(dG z hzb 3 6 rfl (by omega) W).mono λe w' h=>⟨h.1,hW.below h.2⟩|(with_reducible show Calls _ 145 #[_,.int .i64 252] _ _);exact(gp z hzb 252 252 rfl (by omega) W).mono λe w' h=>⟨h.1,hW.below h.2⟩|(with_reducible show Calls _ 72 _ _ _);exact(iI (some ⟨w.heap.size,0,none⟩) 252 256 z W (by omega) (.inr ⟨_,_,rfl,hW.b.bQ.take 252 (by omega)⟩) hzb).mono λe w' h=>⟨h.1,h.2▸hW⟩|exact HZ.Z W hW),?_⟩;go_big_quiet_on))
  refine wpQuiet_nil ?_;intro w5 h5;have eC:=h5.Z;clear h5 hne
  try
   have HE:Hd (bU z=60):=H60.Z HA.Z;have hr:=eC.r;go_wp2_with (first|(refine aD rfl 47 (.tmp 2) (.tmp 30) rfl (w.heap.size+1) (ax 0 0 0 0 0) (ax 0 0 0 0 0) rfl rfl hr a7 rfl (eY _ _ _ _ _) ?_))
   intro w9 jv gQ;go_wp2_with fail;exact bodyPost_ret (bp rfl _ _ (w.heap.size+1) _ _ _ _ _ rfl jv) rfl ⟨by rw[fk (by rw[HE.Z];decide),HE.Z];rfl,eC.bel.trans (gQ.below (by omega))⟩
 have Bm:Hd (bU z=if aT (hd z 4) (hd z 5) (hd z 6) (hd z 7) then(if cR z 16<=qn (hd z 4) (hd z 5) (hd z 6) (hd z 7) then 0 else 60) else 50):=by show _=_;unfold bU;rw[HA.Z];rfl
 have Te:Hd (bU z=0->kr z=gJ (hd z 4) (hd z 5) (hd z 6) (hd z 7) (cR z 16)):=λh=>by unfold kr;rw[if_pos h]
 clear n0 n1 n2 n3 h4 Ny hsc HZ HA H60;go_wp2_with fail;apply Vp.bG 9 (λl i v W=>GnW w z (hd z 4) (hd z 5) (hd z 6) (hd z 7) l i v W) (λl W=>RrS w z W/\(l 10=true->l 9=true)) (RrS w z)
 case hm=>kernel_rfl
 case hd=>kernel_rfl
 case hpre=>kernel_rfl
 case hB=>kernel_rfl
 case hVl=>exactλl l' he i v W h=>⟨λe=>by rw[<-he 10 (by decide) (by decide)];exact h.p e⟩
 case hS=>exactλl l' W he h=>by rw[<-he 9 (by decide) (by decide),<-he 10 (by decide) (by decide)];exact h
 case hSC=>exactλl W h=>h.1
 case hVb=>exactλl i v W W' h hb=>⟨λe=>by obtain⟨p,h1,h2,h3⟩:=h.p e;exact⟨p,h1,h2,h3.below hb h3.lt⟩⟩
 case hSb=>exactλl W W' h hb _=>⟨h.1.below hb,h.2⟩
 case h0=>exact⟨⟨eC.b,eC.r,eC.bel.drew⟩,λe=>by cases e⟩
 case hwalk=>
  simp only[List.take];intro R hR hne;iterate 4
   (refine aO rfl 32 _ rfl _ _ rfl (Ks .u8 256 z) _ (λW h=>h.1.b.range) Tryz.underlying32 rfl (by rw[bD];exact aA) ?_
    refine aj ?_
    go_big_quiet_want
    go_big_quiet_op
    refine⟨_,λs=>aN s (λW hW=>by first|(with_reducible show Calls _ 146 #[_,.int .i64 8] _ _);exact(dG z hzb 4 8 rfl (by omega) W).mono λe w' h=>⟨h.1,hW.1.below h.2,hR W w' hW.2 h.2⟩|(with_reducible show Calls _ 146 #[_,.int .i64 10] _ _);exact(dG z hzb 5 10 rfl (by omega) W).mono λe w' h=>⟨h.1,hW.1.below h.2,hR W w' hW.2 h.2⟩|(with_reducible show Calls _ 146 #[_,.int .i64 12] _ _);exact(dG z hzb 6 12 rfl (by omega) W).mono λe w' h=>⟨h.1,hW.1.below h.2,hR W w' hW.2 h.2⟩|(with_reducible show Calls _ 146 #[_,.int .i64 14] _ _);exact(dG z hzb 7 14 rfl (by omega) W).mono λe w' h=>⟨h.1,hW.1.below h.2,hR W w' hW.2 h.2⟩),?_⟩
    go_big_quiet_on)
  go_big_quiet_step (fail)
  exact wpQuiet_nil rfl
 case hst=>
  simp only[List.drop];refine⟨?_,?_,trivial⟩
  ·intro l a W hl hu h
   have h10:l 10=false:=by
    cases e:l 10 with
    |false=>rfl
    |true=>have:=h.st.2 e;rw[hl] at this;cases this
   refine Vm.step h (by kernel_rfl) rfl rfl rfl hl (eZ (w':=W.alloc (.cells (ai 0 0 0 0) 23)) (Vl.Jf (v:=.pointer (some ⟨W.heap.size,0,none⟩)) 23 rfl (by kernel_rfl)) ?_);have hb:Below W.heap.size W (W.alloc (.cells (ai 0 0 0 0) 23)):=ag.alloc af _;refine⟨_,rfl,λi d hi hd hv=>hv.up λhi' hv'=>⟨λe=>by subst e;rw[hl] at hi;cases hi⟩,Vp.W.mk ⟨λ_=>⟨W.heap.size,rfl,h.st.1.sz,?_⟩⟩,h.st.1.below hb,λ_=>rfl⟩;show At _ _ _ (if(10==9||l 10)=true then _ else _);rw[h10];exact At.new _ _ _
  intro l a W hl hu h;obtain⟨p,e1,hp,hA⟩:=((h.vals 9 4 (aq hu 9) rfl).post).p rfl;rw[if_neg (by rw[hl];decide)] at hA;have e2:a.tmps.getD 39 undef=bV (hd z 4) (hd z 5) (hd z 6) (hd z 7):=(h.vals 8 39 (aq hu 8) rfl).pre (by decide) rfl;refine Vm.step h (by kernel_rfl) rfl rfl rfl hl (wp_store_row 23 (.tmp 4) (.tmp 39) rfl p (ai (hd z 4) (hd z 5) (hd z 6) (hd z 7)) e1 e2 23 _ hA Ga rfl (Sf _ _ _ _) ?_);have ho:=gM W p (ai (hd z 4) (hd z 5) (hd z 6) (hd z 7)) hA rfl;refine⟨_,rfl,λi d hi hd hv=> ?_,Vp.W.mk ⟨λe=>by cases e⟩,h.st.1.only ho hp,λ_=>aq hu 9 (by kernel_rfl)⟩;refine hv.up λhi' hv'=>⟨λe=> ?_⟩
  subst e;have AT:d=4:=by
   have:some d=some 4:=hd.symm;exact Option.some.inj this
  subst AT;exact⟨p,e1,hp,setRow_heap W p _ _ _ _ hA⟩
 intro a' w6 h Ik;obtain⟨p,e4,ade,ZC⟩:=((h.vals 9 4 rfl rfl).post).p rfl;have Ik:=Ik [4] (by kernel_rfl);have jj:=ah h.st.1;have HV6:=ah ZC;simp only[List.foldl_cons,List.foldl_nil,e4] at Ik;clear h e4 ZC eC;simp only[Act.put,List.setIfInBounds_toArray,List.set_cons_succ,List.set_cons_zero] at Ik;subst Ik;have ho:=dP hzb 16;have ZN:=gp z hzb 16 16 rfl (by omega);have Hn:=ah ZN;clear ZN;generalize hd z 4=G at*;generalize hd z 5=S at*;generalize hd z 6=I at*;generalize hd z 7=J at*;generalize hOO:cR z 16=O at*;have UH:KW w z p G S I J w6:=⟨jj.Z,HV6.Z⟩;clear jj HV6;have Nu:=UH.v;go_wp2_with (first|(refine aB rfl 23 (.tmp 4) rfl _ _ _ rfl Nu Tryz.underlying23 rfl (by kernel_rfl) ?_))
 refine(eu G S I J w6).mono ?_;rintro e w7 ⟨rfl,wC⟩;have En:=UH.below wC;clear UH Nu wC;cases hm:aT G S I J with
 |false=>
  have HE:Hd (bU z=50):=by show _=_;rw[Bm.Z,hm];rfl
  have hr:=En.r;clear hm;go_wp2_with (first|(refine aD rfl 47 (.tmp 2) (.tmp 43) rfl (w.heap.size+1) (ax 0 0 0 0 0) (ax 0 0 0 0 0) rfl rfl hr a7 rfl (eY _ _ _ _ _) ?_))
  intro w9 jv gQ;go_wp2_with fail;exact bodyPost_ret (bp rfl _ _ (w.heap.size+1) _ _ _ _ _ rfl jv) rfl ⟨by rw[fk (by rw[HE.Z];decide),HE.Z];rfl,En.bel.trans (gQ.below (by omega))⟩
 |true=>
 have HM:=ah hm;obtain⟨p1,p2,p3,p4,p5,p6,p7,p8,p9,UW,UU⟩:=(bq G S I J).1 hm;have BW:=Cv p1 p2 p5 p6;have hw:IntKind.i64.wrap (G*I)=G*I:=IntWalk.i64_in _ (by omega);have hwo:IntKind.i64.wrap O=O:=IntWalk.i64_in _ (by omega);have JS:Hd (qn G S I J=G*I):=by show _=_;unfold qn;rw[hm];rfl
 have TH:∀x:a9 (KW w z p G S I J),x.W.cell? ⟨p,0,none⟩=some (.int .i64 G):=λx=>x.h.v.cell (i:=0) rfl
 have hf2:∀x:a9 (KW w z p G S I J),x.W.cell? ⟨p,2,none⟩=some (.int .i64 I):=λx=>x.h.v.cell (i:=2) rfl
 clear hm p7 UW UU
 by_cases hle:O<=G*I
 rotate_left
 ·have HE:Hd (bU z=60):=by show _=_;rw[Bm.Z,HM.Z,JS.Z,if_pos rfl,if_neg hle]
  have hq:decide (G*I<O)=true:=by rw[decide_eq_true_eq];omega
  clear hle;go_wp2_with fail;refine ar (KW w z p G S I J) ⟨⟨En.b,En.r,En.bel.drew⟩,En.v⟩ ?_;clear En;intro hne;refine aO rfl 32 _ rfl _ _ rfl (Ks .u8 256 z) _ (λW h=>h.b.range) Tryz.underlying32 rfl (by rw[bD];exact aA) ?_;refine aj ?_
  go_big_quiet_want
  go_big_quiet_op
  refine⟨_,λs=>aN s (λW hW=>(Hn.Z W).mono λe w' h=>⟨h.1,hW.below h.2⟩),?_⟩
  go_big_quiet_on
  repeat go_big_quiet_step (fail)
  refine wpQuiet_nil ?_;intro w8 h8;have Li:=h8.Z;clear h8 hne TH hf2;have hr:=Li.r;go_wp2_with (first|(refine aD rfl 47 (.tmp 2) (.tmp 53) rfl (w.heap.size+1) (ax 0 0 0 0 0) (ax 0 0 0 0 0) rfl rfl hr a7 rfl (eY _ _ _ _ _) ?_))
  intro w9 jv gQ;go_wp2_with fail;exact bodyPost_ret (bp rfl _ _ (w.heap.size+1) _ _ _ _ _ rfl jv) rfl ⟨by rw[fk (by rw[HE.Z];decide),HE.Z];rfl,Li.bel.trans (gQ.below (by omega))⟩
 have HE:Hd (bU z=0):=by show _=_;rw[Bm.Z,HM.Z,JS.Z,if_pos rfl,if_pos hle]
 have hq:decide (G*I<O)=false:=by rw[decide_eq_false_iff_not];omega
 clear hle;go_wp2_with fail;refine ar (KW w z p G S I J) ⟨⟨En.b,En.r,En.bel.drew⟩,En.v⟩ ?_;clear En;intro hne;refine aO rfl 32 _ rfl _ _ rfl (Ks .u8 256 z) _ (λW h=>h.b.range) Tryz.underlying32 rfl (by rw[bD];exact aA) ?_;refine aj ?_
 go_big_quiet_want
 go_big_quiet_op
 refine⟨_,λs=>aN s (λW hW=>(Hn.Z W).mono λe w' h=>⟨h.1,hW.below h.2⟩),?_⟩
 go_big_quiet_on
 repeat go_big_quiet_step (fail)
 refine wpQuiet_nil ?_;intro w8 h8;have Li:=h8.Z;clear h8 hne TH hf2;have hbs:=λW=>pF G S I J O W
 go_wp2_with fail;refine aG (KW w z p G S I J) 4 (by kernel_rfl) (by kernel_rfl) (by kernel_rfl) (by kernel_rfl) (by kernel_rfl) (by decide) ⟨⟨Li.b,Li.r,Li.bel.drew⟩,Li.v⟩ ?_;simp only[List.take,List.drop];clear Li;intro hne;refine aO rfl 23 _ rfl _ _ rfl (ai G S I J).toList _ (λW h=>h.v.range) Tryz.underlying23 rfl (by kernel_rfl) ?_;refine aj ?_;refine aO rfl 32 _ rfl _ _ rfl (Ks .u8 256 z) _ (λW h=>h.b.range) Tryz.underlying32 rfl (by rw[bD];exact aA) ?_;refine aj ?_
 go_big_quiet_want
 go_big_quiet_op
 refine⟨_,λs=>aN s (λW hW=>(Hn.Z W).mono λe w' h=>⟨h.1,hW.below h.2⟩),?_⟩
 go_big_quiet_on
 repeat go_big_quiet_step (fail)
 refine wpQuiet_nil ?_;intro pL h10;have Qd:=h10.Z;clear h10 hne;have hr:=Qd.r;go_wp2_with (first|(refine aD rfl 47 (.tmp 2) (.tmp 57) rfl (w.heap.size+1) (ax G S I J O) (ax 0 0 0 0 0) rfl rfl hr a7 rfl (eY _ _ _ _ _) ?_))
 intro w9 jv gQ;go_wp2_with fail;exact bodyPost_ret (bp rfl _ _ (w.heap.size+1) _ _ _ _ _ rfl jv) rfl ⟨by rw[Te.Z HE.Z,HE.Z];rfl,Qd.bel.trans (gQ.below (by omega))⟩
structure Hf(w:World)(G S I J:Int)(z:Nat->Int)(v:Value)(k:Nat)(W:World):Prop where
 s:At W w.heap.size 23 (ai G S I J)
 b:aU W (w.heap.size+1) 32 256 z
 own:au W (w.heap.size+2) 67 3 v k (df (rB z) (rI z) (rD z))
 bel:Below w.heap.size w W
theorem Hf.below{G I:Int}{W:World}(h:Hf w G S I J z v k W)(hb:Below W.heap.size W W'):Hf w G S I J z v k W':=
 ⟨h.s.below hb h.s.lt,h.b.below hb h.b.lt,h.own.below hb,h.bel.trans (hb.mono h.bel.size)⟩
structure T3(w:World)(G S I J:Int)(z:Nat->Int)(v:Value)(k:Nat)(t:Mv.St)(W:World):Prop where
 s:At W w.heap.size 23 (ai G S I J)
 b:aU W (w.heap.size+1) 32 256 z
 bel:Below w.heap.size w W
 s0:t.n<2->au W (w.heap.size+2) 67 3 v k (df (rB z) (rI z) (rD z))
 s1:t.n=1->∀q,t.v= .slice (some ⟨q,0,none⟩) 1 1->∀j u,(df (rB z) (rI z) (rD z) k)[j]? =some u->W.cell? ((⟨q,0,none⟩:Addr).add j)=some u
 s2:t.n=2->au W (w.heap.size+2) 67 3 t.v (k+1) (df (rB z) (rI z) (rD z))
theorem T3.below{G I:Int}{W:World}(h:T3 w G S I J z v k ⟨0,undef⟩ W)(hb:Below W.heap.size W W'):T3 w G S I J z v k ⟨0,undef⟩ W':=
 ⟨h.s.below hb h.s.lt,h.b.below hb h.b.lt,h.bel.trans (hb.mono h.bel.size),λh'=>(h.s0 h').below hb,(λh'=>by cases h'),(λh'=>by cases h')⟩
theorem C5(x y v:Int)(w:World):(Instr.buildSlice 51 1 #[(0,kF x y v)]).run Tryz.prog w= .ok (.slice (some ⟨w.heap.size,0,none⟩) 1 1) (w.alloc (.cells #[.int .i64 x,.int .i64 y,.int .i64 v] 67)):=by kernel_rfl
theorem yA:∃i,Tryz.prog.info? 67=some i/\i.zero=some (kF 0 0 0)/\i.size=3/\i.bytes=24:=by
 obtain⟨i,hi,h⟩:=Option.map_eq_some_iff.1 ka;simp only[Prod.mk.injEq] at h;exact⟨i,hi,h.1,h.2.1,h.2.2⟩
theorem pN(G S I J:Int)(z:Nat->Int)(hzb:bu z)(w:World):
  Calls Tryz.prog 114 #[bV G S I J,aR z] w λe w'=>∃v E,e= .returned (.tuple #[v,.int .i64 E])/\mW w G S I J z v E w'/\Below w.heap.size w w':=by
 obtain⟨W,hW⟩:=aa ((w.alloc (.cells (ai G S I J) 23)).alloc (.cells (Ks .u8 256 z).toArray 32));have hS:At W w.heap.size 23 (ai G S I J):=by rw[hW];exact(At.new w _ _).alloc _
 have hB:aU W (w.heap.size+1) 32 256 z:=by
  rw[hW];have:=aU.new (w.alloc (.cells (ai G S I J) 23)) 32 256 z;simp only[World.size_alloc] at this;exact this
 have hL:Below w.heap.size w W:=by rw[hW];exact(ag.alloc af _).alloc (by simp) _
 have HW:=ah hW;clear hW;go_enter Tryz.func114,Tryz.ntmps114;have yN:At ((w.alloc (.cells (ai G S I J) 23)).alloc (.cells (Ks .u8 256 z).toArray 32)) w.heap.size 23 (ai G S I J):=(At.new w _ _).alloc _;go_wp2_with (first|(refine aB rfl 23 (.tmp 2) rfl _ _ _ rfl yN Tryz.underlying23 rfl (by kernel_rfl) ?_))
 rw[<-HW.Z];clear HW yN;refine(eu G S I J W).mono ?_;rintro e w1 ⟨rfl,hb1⟩;have hS1:=hS.below hb1 hS.lt;have wF:=hB.below hb1 hB.lt;have fW:Below w.heap.size w w1:=hL.trans (hb1.mono hL.size);clear hS hB hL hb1;cases hm:aT G S I J with
 |false=>
  have HO:Hd (mW w G S I J z (.slice none 0 0) 50 w1):=.inr ⟨by unfold iH;rw[hm];rfl,by rw[hm];rfl,rfl⟩;clear hm;go_wp2_with fail
  go_ret2
  exact⟨_,_,rfl,HO.Z,fW⟩
 |true=>
 have HM:=ah hm;have hG:1<=G/\G<=4:=by
  obtain⟨h1,h2,h3,h4,h5,h6,h7,h8,h9,h10,h11⟩:=(bq G S I J).1 hm;exact⟨h1,h2⟩
 clear hm;have HF:Hd (∀W,jD G S I J z=false->mW w G S I J z (.slice none 0 0) 60 W):=λW h=> .inr ⟨by unfold iH;rw[HM.Z,h];rfl,by rw[HM.Z];rfl,rfl⟩
 obtain⟨n,hn⟩:∃n:Nat,G=(n:Int):=⟨G.toNat,by omega⟩;have La:Hd (G.toNat=n):=by show _=_;omega
 have Zd:1<=n/\n<=4:=by omega
 have Ef:=ah hn;clear hn;have st0:Hd (Hf w G S I J z (.slice none 0 0) 0 w1):=⟨hS1,wF,au.nil _ _ _ _ _,fW⟩;clear hS1 wF fW;go_wp2_with fail;go_loopw [6,7] (λv u wr=>∃(V:Value) (k:Nat),V=v/\k<=n/\u= .int .i64 (k:Int)/\Hd (aK (λk=>hd z (4*k+3)==0) k=true)/\Hf w G S I J z V k wr) (λ_ u _=>n-(intOf u).toNat)
 case atStart=>exact⟨_,0,rfl,by omega,rfl,rfl,st0.Z⟩
 clear st0;obtain⟨v,k,rfl,hk,rfl,eW,st⟩:=hrel;have hc0:wr.cell? ⟨w.heap.size,0,none⟩=some (.int .i64 G):=st.s.cell (i:=0) rfl;have TE:(decide ((k:Int)<G))=decide (k<n):=by rw[Ef.Z];simp
 by_cases hlt:k<n
 ·have hq:decide ((k:Int)<G)=true:=by rw[TE];simpa using hlt
  have hq2:(k:Int)<G:=by simpa using hq
  have e0:IntKind.i64.wrap (8*(k:Int))=8*(k:Int):=IntWalk.i64_in _ (by omega);have e1:IntKind.i64.wrap (8*(k:Int)+2)=8*(k:Int)+2:=IntWalk.i64_in _ (by omega);have e2:IntKind.i64.wrap (8*(k:Int)+4)=8*(k:Int)+4:=IntWalk.i64_in _ (by omega);have e3:IntKind.i64.wrap (8*(k:Int)+6)=8*(k:Int)+6:=IntWalk.i64_in _ (by omega);obtain⟨i0,hi,hz0,hz1,hz2⟩:=yA;clear TE;go_wp2_with fail;clear hc0;refine Mv.bH (T3 w G S I J z v k) ⟨0,undef⟩ (by kernel_rfl) (by kernel_rfl) (by kernel_rfl) ⟨st.s,st.b,st.bel.drew,λ_=>st.own,(λh=>by cases h),(λh=>by cases h)⟩ ?_;clear st;intro hne
  (refine Mv.aX 4 (by kernel_rfl) ?_;simp only[List.take,List.drop])
  go_big_quiet_step (fail)
  refine aO rfl 32 (.tmp 3) rfl _ _ rfl (Ks .u8 256 z) _ (λW h=>by obtain⟨_,h⟩:=h;exact h.b.range) Tryz.underlying32 rfl (by rw[bD];exact aA) ?_;refine aj ?_;iterate 2 go_big_quiet_step (fail)
  refine wpQuiet_nil ?_;refine Mv.cf rfl rfl 146 #[aR z,.int .i64 (8*(k:Int))] (.int .i64 (hd z (4*k))) ⟨0,undef⟩ (λW=>by kernel_rfl) (λW hW=> ?c0) ?_
  case c0=>exact(dG z hzb (4*k) _ (by omega) (by omega) W).mono λe w' h=>⟨h.1,hW.below h.2⟩
  refine Mv.frame ?_
  (refine Mv.aX 4 (by kernel_rfl) ?_;simp only[List.take,List.drop])
  refine aO rfl 32 (.tmp 3) rfl _ _ rfl (Ks .u8 256 z) _ (λW h=>by obtain⟨_,h⟩:=h;exact h.b.range) Tryz.underlying32 rfl (by rw[bD];exact aA) ?_;refine aj ?_;iterate 3 go_big_quiet_step (fail)
  refine wpQuiet_nil ?_;refine Mv.cf rfl rfl 146 #[aR z,.int .i64 (8*(k:Int)+2)] (.int .i64 (hd z (4*k+1))) ⟨0,undef⟩ (λW=>by kernel_rfl) (λW hW=> ?c1) ?_
  case c1=>exact(dG z hzb (4*k+1) _ (by omega) (by omega) W).mono λe w' h=>⟨h.1,hW.below h.2⟩
  refine Mv.frame ?_
  (refine Mv.aX 4 (by kernel_rfl) ?_;simp only[List.take,List.drop])
  refine aO rfl 32 (.tmp 3) rfl _ _ rfl (Ks .u8 256 z) _ (λW h=>by obtain⟨_,h⟩:=h;exact h.b.range) Tryz.underlying32 rfl (by rw[bD];exact aA) ?_;refine aj ?_;iterate 3 go_big_quiet_step (fail)
  refine wpQuiet_nil ?_;refine Mv.cf rfl rfl 146 #[aR z,.int .i64 (8*(k:Int)+4)] (.int .i64 (hd z (4*k+2))) ⟨0,undef⟩ (λW=>by kernel_rfl) (λW hW=> ?c2) ?_
  case c2=>exact(dG z hzb (4*k+2) _ (by omega) (by omega) W).mono λe w' h=>⟨h.1,hW.below h.2⟩
  refine Mv.frame ?_
  (refine Mv.aX 1 (by kernel_rfl) ?_;simp only[List.take,List.drop])
  go_big_quiet_step (fail)
  refine wpQuiet_nil ?_;refine Mv.j6 rfl _ _ _ _ rfl λW hW=>⟨_,_,⟨1,.slice (some ⟨W.heap.size,0,none⟩) 1 1⟩,C5 _ _ _ W,?_,?_⟩
  ·refine⟨hW.s.alloc _,hW.b.alloc _,hW.bel.alloc hW.bel.size _,λ_=>(hW.s0 (by decide)).alloc _,?_,(λh=>by cases h)⟩
   rintro _ q hq;injection hq with h1 h2 h3;injection h1 with h1;injection h1 with h1;subst h1
   exact eN W (df (rB z) (rI z) (rD z) k) _
  generalize W.heap.size=g0 at*;clear hW;refine Mv.frame ?_;refine Mv.j7 rfl _ _ _ rfl λW hW=> ?_
  have hown:=hW.s0 (by show(1:Nat)<2;decide);obtain⟨v',w',hr,ho,hg,_⟩:=run_append_own (P:=Tryz.prog) W (w.heap.size+2) 51 51 67 i0 (kF 0 0 0) 3 24 Tryz.underlying51 hi hz0 hz1 hz2 rfl (by decide) v k (Cs (df (rB z) (rI z) (rD z)) k) hown ⟨g0,0,none⟩ 1 1 (df (rB z) (rI z) (rD z) k) rfl
   (hW.s1 rfl g0 rfl) (GW _ _ _ k) (by unfold maxLen;omega) (by omega) (by have:=hW.b.lt;omega)
  refine⟨v',w',⟨2,v'⟩,hr,?_,?_⟩
  ·have lR:∀q,v.ownBlock=some q->w.heap.size+2<=q:=λq hq=>(World.ownsRow.lt hown q hq).1
   have hs:=hW.s;have hb:=hW.b;exact⟨(hg.block _ hs.lt (λe=>by have:=lR _ e.symm;omega)).trans hs,(hg.block _ hb.lt (λe=>by have:=lR _ e.symm;omega)).trans hb,hW.bel.grown hg hW.bel.size (λq e=>by have:=lR q e;omega),(λh=>absurd h (by show¬(2:Nat)<2;decide)),(λh=>by cases h),λ_=>au.append ho (by rfl)⟩
  clear hr ho hg hW hown;refine Mv.frame ?_
  (refine Mv.aX 1 (by kernel_rfl) ?_;simp only[List.take,List.drop])
  go_big_quiet_step (fail)
  refine wpQuiet_nil ?_;refine Mv.bI ?_;intro w4 h4;have ij:Hf w G S I J z v' (k+1) w4:=⟨h4.s,h4.b,h4.s2 rfl,h4.bel⟩;clear h4 hne;have hB4:=ij.b;go_wp2_with (first|(refine de rfl (.tmp 3) rfl (w.heap.size+1) z rfl hB4 ?_))
  clear hB4;refine(dG z hzb (4*k+3) _ (by omega) (by omega) _).mono ?_;rintro e w6 ⟨rfl,m4⟩;have eQ:=ij.below m4;clear ij m4;cases Gd:(hd z (4*k+3)==0) with
  |false=>
   have HX:Hd (jD G S I J z=false):=by show _=_;unfold jD;rw[La.Z,bR hlt Gd];simp
   have hn7:(hd z (4*k+3) !=0)=true:=by rw[bne,Gd];rfl
   clear Gd;go_wp2_with fail
   go_ret2
   exact⟨_,_,rfl,HF.Z _ HX.Z,eQ.bel⟩
  |true=>
   have zB:Hd (aK (λk=>hd z (4*k+3)==0) (k+1)=true):=by show(aK _ k&&(hd z (4*k+3)==0))=true;rw[eW.Z,Gd];rfl
   have hn7:(hd z (4*k+3) !=0)=false:=by rw[bne,Gd];rfl
   clear Gd eW;go_wp2_with fail;go_roundw
   case rel=>first|exact⟨_,k+1,rfl,by omega,by go_num,zB,eQ⟩|exact⟨_,k+1,rfl,by omega,rfl,zB,eQ⟩
   simp[intOf];omega
 obtain rfl:k=n:=by omega
 have hq:decide ((k:Int)<G)=false:=by rw[TE];simp
 have hq2:¬(k:Int)<G:=by simpa using hq
 have hgg:=Ef.Z;obtain⟨a,cap,rfl⟩:=st.own.form;have e0:IntKind.i64.wrap (8*(k:Int))=8*(k:Int):=IntWalk.i64_in _ (by omega);have hgl:∀x:a9 (Hf w G S I J z (.slice a k cap) k),x.W.cell? ⟨w.heap.size,0,none⟩=some (.int .i64 (k:Int)):=λx=>(x.h.s.cell (i:=0) (v:=.int .i64 G) rfl).trans (congrArg (λt=>some (Value.int .i64 t)) Ef.Z)
 have Ny:=λW=>ct (w.heap.size+1) 0 0 252 0 252 rfl rfl (by omega) (by omega) (by omega) W
 have hsc:=λW=>ct (w.heap.size+1) 0 (8*k) 252 (8*(k:Int)) 252 (by omega) rfl (by omega) (by omega) (by omega) W
 clear TE hgg;obtain⟨c0,hc0⟩:=ae ((cR z 252==kh z 252));have hn0:(cR z 252 !=kh z 252)= !c0:=by rw[<-hc0];rfl
 have HS:Hd (xK z=c0):=hc0;clear hc0;cases c0 with
 |false=>
  have HX:Hd (jD G S I J z=false):=by show _=_;unfold jD;rw[HS.Z];rfl
  go_wp2_with fail;refine ar (Hf w G S I J z (.slice a k cap) k) ⟨st.s,st.b,st.own,st.bel.drew⟩ ?_;clear st;intro hne;refine aO rfl 32 (.tmp 3) rfl _ _ rfl (Ks .u8 256 z) _ (λW h=>h.b.range) Tryz.underlying32 rfl (by rw[bD];exact aA) ?_;refine aj ?_
  go_big_quiet_want
  go_big_quiet_op
  refine⟨_,λs=>aN s (λW hW=>(gp z hzb 252 252 rfl (by omega) W).mono λe w' h=>⟨h.1,hW.below h.2⟩),?_⟩
  go_big_quiet_on
  go_big_quiet_step (fail)
  go_big_quiet_want
  go_big_quiet_op
  refine⟨_,λs=>aN s (λW hW=>(iI (some ⟨w.heap.size+1,0,none⟩) 252 256 z W (by omega) (.inr ⟨_,_,rfl,hW.b.bQ.take 252 (by omega)⟩) hzb).mono λe w' h=>⟨h.1,h.2▸hW⟩),?_⟩
  go_big_quiet_on
  iterate 15 go_big_quiet_step (fail)
  refine wpQuiet_nil ?_;intro w5 h5;have eC:=h5.Z;clear h5 hne;go_wp2_with fail
  go_ret2
  exact⟨_,_,rfl,HF.Z _ HX.Z,eC.bel⟩
 |true=>
 obtain⟨c1,hc1⟩:=ae (dw (λi=>z (8*k+i)) (252-8*k));have XX:Hd (∀W,aU W (w.heap.size+1) 32 256 z->Calls Tryz.prog 147 #[.slice (some ⟨w.heap.size+1,8*k,none⟩) (252-8*k) (256-8*k)] W λe w'=>e= .returned (.bool c1)/\W=w'):=λW hB=>by
  rw[<-hc1];exact oD (some ⟨w.heap.size+1,8*k,none⟩) (252-8*k) (256-8*k) (λi=>z (8*k+i)) W (by omega) (.inr ⟨_,_,rfl,by have:=hB.bQ.sub (8*k) (252-8*k) (by omega);rwa[Nat.zero_add] at this⟩)
 have HZ:=ah hc1;clear hc1;cases c1 with
 |false=>
  have HX:Hd (jD G S I J z=false):=by show _=_;unfold jD;rw[HS.Z,La.Z,HZ.Z];rfl
  go_wp2_with fail;refine ar (Hf w G S I J z (.slice a k cap) k) ⟨st.s,st.b,st.own,st.bel.drew⟩ ?_;clear st;intro hne;refine aO rfl 32 (.tmp 3) rfl _ _ rfl (Ks .u8 256 z) _ (λW h=>h.b.range) Tryz.underlying32 rfl (by rw[bD];exact aA) ?_;refine aj ?_
  go_big_quiet_want
  go_big_quiet_op
  refine⟨_,λs=>aN s (λW hW=>(gp z hzb 252 252 rfl (by omega) W).mono λe w' h=>⟨h.1,hW.below h.2⟩),?_⟩
  go_big_quiet_on
  go_big_quiet_step (fail)
  go_big_quiet_want
  go_big_quiet_op
  refine⟨_,λs=>aN s (λW hW=>(iI (some ⟨w.heap.size+1,0,none⟩) 252 256 z W (by omega) (.inr ⟨_,_,rfl,hW.b.bQ.take 252 (by omega)⟩) hzb).mono λe w' h=>⟨h.1,h.2▸hW⟩),?_⟩
  go_big_quiet_on
  iterate 6 go_big_quiet_step (fail)
  go_big_quiet_want
  go_big_quiet_op
  refine⟨_,λs=>aN s (λW hW=>(XX.Z W hW.b).mono λe w' h=>⟨h.1,h.2▸hW⟩),?_⟩
  go_big_quiet_on
  iterate 8 go_big_quiet_step (fail)
  refine wpQuiet_nil ?_;intro w5 h5;have eC:=h5.Z;clear h5 hne;go_wp2_with fail
  go_ret2
  exact⟨_,_,rfl,HF.Z _ HX.Z,eC.bel⟩
 |true=>
 obtain⟨c2,hc2⟩:=ae (j5 G S I J k (rB z) (rI z) (rD z));have PW:Hd (∀W,au W (w.heap.size+2) 67 3 (.slice a k cap) k (df (rB z) (rI z) (rD z))->Below w.heap.size w W->Calls Tryz.prog 99 #[bV G S I J,.slice a k cap] W λe w'=>e= .returned (.bool c2)/\Below W.heap.size W w'):=λW hM _=>by
  rw[<-hc2];exact tW G S I J HM.Z a k cap _ _ _ (by omega) W (hM.row (ss _ _ _))
 have HD:=ah hc2;clear hc2;cases c2 with
 |false=>
  have HX:Hd (jD G S I J z=false):=by show _=_;unfold jD;rw[HS.Z,La.Z,HZ.Z,HD.Z];simp
  go_wp2_with fail;refine ar (Hf w G S I J z (.slice a k cap) k) ⟨st.s,st.b,st.own,st.bel.drew⟩ ?_;clear st;intro hne;refine aO rfl 32 (.tmp 3) rfl _ _ rfl (Ks .u8 256 z) _ (λW h=>h.b.range) Tryz.underlying32 rfl (by rw[bD];exact aA) ?_;refine aj ?_
  go_big_quiet_want
  go_big_quiet_op
  refine⟨_,λs=>aN s (λW hW=>(gp z hzb 252 252 rfl (by omega) W).mono λe w' h=>⟨h.1,hW.below h.2⟩),?_⟩
  go_big_quiet_on
  go_big_quiet_step (fail)
  go_big_quiet_want
  go_big_quiet_op
  refine⟨_,λs=>aN s (λW hW=>(iI (some ⟨w.heap.size+1,0,none⟩) 252 256 z W (by omega) (.inr ⟨_,_,rfl,hW.b.bQ.take 252 (by omega)⟩) hzb).mono λe w' h=>⟨h.1,h.2▸hW⟩),?_⟩
  go_big_quiet_on
  iterate 6 go_big_quiet_step (fail)
  go_big_quiet_want
  go_big_quiet_op
  refine⟨_,λs=>aN s (λW hW=>(XX.Z W hW.b).mono λe w' h=>⟨h.1,h.2▸hW⟩),?_⟩
  go_big_quiet_on
  iterate 3 go_big_quiet_step (fail)
  refine aO rfl 23 (.tmp 2) rfl _ _ rfl (ai G S I J).toList _ (λW h=>h.s.range) Tryz.underlying23 rfl (by kernel_rfl) ?_;refine aj ?_;go_big_quiet_step (fail)
  go_big_quiet_want
  go_big_quiet_op
  refine⟨_,λs=>aN s (λW hW=>(PW.Z W hW.own hW.bel).mono λe w' h=>⟨h.1,hW.below h.2⟩),?_⟩
  go_big_quiet_on
  iterate 2 go_big_quiet_step (fail)
  refine wpQuiet_nil ?_;intro w5 h5;have eC:=h5.Z;clear h5 hne;go_wp2_with fail
  go_ret2
  exact⟨_,_,rfl,HF.Z _ HX.Z,eC.bel⟩
 |true=>
 have HX:Hd (iH G S I J z=true):=by show _=_;unfold iH jD;rw[HM.Z,HS.Z,La.Z,HZ.Z,HD.Z,eW.Z];rfl
 go_wp2_with fail;refine ar (Hf w G S I J z (.slice a k cap) k) ⟨st.s,st.b,st.own,st.bel.drew⟩ ?_;clear st;intro hne;refine aO rfl 32 (.tmp 3) rfl _ _ rfl (Ks .u8 256 z) _ (λW h=>h.b.range) Tryz.underlying32 rfl (by rw[bD];exact aA) ?_;refine aj ?_
 go_big_quiet_want
 go_big_quiet_op
 refine⟨_,λs=>aN s (λW hW=>(gp z hzb 252 252 rfl (by omega) W).mono λe w' h=>⟨h.1,hW.below h.2⟩),?_⟩
 go_big_quiet_on
 go_big_quiet_step (fail)
 go_big_quiet_want
 go_big_quiet_op
 refine⟨_,λs=>aN s (λW hW=>(iI (some ⟨w.heap.size+1,0,none⟩) 252 256 z W (by omega) (.inr ⟨_,_,rfl,hW.b.bQ.take 252 (by omega)⟩) hzb).mono λe w' h=>⟨h.1,h.2▸hW⟩),?_⟩
 go_big_quiet_on
 iterate 6 go_big_quiet_step (fail)
 go_big_quiet_want
 go_big_quiet_op
 refine⟨_,λs=>aN s (λW hW=>(XX.Z W hW.b).mono λe w' h=>⟨h.1,h.2▸hW⟩),?_⟩
 go_big_quiet_on
 iterate 3 go_big_quiet_step (fail)
 refine aO rfl 23 (.tmp 2) rfl _ _ rfl (ai G S I J).toList _ (λW h=>h.s.range) Tryz.underlying23 rfl (by kernel_rfl) ?_;refine aj ?_;go_big_quiet_step (fail)
 go_big_quiet_want
 go_big_quiet_op
 refine⟨_,λs=>aN s (λW hW=>(PW.Z W hW.own hW.bel).mono λe w' h=>⟨h.1,hW.below h.2⟩),?_⟩
 go_big_quiet_on
 iterate 2 go_big_quiet_step (fail)
 refine wpQuiet_nil ?_;intro w5 h5;have eC:=h5.Z;clear h5 hne;go_wp2_with fail
 go_ret2
 exact⟨_,_,rfl,.inl ⟨HX.Z,rfl,by rw[La.Z];exact eC.own.low (by omega)⟩,eC.bel⟩
def GY(im:Value)(g s i j o:Int)(a c:Bool):Array Value:=
 let z:=Value.slice none 0 0
 if c then #[im,.int .i64 g,.int .i64 s,.int .i64 i,.int .i64 j,.int .u32 o,.int .i64 g,.int .i64 s,.int .i64 i,.int .i64 j,z,z,z,z]
 else if a then #[im,.int .i64 g,.int .i64 s,.int .i64 i,.int .i64 j,.int .u32 o,.int .i64 0,.int .i64 0,.int .i64 0,.int .i64 0,z,z,z,z]
 else #[im,.int .i64 0,.int .i64 0,.int .i64 0,.int .i64 0,.int .u32 0,.int .i64 0,.int .i64 0,.int .i64 0,.int .i64 0,z,z,z,z]
structure Cn(w:World)(p b off n:Nat)(L:Nat->Nat->Int)(cs:Array Value)(G:Nat)(sc:Array Value)(W:World):Prop where
 a:At W p 157 cs
 i:aM W b off 256 n (dR L)
 s:At W G 47 sc
 bel:Below w.heap.size w W
 lo:w.heap.size<=p/\p<G/\b<w.heap.size
theorem Cn.below{b n:Nat}{cs:Array Value}{W:World}(h:Cn w p b off n L cs G sc W)(hb:Below W.heap.size W W'):Cn w p b off n L cs G sc W':=
 ⟨h.a.below hb h.a.lt,aM.below h.i hb (Nat.lt_of_lt_of_le h.lo.2.2 h.bel.size),h.s.below hb h.s.lt,h.bel.trans (hb.mono h.bel.size),h.lo⟩
theorem Cn.put{b n:Nat}{cs cs':Array Value}{W:World}(h:Cn w p b off n L cs G sc W)(k:Nat)(vs:List Value)(he:nB cs k vs=cs'):Cn w p b off n L cs' G sc (W.setCells p k vs):=by
 have ho:az p W (W.setCells p k vs):=ev p vs k W;obtain⟨h1,h2,h3⟩:=h.lo;exact⟨he▸h.a.MN vs k,aM.only h.i ho (by omega),h.s.only ho (by omega),h.bel.trans ((ho.below af).mono h1),h1,h2,h3⟩
theorem Cn.lT{b n:Nat}{cs:Array Value}{W:World}(h:Cn w p b off n L cs G sc W)(h0:cs[6]? =some (.int .i64 g))(h1:cs[7]? =some (.int .i64 s))(h2:cs[8]? =some (.int .i64 i))(h3:cs[9]? =some (.int .i64 j)):W.rangeAt p 6 (ai g s i j).toList:=λk v hk=>by
 match k,hk with
 |0,hk=>injection hk with hk;subst hk;exact h.a.cell h0
 |1,hk=>injection hk with hk;subst hk;exact h.a.cell h1
 |2,hk=>injection hk with hk;subst hk;exact h.a.cell h2
 |3,hk=>injection hk with hk;subst hk;exact h.a.cell h3
 |k+4,hk=>cases hk
def V7k(p:Nat)(i:Nat)(v:Value):Prop:=if i=8 then v= .pointer (some ⟨p,0,none⟩) else if i=9 then v= .pointer (some ⟨p,6,none⟩) else True
def KQ(g s i j:Int)(z:Nat->Int)(B p:Nat)(k:Nat)(v:Value)(W:World):Prop:=
 if k=8\/k=9 then∃v',v= .tuple #[v',.int .i64 (jY g s i j z)]/\tF g s i j z B v' W
 else if k=10 then tF g s i j z B v W
 else if k=11 then v= .int .i64 (jY g s i j z)
 else if k=12 then v= .pointer (some ⟨p,0,none⟩)
 else if k=13 then v= .pointer (some ⟨p,10,none⟩) else if k=15 then v= .int .i64 (jY g s i j z) else True
theorem KQ.map{W:World}(h:KQ g s i j z B p k v W)(hf:∀v,tF g s i j z B v W->tF g s i j z B v W'):KQ g s i j z B p k v W':=by
 unfold KQ at h ⊢
 by_cases h1:k=8\/k=9
 ·rw[if_pos h1] at h ⊢
  obtain⟨v',e,h⟩:=h;exact⟨v',e,hf _ h⟩
 rw[if_neg h1] at h ⊢
 by_cases h2:k=10
 ·rw[if_pos h2] at h ⊢;exact hf _ h
 rw[if_neg h2] at h ⊢;exact h
theorem KQ.below{W:World}(h:KQ g s i j z B p k v W)(hb:Below W.heap.size W W'):KQ g s i j z B p k v W':=h.map λ_ h=>h.below hb
structure PJ(w:World)(p b off n:Nat)(L:Nat->Nat->Int)(im:Value)(g s i j o:Int)(G:Nat)(y:Bool)(W:World):Prop where
 no:y=false->Cn w p b off n L (GY im g s i j o true true) G (ax g s i j o) W
 ye:y=true->∃v,tF g s i j (L 1) (G+1) v W/\Cn w p b off n L ((GY im g s i j o true true).setIfInBounds 10 v) G (ax g s i j o) W
theorem PJ.below{b n:Nat}{W:World}(h:PJ w p b off n L im g s i j o G y W)(hb:Below W.heap.size W W'):PJ w p b off n L im g s i j o G y W':=
 ⟨λe=>(h.no e).below hb,λe=>let ⟨v,h1,h2⟩:=h.ye e;⟨v,h1.below hb,h2.below hb⟩⟩
theorem PJ.c{b n:Nat}{W:World}(h:PJ w p b off n L im g s i j o G y W):W.rangeAt p 6 (ai g s i j).toList/\aM W b off 256 n (dR L):=by
 cases y with
 |false=>have h:=h.no rfl;exact⟨h.lT rfl rfl rfl rfl,h.i⟩
 |true=>
  obtain⟨v,_,h⟩:=h.ye rfl;exact⟨h.lT rfl rfl rfl rfl,h.i⟩
def zl(w:World)(n:Nat)(L:Nat->Nat->Int)(e:Ending)(w':World):Prop:=
 Below w.heap.size w w'/\∃p,e= .returned (.tuple #[.pointer (some ⟨p,0,none⟩),.int .i64 (((Im.of L n).aV.1:Nat):Int)])/\
  ((Im.of L n).aV.1=0->∃b off cap ds r ci ay pt Q,xp p b off cap (Im.of L n) ds r ci ay pt Q w'/\Im.bN Q=(Im.of L n).aV.2/\Q.length<=2048/\(Im.of L n).Ok)
theorem zl.no{n:Nat}{w':World}{N:Int}(hb:Below w.heap.size w w')(hN:N=((k+1:Nat):Int))(h:(Im.of L n).aV=(k+1,λ_=>0)):zl w n L (.returned (.tuple #[.pointer (some ⟨p,0,none⟩),.int .i64 N])) w':=
 ⟨hb,p,by rw[h,hN],λe=>by rw[h] at e;cases e⟩
end Go.Proofs.YtphamecphmbipaaGreatDoor
