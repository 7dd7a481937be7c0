/- Texts of this claim, merged. -/
import Derived.Test.YtphamecphmbipaaGreatDoorZ18
set_option linter.unusedVariables false
namespace Go.Proofs.YtphamecphmbipaaGreatDoor
open Go.RowKit
variable {i pv av:Int} {k B0 D:Nat} {v bv:Value} {w W0:World} {ds:List Nat}
section
attribute [local go_sem] Oper.semAt_some
def B6:Nat->Nat->List Nat
 |0,_=>[]
 |r+1,a=>a/64^r::B6 r (a%64^r)
theorem EP{i:Nat}:Im.bM i=B6 (Im.lvl (Im.bL i)) (i-Im.fst (Im.bL i)):=by
 unfold Im.bM Im.bL Im.lvl Im.fst
 by_cases h1:i<8
 ·rw[if_pos h1,if_pos h1,if_pos h1];rfl
 rw[if_neg h1,if_neg h1]
 by_cases h2:i<72
 ·rw[if_pos h2,if_pos h2]
  show _=[(i-8)/1];rw[Nat.div_one]
 rw[if_neg h2,if_neg h2]
 by_cases h3:i<4168
 ·rw[if_pos h3,if_pos h3]
  show _=[(i-72)/64,(i-72)%64/1];rw[Nat.div_one]
 rw[if_neg h3,if_neg h3];show _=[(i-4168)/4096,(i-4168)%4096/64,(i-4168)%4096%64/1];rw[Nat.div_one,Nat.mod_mod_of_dvd _ (by decide:64∣4096)]
theorem IV{i:Nat}(hi:i<65536)(hk:k<11)(h1:eK k<=i)(h2:i<eK (k+1)):Im.bL i=k:=by
 unfold Im.bL;have:k=0\/k=1\/k=2\/k=3\/k=4\/k=5\/k=6\/k=7\/k=8\/k=9\/k=10:=by omega
 rcases this with rfl|rfl|rfl|rfl|rfl|rfl|rfl|rfl|rfl|rfl|rfl<;>(unfold eK at h1 h2;simp at h1 h2;split<;>(try split)<;>(try split)<;>omega)
def iA(l:List Nat)(k:Nat):List Value:=[.int .i64 ((l.getD k 0:Nat):Int)]
theorem ql(l:List Nat)(k:Nat):(iA l k).length=1:=rfl
structure pU(w:World)(i pv av:Int)(bv:Value)(W:World):Prop where
 i:At W w.heap.size 3 #[.int .i64 i]
 p:At W (w.heap.size+1) 3 #[.int .i64 pv]
 b:At W (w.heap.size+2) 37 #[bv]
 a:At W (w.heap.size+3) 3 #[.int .i64 av]
 bel:Below w.heap.size w W
section
variable {w:World} {i pv av:Int} {bv:Value} {W W':World}
theorem pU.kept{B:Nat}(hB:w.heap.size<=B):Kept B (pU w i pv av bv):=λA C row h hg hr=>
 ⟨Kept.at _ _ A C row h.i hg hr,Kept.at _ _ A C row h.p hg hr,Kept.at _ _ A C row h.b hg hr,Kept.at _ _ A C row h.a hg hr,Kept.below w hB af A C row h.bel hg hr⟩
theorem pU.below(h:pU w i pv av bv W)(hb:Below W.heap.size W W'):pU w i pv av bv W':=
 ⟨h.i.below hb h.i.lt,h.p.below hb h.p.lt,h.b.below hb h.b.lt,h.a.below hb h.a.lt,h.bel.trans (hb.mono h.bel.size)⟩
theorem pU.oB(h:pU w i pv av bv W)(v:Int):pU w i v av bv (W.setCell ⟨w.heap.size+1,0,none⟩ (.int .i64 v)):=by
 have ho:=az.setCell W ⟨w.heap.size+1,0,none⟩ (.int .i64 v);exact⟨h.i.only ho (by simp),dy h.p 0 _,h.b.only ho (by simp),h.a.only ho (by simp),h.bel.trans (ho.below (by simp))⟩
theorem pU.nA(h:pU w i pv av bv W)(v:Value):pU w i pv av v (W.setCell ⟨w.heap.size+2,0,none⟩ v):=by
 have ho:=az.setCell W ⟨w.heap.size+2,0,none⟩ v;exact⟨h.i.only ho (by simp),h.p.only ho (by simp),dy h.b 0 _,h.a.only ho (by simp),h.bel.trans (ho.below (by simp))⟩
theorem pU.nB(h:pU w i pv av bv W)(v:Int):pU w i pv v bv (W.setCell ⟨w.heap.size+3,0,none⟩ (.int .i64 v)):=by
 have ho:=az.setCell W ⟨w.heap.size+3,0,none⟩ (.int .i64 v);exact⟨h.i.only ho (by simp),h.p.only ho (by simp),h.b.only ho (by simp),dy h.a 0 _,h.bel.trans (ho.below (by simp))⟩
theorem pU.grown(h:pU w i pv av bv W){n:Nat}{xs:List Value}(ho:W.ownsRow (w.heap.size+4) 3 1 v n xs)(hg:W.grownBy W' v.ownBlock):pU w i pv av bv W':=by
 have lR:∀x,v.ownBlock=some x->w.heap.size+4<=x:=λx e=>(World.ownsRow.lt ho x e).1
 exact⟨dE h.i hg (λe=>by have:=lR _ e;omega),dE h.p hg (λe=>by have:=lR _ e;omega),dE h.b hg (λe=>by have:=lR _ e;omega),dE h.a hg (λe=>by have:=lR _ e;omega),h.bel.grown hg h.bel.size (λx e=>by have:=lR x e;omega)⟩
end
structure XM(w:World)(i:Int)(W:World):Prop where
 i:At W w.heap.size 3 #[.int .i64 i]
 p:At W (w.heap.size+1) 3 #[.int .i64 0]
 b:At W (w.heap.size+2) 37 #[.slice none 0 0]
 bel:Below w.heap.size w W
 sz:W.heap.size=w.heap.size+3
theorem XM.ofS{W:World}(h:XM w i W):pU w i 0 0 (.slice none 0 0) (W.alloc (.cells #[.int .i64 0] 3)):=
 ⟨h.i.alloc _,h.p.alloc _,h.b.alloc _,by have:=At.new W 3 #[.int .i64 0];rwa[h.sz] at this,h.bel.alloc (by have:=h.sz;omega) _⟩
structure pV(w:World)(B0:Nat)(W0:World)(i pv av:Int)(bv:Value)(ds:List Nat)(W:World):Prop where
 s:pU w i pv av bv W
 r:au W (w.heap.size+4) 3 1 bv ds.length (iA ds)
 iU:KeepsFrom B0 W0 W
theorem yj{W:World}{base m:Nat}{e:TypeId}{f:Nat->List Value}(h:au W base e m v k f){g j:Nat}(hg:g<base)(u:Value):au (W.setCell ⟨g,j,none⟩ u) base e m v k f:=
 fm h (az.setCell W ⟨g,j,none⟩ u) (λe=>by have:=(World.ownsRow.lt h g e).1;omega)
section
variable {w:World} {B0:Nat} {W0:World} {i pv av:Int} {bv:Value} {ds:List Nat} {W W':World}
theorem pV.below(h:pV w B0 W0 i pv av bv ds W)(hb:Below W.heap.size W W'):pV w B0 W0 i pv av bv ds W':=⟨h.s.below hb,au.below h.r hb,h.iU.trans (Below.keeps hb)⟩
theorem pV.drew(h:pV w B0 W0 i pv av bv ds W)(n:Nat):pV w B0 W0 i pv av bv ds {W with drawn:=n}:=h.below ⟨rfl,rfl,rfl,Nat.le_refl _,λ_ _=>rfl⟩
theorem pV.oB(h:pV w B0 W0 i pv av bv ds W)(v:Int):pV w B0 W0 i v av bv ds (W.setCell ⟨w.heap.size+1,0,none⟩ (.int .i64 v)):=
 ⟨h.s.oB v,yj h.r (by omega) _,h.iU.trans (mL h.s.p)⟩
theorem pV.nB(h:pV w B0 W0 i pv av bv ds W)(v:Int):pV w B0 W0 i pv v bv ds (W.setCell ⟨w.heap.size+3,0,none⟩ (.int .i64 v)):=
 ⟨h.s.nB v,yj h.r (by omega) _,h.iU.trans (mL h.s.a)⟩
end
structure O6(w:World)(B0:Nat)(W0:World)(i pv av:Int)(bv:Value)(ds:List Nat)(D:Nat)(t:Mv.St)(W:World):Prop where
 s:pU w i pv av bv W
 r0:t.n<2->au W (w.heap.size+4) 3 1 bv ds.length (iA ds)
 r1:t.n=1->∀g,t.v= .slice (some ⟨g,0,none⟩) 1 1->W.cell? ⟨g,0,none⟩=some (.int .i64 (D:Int))
 r2:t.n=2->au W (w.heap.size+4) 3 1 t.v (ds.length+1) (iA (ds++[D]))
 iU:KeepsFrom B0 W0 W
theorem O6.below{t:Mv.St}{W W':World}(h:O6 w B0 W0 i pv av bv ds D t W)(hb:Below W.heap.size W W'):O6 w B0 W0 i pv av bv ds D t W':=
 ⟨h.s.below hb,λe=>au.below (h.r0 e) hb,λe g eg=>(hb.cell (p:=⟨g,0,none⟩) (World.block_lt_of_cell? W _ (h.r1 e g eg))).trans (h.r1 e g eg),λe=>au.below (h.r2 e) hb,h.iU.trans (Below.keeps hb)⟩
theorem pV.start{W:World}(h:pV w B0 W0 i pv av bv ds W):O6 w B0 W0 i pv av bv ds D ⟨0,undef⟩ W:=
 ⟨h.s,λ_=>h.r,(λe=>by cases e),(λe=>by cases e),h.iU⟩
theorem lJ(v:Int)(W:World):(Instr.buildSlice 37 1 #[(0,.int .i64 v)]).run Tryz.prog W= .ok (.slice (some ⟨W.heap.size,0,none⟩) 1 1) (W.alloc (.cells #[.int .i64 v] 3)):=by kernel_rfl
theorem AH:(Tryz.prog.info? 3).map (·.size)=some 1:=by kernel_rfl
theorem vY:(Tryz.prog.info? 37).map (·.size)=some 1:=by kernel_rfl
theorem qm(ds:List Nat)(D k:Nat)(hk:k<ds.length):iA ds k=iA (ds++[D]) k:=by
 unfold iA;rw[List.getD_eq_getElem?_getD,List.getD_eq_getElem?_getD,List.getElem?_append_left hk]
theorem qk(ds:List Nat)(D:Nat):iA (ds++[D]) ds.length=[.int .i64 (D:Int)]:=by
 unfold iA;rw[List.getD_eq_getElem?_getD,List.getElem?_append_right af,Nat.sub_self];rfl
theorem Al{fn:Func}(h:fn.results= #[.cell 2 3,.cell 3 37,.tmp 4])(tmps:Array Value)(W:World)(b2 b3:Nat)(u v x:Value)
  (hp2:tmps.getD 2 undef= .pointer (some ⟨b2,0,none⟩)) (hp3:tmps.getD 3 undef= .pointer (some ⟨b3,0,none⟩)) (Gk:tmps.getD 4 undef=x)
  (h2:W.cell? ⟨b2,0,none⟩=some u) (h3:W.cell? ⟨b3,0,none⟩=some v) (hu:u.oneCell'=true) (hv:v.oneCell'=true):(results fn tmps).run Tryz.prog W= .ok (.tuple #[u,v,x]) W:=by
 have VN:tmps[2]?.getD undef= .pointer (some ⟨b2,0,none⟩):=by simpa using hp2
 have VM:tmps[3]?.getD undef= .pointer (some ⟨b3,0,none⟩):=by simpa using hp3
 have VL:tmps[4]?.getD undef=x:=by simpa using Gk
 simp[results,h,VN,VM,VL,go_sem,h2,h3]
structure KZ(w:World)(i pv av:Int)(a:Option Addr)(n cap:Nat)(f:Nat->List Value)(D:Nat)(W:World):Prop where
 s:pU w i pv av (.slice a n cap) W
 r:au W (w.heap.size+4) 3 1 (.slice a n cap) n f
 d:W.heap[D]? =some (.deferred (some []))
section
variable {w:World} {i pv av:Int} {a:Option Addr} {n cap:Nat} {f:Nat->List Value} {D:Nat} {W:World}
theorem KZ.oB(h:KZ w i pv av a n cap f D W)(hD:w.heap.size+4<=D):KZ w i pv av a n cap f D (W.setCell ⟨w.heap.size+1,0,none⟩ (.int .i64 pv)):=
 ⟨h.s.oB pv,yj h.r (by omega) _,((az.setCell W ⟨w.heap.size+1,0,none⟩ (.int .i64 pv)).block D (by show D≠w.heap.size+1;omega)).trans h.d⟩
theorem KZ.nA(h:KZ w i pv av a n cap f D W)(hD:w.heap.size+4<=D):KZ w i pv av a n cap f D (W.setCell ⟨w.heap.size+2,0,none⟩ (.slice a n cap)):=
 ⟨h.s.nA _,yj h.r (by omega) _,((az.setCell W ⟨w.heap.size+2,0,none⟩ (.slice a n cap)).block D (by show D≠w.heap.size+2;omega)).trans h.d⟩
end
set_option maxRecDepth 100000 in
set_option maxHeartbeats 8000000 in
theorem Df(i:Nat)(hi:i<65536)(w:World):Calls Tryz.prog 96 #[.int .i64 (i:Int)] w λe w'=>∃a c,e= .returned (.tuple #[.int .i64 ((Im.bL i:Nat):Int),.slice a (Im.bM i).length c,.int .i64 0])/\
   cU w' a 1 (Im.bM i).length (iA (Im.bM i))/\Below w.heap.size w w':=by
 refine(callsIn_wide (n:=5)).1 (callsIn_of_wp_marks Tryz.func96 rfl trivial ?_ rfl);refine wpIn_wide.2 ?_;simp only[Tryz.ntmps96,List.size_toArray,List.length_cons,List.length_nil,Nat.reduceAdd,Nat.reduceSub,Array.replicate_succ,Array.replicate_zero,List.push_toArray,List.append_toArray,List.nil_append,List.cons_append];have st0:Hd (XM w (i:Int) (((w.alloc (.cells #[.int .i64 (i:Int)] 3)).alloc (.cells #[.int .i64 0] 3)).alloc (.cells #[.slice none 0 0] 37))):=by
  refine⟨((At.new w _ _).alloc _).alloc _,?_,?_,((ag.alloc af _).alloc (by simp) _).alloc (by simp;omega) _,by simp⟩
  ·have:=(At.new (w.alloc (.cells #[.int .i64 (i:Int)] 3)) 3 #[.int .i64 0]).alloc (.cells #[.slice none 0 0] 37)
   simpa only[World.size_alloc] using this
  have:=At.new ((w.alloc (.cells #[.int .i64 (i:Int)] 3)).alloc (.cells #[.int .i64 0] 3)) 37 #[.slice none 0 0];simpa only[World.size_alloc] using this
 have h1:¬(i:Int)<0:=by omega
 have h2:¬(65536:Int)<=(i:Int):=by omega
 have hd1:decide ((i:Int)<0)=false:=decide_eq_false h1;have hd2:decide ((65536:Int)<=(i:Int))=false:=decide_eq_false h2;obtain⟨W0,hW0⟩:=aa ((((w.alloc (.cells #[.int .i64 (i:Int)] 3)).alloc (.cells #[.int .i64 0] 3)).alloc (.cells #[.slice none 0 0] 37)));rw[<-hW0] at st0;have hsz:=st0.Z.sz;have cI:=st0.Z.i.cell (i:=0) (v:=.int .i64 (i:Int)) rfl;have bW:=ah (st0.Z.ofS);have IA:=ah hW0;clear st0 hW0;go_wp2_with fail;rw[<-IA.Z]
 go_step3
 go_wp2_with fail
 go_step3
 go_wp2_with fail;refine(kt _).mono ?_;rintro e w1 ⟨rfl,rfl⟩;go_wp2_with fail;have hW1:w.heap.size+4=(W0.alloc (.cells #[.int .i64 0] 3)).heap.size:=by rw[World.size_alloc,hsz]
 obtain⟨W1,RB⟩:=aa (W0.alloc (.cells #[.int .i64 0] 3));rw[<-RB] at bW hW1 ⊢;clear RB IA cI hsz h1 h2 hd1 hd2;have hB:w.heap.size<=W1.heap.size:=by omega
 apply xz (gf:=161) (lb:=#[]) rfl (enters_of Tryz.func161 (by kernel_rfl) rfl)
  (mj 4 (by decide)) (λk=>rfl)
  (λk W=>eK k<=i/\pU w (i:Int) 0 0 (.slice none 0 0) W)
  (λc k W=>c= .exit 0/\(eK k<=i/\i<eK (k+1))/\∃(bv:Value) (av:Int),pU w (i:Int) (k:Int) av bv W/\au W (w.heap.size+4) 3 1 bv (B6 (Im.lvl k) (i-eK k)).length (iA (B6 (Im.lvl k) (i-eK k))))
  (λk=>(Kept.pure _ _).and (pU.kept hB))
  (λc k=>(Kept.pure _ _).and ((Kept.pure _ _).and (Kept.ex λbv=>Kept.ex λav=>(pU.kept hB).and Kept.own)))
  (λk=>Kept.pure _ True)
  ⟨Nat.zero_le _,bW.Z⟩ trivial
 case assign=>
  intro l k W K hk hK;dsimp only[BB]
  gi_wp2
  exact hK
 case body=>
  rintro l k Wr hk ⟨hle,st⟩ _;have ST:Hd (pV w W1.heap.size Wr (i:Int) 0 0 (.slice none 0 0) [] Wr):=⟨st,au.nil _ _ _ _ _,KeepsFrom.refl _ _⟩;clear bW st;have Wt:=jM hk;have Rp:=qs (k+1);obtain⟨F,hF⟩:=aa (eK k);obtain⟨G,hG⟩:=aa (eK (k+1));have hlv:=rM hk;obtain⟨lv,JU⟩:=aa (Im.lvl k);obtain⟨sp,hsp⟩:=aa (Im.gh lv);rw[<-hF] at hle;rw[<-hF,<-hG,<-JU,<-hsp] at Wt;rw[<-hG] at Rp;rw[<-JU] at hlv;have HF:=ah hF;have HG:=ah hG;have HLV:=ah JU;have Ue:=ah hsp;have NR:(F:Int)<=65536:=by omega
  have LP:(G:Int)<=300000:=by omega
  rw[<-hF];clear hF hG JU hsp Rp
  gi_wp2_with (first|(refine⟨trivial,?_⟩;gi_at_call 131;refine(CallsIn.inRound l (callsIn_wide.2 (ik k (by omega) _))).mono ?_;rintro e w' ⟨rfl,rfl⟩))
  rw[<-HLV.Z]
  gi_wp2
  refine Mv.kK (λ(_:Mv.St) W=>pV w W1.heap.size Wr (i:Int) 0 0 (.slice none 0 0) [] W) ⟨0,undef⟩ (by kernel_rfl) (by kernel_rfl) (by kernel_rfl) (by kernel_rfl) (ST.Z.drew _) ?_;clear ST;intro hne;have hc:∀y:a9 (λW=>∃s:Mv.St,pV w W1.heap.size Wr (i:Int) 0 0 (.slice none 0 0) [] W),y.W.cell? ⟨w.heap.size,0,none⟩=some (.int .i64 (i:Int)):=λy=>by obtain⟨_,h⟩:=y.h;exact h.s.i.cell (i:=0) rfl
  (refine Mv.aX 3 (by kernel_rfl) ?_;simp only[List.take,List.drop])
  iterate 3 go_big_quiet_step (fail)
  refine wpQuiet_nil ?_;refine Mv.cf rfl rfl 142 #[.int .i64 (lv:Int)] (.int .i64 (sp:Int)) ⟨0,undef⟩ (λW=>by kernel_rfl) (λW hW=>(gL lv hlv W).mono λe w' h=>⟨show e= .returned (.int .i64 (sp:Int)) by rw[h.1,Ue.Z],h.2▸hW⟩) ?_;refine Mv.frame ?_
  (refine Mv.aX 2 (by kernel_rfl) ?_;simp only[List.take,List.drop])
  iterate 2 go_big_quiet_step (fail)
  refine wpQuiet_nil ?_;refine Mv.bI ?_;intro W5 h5;have ed:=ah h5;have HFX:=ah Wt;clear h5 hne hc Wt
  by_cases hlt:i<G
  rotate_left
  ·have hge:decide (G<=i)=true:=decide_eq_true (by omega)
   gi_wp2
   exact⟨ed.Z.iU,⟨by rw[<-HG.Z];omega,ed.Z.s⟩,trivial⟩
  have hge:decide (G<=i)=false:=decide_eq_false (by omega);obtain⟨A0,hA0⟩:=aa (i-F);have PA:(A0:Int)<=65536:=by omega
  have uW:=ah hA0;have Mu:Hd ((i:Int)-(F:Int)=(A0:Int)):=by show _=_;omega
  clear hA0
  gi_wp2
  have hAi:=Mu.Z;refine Mv.kK (λ(t:Mv.St) W=>pV w W1.heap.size Wr (i:Int) (if t.n>=1 then(k:Int) else 0) (if t.n>=2 then(A0:Int) else 0) (.slice none 0 0) [] W) ⟨0,undef⟩ (by kernel_rfl) (by kernel_rfl) (by kernel_rfl) (by kernel_rfl) (ed.Z.drew _) ?_;clear ed;intro hne;have hc:∀y:a9 (λW=>∃t:Mv.St,pV w W1.heap.size Wr (i:Int) (if t.n>=1 then(k:Int) else 0) (if t.n>=2 then(A0:Int) else 0) (.slice none 0 0) [] W),y.W.cell? ⟨w.heap.size,0,none⟩=some (.int .i64 (i:Int)):=λy=>by obtain⟨_,h⟩:=y.h;exact h.s.i.cell (i:=0) rfl
  (refine Mv.aX 4 (by kernel_rfl) ?_;simp only[List.take,List.drop])
  iterate 4 go_big_quiet_step (fail)
  refine wpQuiet_nil ?_;refine Mv.fy rfl 3 (.tmp 2) (.tmp 27) rfl (w.heap.size+1) 0 (.int .i64 (k:Int)) rfl rfl AH rfl ⟨1,undef⟩ (λW' hW=>⟨⟨_,hW.s.p.cell (i:=0) rfl⟩,an hW.s.p 0,hW.oB _⟩) ?_;refine Mv.frame ?_ (by simp only[Act.put];exact rfl);refine Mv.fy rfl 3 (.tmp 5) (.tmp 30) rfl (w.heap.size+3) 0 (.int .i64 (A0:Int)) rfl rfl AH rfl ⟨2,undef⟩ (λW' hW=>⟨⟨_,hW.s.a.cell (i:=0) rfl⟩,an hW.s.a 0,hW.nB _⟩) ?_;refine Mv.frame ?_ (by simp only[Act.put];exact rfl);refine Mv.bI ?_;intro W6 h6;have jj:Hd (pV w W1.heap.size Wr (i:Int) (k:Int) (A0:Int) (.slice none 0 0) [] W6):=h6;clear h6 hne hc hAi
  gi_wp2
  gi_loopw [9] (λu wr=>∃(r:Nat) (ds:List Nat) (a:Nat) (bv:Value),u= .int .i64 ((r:Int)-1)/\r<=3/\a<=65536/\ds++B6 r a=B6 lv A0/\ds.length+r=lv/\pV w W1.heap.size Wr (i:Int) (k:Int) (a:Int) bv ds wr) (λu _=>(intOf u+1).toNat)
  case atStart=>exact⟨lv,[],A0,.slice none 0 0,rfl,hlv,by omega,rfl,by simp,jj.Z⟩
  clear jj PA hge;obtain⟨r,ds,a,bv,rfl,hr,ha,ur,J3,st⟩:=hrel;have ST:=ah st;have Yl:=ah ur;have HDL:=ah J3;clear st ur
  by_cases BS:r=0
  ·subst BS
   have Ee:Hd (au wr (w.heap.size+4) 3 1 bv (B6 (Im.lvl k) (i-eK k)).length (iA (B6 (Im.lvl k) (i-eK k)))):=by
    have e:ds=B6 (Im.lvl k) (i-eK k):=by
     have:=Yl.Z;rw[B6,List.append_nil,HLV.Z,uW.Z,HF.Z] at this;exact this
    show au _ _ _ _ _ _ _;rw[<-e];exact ST.Z.r
   have hneg:(((0:Nat):Int)-1<0):=by omega
   clear J3
   gi_wp2
   exact⟨ST.Z.iU,rfl,⟨by rw[<-HF.Z];exact hle,by rw[<-HG.Z];exact hlt⟩,bv,_,ST.Z.s,Ee.Z⟩
  obtain⟨r,rfl⟩:∃r',r=r'+1:=⟨r-1,by omega⟩;have e1:((r+1:Nat):Int)-1=(r:Int):=by omega
  rw[e1];have r0:(0:Int)<=(r:Int):=by omega
  have r9:(r:Int)<=2:=by omega
  obtain⟨S2,Iq⟩:=aa (Im.gh r);have J8:1<=S2/\S2<=262144:=by rw[Iq];exact MH (by omega)
  obtain⟨D,hD⟩:=aa (a/S2);obtain⟨R,hR⟩:=aa (a%S2);have SN:Hd ((a:Int).tdiv (S2:Int)=(D:Int)):=by show _=_;rw[Int.tdiv_eq_ediv_of_nonneg (by omega),hD];rfl
  have Uh:Hd ((a:Int).tmod (S2:Int)=(R:Int)):=by show _=_;rw[Int.tmod_eq_emod_of_nonneg (by omega),hR];rfl
  have hD9:D<=65536:=by rw[hD];exact Nat.le_trans (Nat.div_le_self _ _) ha
  have jv:R<=65536:=by rw[hR];exact Nat.le_trans (Nat.mod_le _ _) ha
  have Tf:Hd ((ds++[D])++B6 r R=B6 lv A0):=by
   show _=_;rw[<-Yl.Z,B6,hD,hR,Iq,List.append_assoc];rfl
  have ko:=ah Iq;have adO:ds.length<=2:=by omega
  clear hD hR Iq e1 J3 BS Yl hlt
  gi_wp2
  refine Mv.kL (O6 w W1.heap.size Wr (i:Int) (k:Int) (a:Int) bv ds D) ⟨0,undef⟩ 7 (by kernel_rfl) (by kernel_rfl) (by kernel_rfl) (by kernel_rfl) (by kernel_rfl) (by kernel_rfl) (by kernel_rfl) (by decide) (ST.Z.start.below ⟨rfl,rfl,rfl,Nat.le_refl _,λ_ _=>rfl⟩) ?_;clear ST;simp only[List.take,List.drop];intro hne;have hcb:∀y:a9 (λW=>∃t,O6 w W1.heap.size Wr (i:Int) (k:Int) (a:Int) bv ds D t W),y.W.cell? ⟨w.heap.size+1+1,0,none⟩=some bv:=λy=>by obtain⟨_,h⟩:=y.h;exact h.s.b.cell (i:=0) rfl
  have J5:∀y:a9 (λW=>∃t,O6 w W1.heap.size Wr (i:Int) (k:Int) (a:Int) bv ds D t W),y.W.cell? ⟨w.heap.size+3,0,none⟩=some (.int .i64 (a:Int)):=λy=>by obtain⟨_,h⟩:=y.h;exact h.s.a.cell (i:=0) rfl
  (refine Mv.aX 3 (by kernel_rfl) ?_;simp only[List.take,List.drop])
  iterate 3 go_big_quiet_step (fail)
  refine wpQuiet_nil ?_;refine Mv.cf rfl rfl 142 #[.int .i64 (r:Int)] (.int .i64 (S2:Int)) ⟨0,undef⟩ (λW=>by kernel_rfl) (λW hW=>(gL r (by omega) W).mono λe w' h=>⟨show e= .returned (.int .i64 (S2:Int)) by rw[h.1,ko.Z],h.2▸hW⟩) ?_;refine Mv.frame ?_;have hq1:=SN.Z;have hs0:¬(S2:Int)=0:=by omega
  (refine Mv.aX 1 (by kernel_rfl) ?_;simp only[List.take,List.drop])
  go_big_quiet_step (fail)
  refine wpQuiet_nil ?_;refine Mv.j6 rfl _ _ _ _ rfl λW hW=>⟨_,_,⟨1,.slice (some ⟨W.heap.size,0,none⟩) 1 1⟩,lJ (D:Int) W,?_,?_⟩
  ·have hb:Below W.heap.size W (W.alloc (.cells #[.int .i64 (D:Int)] 3)):=ag.alloc af _
   refine⟨hW.s.below hb,λ_=>au.below (hW.r0 (by decide)) hb,?_,(λe=>by cases e),hW.iU.trans (Below.keeps hb)⟩;intro _ g eg;injection eg with h1 h2 h3;injection h1 with h1;injection h1 with h1;subst h1
   exact(At.new W 3 #[.int .i64 (D:Int)]).cell (i:=0) rfl
  generalize W.heap.size=g0 at*;clear hW;refine Mv.frame ?_;refine Mv.j7 rfl _ _ _ rfl λW hW=> ?_
  have hown:=hW.r0 (by show(1:Nat)<2;decide);obtain⟨i0,hi0,hz0,hz1,hz2⟩:=oO;obtain⟨v',w',hr',ho,hg,_⟩:=run_append_own (P:=Tryz.prog) W (w.heap.size+4) 37 37 3 i0 (.int .i64 0) 1 8 Tryz.underlying37 hi0 hz0 hz1 hz2 (by rfl) (by decide) bv ds.length (Cs (iA ds) ds.length) hown ⟨g0,0,none⟩ 1 1 [.int .i64 (D:Int)] (by rfl)
   (λj u hu=>by
    cases j with
    |zero=>
     injection hu with hu
     subst hu;exact hW.r1 rfl g0 rfl
    |succ j=>cases hu) (λu hu=>by simp at hu;subst hu;rfl) (by unfold maxLen;omega) (by omega) (by have:=hW.s.a.lt;omega)
  refine⟨v',w',⟨2,v'⟩,hr',?_,?_⟩
  ·have hwr:au w' (w.heap.size+4) 3 1 v' (ds.length+1) (iA (ds++[D])):=by
    refine au.append (f:=iA (ds++[D])) (news:=[.int .i64 (D:Int)]) ?_ ?_
    ·rw[<-iS λk hk=>qm ds D k hk];exact ho
    show _=Cs _ 1;rw[od];show _=[]++iA (ds++[D]) (ds.length+0);rw[Nat.add_zero,qk];rfl
   exact⟨hW.s.grown hown hg,(λh=>absurd h (by show¬(2:Nat)<2;decide)),(λh=>by cases h),λ_=>hwr,hW.iU.trans (Dt hown hg)⟩
  clear hr' ho hg hW hown;refine Mv.frame ?_;refine Mv.bI ?_;intro W6 h6;obtain⟨va,vc,hv'⟩:=au.form (h6.r2 rfl)
  replace hv':v'= .slice va (ds.length+1) vc:=hv'
  subst hv';have cb6:W6.cell? ⟨w.heap.size+1+1,0,none⟩=some bv:=h6.s.b.cell (i:=0) rfl;have fb6:W6.frozen? ⟨w.heap.size+1+1,0,none⟩=false:=an h6.s.b 0;have EC:Hd (pV w W1.heap.size Wr (i:Int) (k:Int) (a:Int) (.slice va (ds.length+1) vc) (ds++[D]) (W6.setCell ⟨w.heap.size+1+1,0,none⟩ (.slice va (ds.length+1) vc))):=by
   refine⟨h6.s.nA _,?_,h6.iU.trans (mL h6.s.b)⟩;rw[List.length_append];exact yj (h6.r2 rfl) (by omega) _
  clear h6 hne hcb J5 hq1;go_wp2_with fail;refine Mv.Nm.mk ?_;clear cb6 fb6;generalize (W6.setCell ⟨w.heap.size+1+1,0,none⟩ (.slice va (ds.length+1) vc))=W7 at*
  gi_wp2
  refine Mv.kL (λ(_:Mv.St) W=>pV w W1.heap.size Wr (i:Int) (k:Int) (a:Int) (.slice va (ds.length+1) vc) (ds++[D]) W) ⟨0,undef⟩ 4 (by kernel_rfl) (by kernel_rfl) (by kernel_rfl) (by kernel_rfl) (by kernel_rfl) (by kernel_rfl) (by kernel_rfl) (by decide) (EC.Z.drew _) ?_;clear EC;simp only[List.take,List.drop];intro hne;have J5:∀y:a9 (λW=>∃_:Mv.St,pV w W1.heap.size Wr (i:Int) (k:Int) (a:Int) (.slice va (ds.length+1) vc) (ds++[D]) W),y.W.cell? ⟨w.heap.size+3,0,none⟩=some (.int .i64 (a:Int)):=λy=>by obtain⟨_,h⟩:=y.h;exact h.s.a.cell (i:=0) rfl
  (refine Mv.aX 2 (by kernel_rfl) ?_;simp only[List.take,List.drop])
  iterate 2 go_big_quiet_step (fail)
  refine wpQuiet_nil ?_;refine Mv.cf rfl rfl 142 #[.int .i64 (r:Int)] (.int .i64 (S2:Int)) ⟨0,undef⟩ (λW=>by kernel_rfl) (λW hW=>(gL r (by omega) W).mono λe w' h=>⟨show e= .returned (.int .i64 (S2:Int)) by rw[h.1,ko.Z],h.2▸hW⟩) ?_;refine Mv.frame ?_;have hq2:=Uh.Z
  (refine Mv.aX 1 (by kernel_rfl) ?_;simp only[List.take,List.drop])
  go_big_quiet_step (fail)
  refine wpQuiet_nil ?_;refine Mv.bI ?_;intro W8 h8;have ca8:W8.cell? ⟨w.heap.size+3,0,none⟩=some (.int .i64 (a:Int)):=h8.s.a.cell (i:=0) rfl;have fa8:W8.frozen? ⟨w.heap.size+3,0,none⟩=false:=an h8.s.a 0;have oo:Hd (pV w W1.heap.size Wr (i:Int) (k:Int) (R:Int) (.slice va (ds.length+1) vc) (ds++[D]) (W8.setCell ⟨w.heap.size+3,0,none⟩ (.int .i64 (R:Int)))):=h8.nB _;clear h8 hne J5 hq2 hs0;go_wp2_with fail;refine Mv.Nm.mk ?_;clear ca8 fa8;generalize (W8.setCell ⟨w.heap.size+3,0,none⟩ (.int .i64 (R:Int)))=W9 at*
  gi_wp2
  go_roundw
  case rel=>(try((repeat apply Exists.intro);refine⟨?_,rfl⟩));exact⟨r,ds++[D],R,.slice va (ds.length+1) vc,rfl,by omega,jv,Tf.Z,by rw[List.length_append];have:=HDL.Z;show ds.length+1+r=lv;omega,oo.Z⟩
  simp[intOf]<;>omega
 case done=>
  rintro D W hD ⟨h,_⟩ _;exact absurd h (by show¬eK 11<=i;unfold eK;simp;omega)
 rintro D c k W hD hk ⟨rfl,⟨hl,hh⟩,bv,av,st,hr⟩ hK;have Vn:=IV hi hk hl hh;have DM:Im.fst k=eK k:=nX (by omega);have hwb:Im.bM i=B6 (Im.lvl k) (i-eK k):=by rw[EP,Vn,DM]
 rw[<-hwb] at hr;obtain⟨a,cap,rfl⟩:=au.form hr;have HWP:=ah Vn;have Ei:Hd (w.heap.size+4<=D):=by show _<=_;omega
 have ST:=ah st;have HR:=ah hr;have HK:=ah hK;clear Vn DM hwb st hr hK hW1 hB bW hl hh;dsimp only;go_wp2_with fail;refine Mv.bH (λ(_:Mv.St) W=>KZ w (i:Int) (k:Int) av a (Im.bM i).length cap (iA (Im.bM i)) D W) ⟨0,undef⟩ (by kernel_rfl) (by kernel_rfl) (by kernel_rfl) ⟨ST.Z.below ⟨rfl,rfl,rfl,Nat.le_refl _,λ_ _=>rfl⟩,HR.Z,HK.Z⟩ ?_;clear ST HR HK;intro hne;have hcp:∀y:a9 (λW=>∃_:Mv.St,KZ w (i:Int) (k:Int) av a (Im.bM i).length cap (iA (Im.bM i)) D W),y.W.cell? ⟨w.heap.size+1,0,none⟩=some (.int .i64 (k:Int)):=λy=>by obtain⟨_,h⟩:=y.h;exact h.s.p.cell (i:=0) rfl
 have hcb:∀y:a9 (λW=>∃_:Mv.St,KZ w (i:Int) (k:Int) av a (Im.bM i).length cap (iA (Im.bM i)) D W),y.W.cell? ⟨w.heap.size+1+1,0,none⟩=some (.slice a (Im.bM i).length cap):=λy=>by obtain⟨_,h⟩:=y.h;exact h.s.b.cell (i:=0) rfl
 (refine Mv.aX 2 (by kernel_rfl) ?_;simp only[List.take,List.drop])
 iterate 2 go_big_quiet_step (fail)
 refine wpQuiet_nil ?_;refine Mv.fy rfl 3 (.tmp 2) (.tmp 48) rfl (w.heap.size+1) 0 (.int .i64 (k:Int)) rfl rfl AH rfl ⟨1,undef⟩ (λW' hW=>⟨⟨_,hW.s.p.cell (i:=0) rfl⟩,an hW.s.p 0,hW.oB Ei.Z⟩) ?_;refine Mv.frame ?_ (by simp only[Act.put];exact rfl);refine Mv.fy rfl 37 (.tmp 3) (.tmp 49) rfl (w.heap.size+2) 0 (.slice a (Im.bM i).length cap) rfl rfl vY rfl ⟨2,undef⟩ (λW' hW=>⟨⟨_,hW.s.b.cell (i:=0) rfl⟩,an hW.s.b 0,hW.nA Ei.Z⟩) ?_;refine Mv.frame ?_ (by simp only[Act.put];exact rfl)
 (refine Mv.aX 1 (by kernel_rfl) ?_;simp only[List.take,List.drop])
 go_big_quiet_step (fail)
 refine wpQuiet_nil ?_;refine Mv.bI ?_;intro W2 h2;have hp2:=h2.s.p.cell (i:=0) (v:=.int .i64 (k:Int)) rfl;have hb2:=h2.s.b.cell (i:=0) (v:=.slice a (Im.bM i).length cap) rfl;have rp2:=dD (D:=D) (o':=.deferred none) h2.d rfl hp2;have rb2:=dD (D:=D) (o':=.deferred none) h2.d rfl hb2;have H2:=ah h2;clear h2 hne hcp hcb hp2 hb2;go_wp2_with fail;rw[Exit.noGoto_ret];refine dQ (v:=.tuple #[.int .i64 (k:Int),.slice a (Im.bM i).length cap,.int .i64 0]) (D:=D) H2.Z.d (Al rfl _ _ (w.heap.size+1) (w.heap.size+2) _ _ _ rfl rfl rfl rp2 rb2 rfl rfl) ⟨a,cap,by rw[HWP.Z],?_,eU H2.Z.s.bel _ af (by have:=Ei.Z;omega)⟩;exact au.row (show au (W2.putObj D (.deferred none)) (w.heap.size+4) 3 1 (.slice a (Im.bM i).length cap) (Im.bM i).length (iA (Im.bM i)) from Kept.own (B:=0) _ _ (some D) H2.Z.r (grownBy_putObj' W2 D (.deferred none)) (λr e=>by cases e;exact⟨Nat.zero_le _,_,H2.Z.d,rfl⟩)) (ql _)
end
end Go.Proofs.YtphamecphmbipaaGreatDoor
