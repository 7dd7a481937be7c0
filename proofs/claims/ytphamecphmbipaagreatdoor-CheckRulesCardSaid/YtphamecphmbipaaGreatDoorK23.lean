/- Texts of this claim, merged. -/
import Derived.Test.YtphamecphmbipaaGreatDoorK19
set_option linter.unusedVariables false
namespace Go.Proofs.YtphamecphmbipaaGreatDoor
open Go.RowKit
open Lib (hid)
variable {i pv av:Int} {k B0 D:Nat} {v bv:Value} {w W0:World} {ds:List Nat}
section
attribute [local go_sem] Oper.semAt_some
def BQ:Nat->Nat->List Nat
 |0,_=>[]
 |r+1,a=>a/64^r::BQ r (a%64^r)
theorem Ex{i:Nat}:Im.bE i=BQ (Im.lvl (Im.bC i)) (i-Im.fst (Im.bC i)):=by
 unfold Im.bE Im.bC Im.lvl Im.fst
 by_cases h1:i<8
 ·rw[if_pos h1,if_pos h1,if_pos h1];rfl
 rw[if_neg h1,if_neg h1]
 by_cases h2:i<72
 ·rw[if_pos h2,if_pos h2]
  show _=[(i-8)/1];rw[Nat.div_one]
 rw[if_neg h2,if_neg h2]
 by_cases h3:i<4168
 ·rw[if_pos h3,if_pos h3]
  show _=[(i-72)/64,(i-72)%64/1];rw[Nat.div_one]
 ·rw[if_neg h3,if_neg h3]
  show _=[(i-4168)/4096,(i-4168)%4096/64,(i-4168)%4096%64/1];rw[Nat.div_one,Nat.mod_mod_of_dvd _ (by decide:64∣4096)]
theorem Iq{i:Nat}(hi:i<65536)(hk:k<11)(h1:ev k<=i)(h2:i<ev (k+1)):Im.bC i=k:=by
 unfold Im.bC;have:k=0\/k=1\/k=2\/k=3\/k=4\/k=5\/k=6\/k=7\/k=8\/k=9\/k=10:=by omega
 rcases this with rfl|rfl|rfl|rfl|rfl|rfl|rfl|rfl|rfl|rfl|rfl<;>(unfold ev at h1 h2;simp at h1 h2;split<;>(try split)<;>(try split)<;>omega)
def gZ(l:List Nat)(k:Nat):List Value:=[.int .i64 ((l.getD k 0:Nat):Int)]
theorem pV(l:List Nat)(k:Nat):(gZ l k).length=1:=rfl
structure pE(w:World)(i pv av:Int)(bv:Value)(W:World):Prop where
 i:At W w.heap.size 3 #[.int .i64 i]
 p:At W (w.heap.size+1) 3 #[.int .i64 pv]
 b:At W (w.heap.size+2) 37 #[bv]
 a:At W (w.heap.size+3) 3 #[.int .i64 av]
 bel:Below w.heap.size w W
section
variable {w:World} {i pv av:Int} {bv:Value} {W W':World}
theorem pE.kept{B:Nat}(hB:w.heap.size<=B):Kept B (pE w i pv av bv):=λA C row h hg hr=>
 ⟨Kept.at _ _ A C row h.i hg hr,Kept.at _ _ A C row h.p hg hr,Kept.at _ _ A C row h.b hg hr,Kept.at _ _ A C row h.a hg hr,Kept.below w hB (Nat.le_refl _) A C row h.bel hg hr⟩
theorem pE.below(h:pE w i pv av bv W)(hb:Below W.heap.size W W'):pE w i pv av bv W':=
 ⟨h.i.below hb h.i.lt,h.p.below hb h.p.lt,h.b.below hb h.b.lt,h.a.below hb h.a.lt,h.bel.trans (hb.mono h.bel.size)⟩
theorem pE.n9(h:pE w i pv av bv W)(v:Int):pE w i v av bv (W.setCell ⟨w.heap.size+1,0,none⟩ (.int .i64 v)):=by
 have ho:=an.setCell W ⟨w.heap.size+1,0,none⟩ (.int .i64 v);exact⟨h.i.only ho (by simp),dh h.p 0 _,h.b.only ho (by simp),h.a.only ho (by simp),h.bel.trans (ho.below (by simp))⟩
theorem pE.m7(h:pE w i pv av bv W)(v:Value):pE w i pv av v (W.setCell ⟨w.heap.size+2,0,none⟩ v):=by
 have ho:=an.setCell W ⟨w.heap.size+2,0,none⟩ v;exact⟨h.i.only ho (by simp),h.p.only ho (by simp),dh h.b 0 _,h.a.only ho (by simp),h.bel.trans (ho.below (by simp))⟩
theorem pE.m8(h:pE w i pv av bv W)(v:Int):pE w i pv v bv (W.setCell ⟨w.heap.size+3,0,none⟩ (.int .i64 v)):=by
 have ho:=an.setCell W ⟨w.heap.size+3,0,none⟩ (.int .i64 v);exact⟨h.i.only ho (by simp),h.p.only ho (by simp),h.b.only ho (by simp),dh h.a 0 _,h.bel.trans (ho.below (by simp))⟩
theorem pE.grown(h:pE w i pv av bv W){n:Nat}{xs:List Value}(ho:W.ownsRow (w.heap.size+4) 3 1 v n xs)(hg:W.grownBy W' v.ownBlock):pE w i pv av bv W':=by
 have lG:∀x,v.ownBlock=some x->w.heap.size+4<=x:=λx e=>(World.ownsRow.lt ho x e).1
 exact⟨dq h.i hg (λe=>by have:=lG _ e;omega),dq h.p hg (λe=>by have:=lG _ e;omega),dq h.b hg (λe=>by have:=lG _ e;omega),dq h.a hg (λe=>by have:=lG _ e;omega),h.bel.grown hg h.bel.size (λx e=>by have:=lG x e;omega)⟩
end
structure Xf(w:World)(i:Int)(W:World):Prop where
 i:At W w.heap.size 3 #[.int .i64 i]
 p:At W (w.heap.size+1) 3 #[.int .i64 0]
 b:At W (w.heap.size+2) 37 #[.slice none 0 0]
 bel:Below w.heap.size w W
 sz:W.heap.size=w.heap.size+3
theorem Xf.ofS{W:World}(h:Xf w i W):pE w i 0 0 (.slice none 0 0) (W.alloc (.cells #[.int .i64 0] 3)):=
 ⟨h.i.alloc _,h.p.alloc _,h.b.alloc _,by have:=At.new W 3 #[.int .i64 0];rwa[h.sz] at this,h.bel.alloc (by have:=h.sz;omega) _⟩
structure pF(w:World)(B0:Nat)(W0:World)(i pv av:Int)(bv:Value)(ds:List Nat)(W:World):Prop where
 s:pE w i pv av bv W
 r:ah W (w.heap.size+4) 3 1 bv ds.length (gZ ds)
 iG:KeepsFrom B0 W0 W
theorem xX{W:World}{base m:Nat}{e:TypeId}{f:Nat->List Value}(h:ah W base e m v k f){g j:Nat}(hg:g<base)(u:Value):ah (W.setCell ⟨g,j,none⟩ u) base e m v k f:=
 eT h (an.setCell W ⟨g,j,none⟩ u) (λe=>by have:=(World.ownsRow.lt h g e).1;omega)
section
variable {w:World} {B0:Nat} {W0:World} {i pv av:Int} {bv:Value} {ds:List Nat} {W W':World}
theorem pF.below(h:pF w B0 W0 i pv av bv ds W)(hb:Below W.heap.size W W'):pF w B0 W0 i pv av bv ds W':=⟨h.s.below hb,ah.below h.r hb,h.iG.trans (Below.keeps hb)⟩
theorem pF.drew(h:pF w B0 W0 i pv av bv ds W)(n:Nat):pF w B0 W0 i pv av bv ds {W with drawn:=n}:=h.below ⟨rfl,rfl,rfl,Nat.le_refl _,λ_ _=>rfl⟩
theorem pF.n9(h:pF w B0 W0 i pv av bv ds W)(v:Int):pF w B0 W0 i v av bv ds (W.setCell ⟨w.heap.size+1,0,none⟩ (.int .i64 v)):=
 ⟨h.s.n9 v,xX h.r (by omega) _,h.iG.trans (mB h.s.p)⟩
theorem pF.m8(h:pF w B0 W0 i pv av bv ds W)(v:Int):pF w B0 W0 i pv v bv ds (W.setCell ⟨w.heap.size+3,0,none⟩ (.int .i64 v)):=
 ⟨h.s.m8 v,xX h.r (by omega) _,h.iG.trans (mB h.s.a)⟩
end
structure OC(w:World)(B0:Nat)(W0:World)(i pv av:Int)(bv:Value)(ds:List Nat)(D:Nat)(t:Mv.St)(W:World):Prop where
 s:pE w i pv av bv W
 r0:t.n<2->ah W (w.heap.size+4) 3 1 bv ds.length (gZ ds)
 r1:t.n=1->∀g,t.v= .slice (some ⟨g,0,none⟩) 1 1->W.cell? ⟨g,0,none⟩=some (.int .i64 (D:Int))
 r2:t.n=2->ah W (w.heap.size+4) 3 1 t.v (ds.length+1) (gZ (ds++[D]))
 iG:KeepsFrom B0 W0 W
theorem OC.below{t:Mv.St}{W W':World}(h:OC w B0 W0 i pv av bv ds D t W)(hb:Below W.heap.size W W'):OC w B0 W0 i pv av bv ds D t W':=
 ⟨h.s.below hb,λe=>ah.below (h.r0 e) hb,λe g eg=>(hb.cell (p:=⟨g,0,none⟩) (World.block_lt_of_cell? W _ (h.r1 e g eg))).trans (h.r1 e g eg),λe=>ah.below (h.r2 e) hb,h.iG.trans (Below.keeps hb)⟩
theorem pF.start{W:World}(h:pF w B0 W0 i pv av bv ds W):OC w B0 W0 i pv av bv ds D ⟨0,undef⟩ W:=
 ⟨h.s,λ_=>h.r,(λe=>by cases e),(λe=>by cases e),h.iG⟩
theorem lz(v:Int)(W:World):(Instr.buildSlice 37 1 #[(0,.int .i64 v)]).run Tryz.prog W= .ok (.slice (some ⟨W.heap.size,0,none⟩) 1 1) (W.alloc (.cells #[.int .i64 v] 3)):=by kernel_rfl
theorem Ao:(Tryz.prog.info? 3).map (·.size)=some 1:=by kernel_rfl
theorem vL:(Tryz.prog.info? 37).map (·.size)=some 1:=by kernel_rfl
theorem pW(ds:List Nat)(D k:Nat)(hk:k<ds.length):gZ ds k=gZ (ds++[D]) k:=by
 unfold gZ;rw[List.getD_eq_getElem?_getD,List.getD_eq_getElem?_getD,List.getElem?_append_left hk]
theorem pU(ds:List Nat)(D:Nat):gZ (ds++[D]) ds.length=[.int .i64 (D:Int)]:=by
 unfold gZ;rw[List.getD_eq_getElem?_getD,List.getElem?_append_right (Nat.le_refl _),Nat.sub_self];rfl
theorem z4{fn:Func}(h:fn.results= #[.cell 2 3,.cell 3 37,.tmp 4])(tmps:Array Value)(W:World)(b2 b3:Nat)(u v x:Value)
  (hp2:tmps.getD 2 undef= .pointer (some ⟨b2,0,none⟩)) (hp3:tmps.getD 3 undef= .pointer (some ⟨b3,0,none⟩)) (FX:tmps.getD 4 undef=x)
  (h2:W.cell? ⟨b2,0,none⟩=some u) (h3:W.cell? ⟨b3,0,none⟩=some v) (hu:u.oneCell'=true) (hv:v.oneCell'=true):(results fn tmps).run Tryz.prog W= .ok (.tuple #[u,v,x]) W:=by
 have Va:tmps[2]?.getD undef= .pointer (some ⟨b2,0,none⟩):=by simpa using hp2
 have U7:tmps[3]?.getD undef= .pointer (some ⟨b3,0,none⟩):=by simpa using hp3
 have U6:tmps[4]?.getD undef=x:=by simpa using FX
 simp[results,h,Va,U7,U6,go_sem,h2,h3]
structure KA(w:World)(i pv av:Int)(a:Option Addr)(n cap:Nat)(f:Nat->List Value)(D:Nat)(W:World):Prop where
 s:pE w i pv av (.slice a n cap) W
 r:ah W (w.heap.size+4) 3 1 (.slice a n cap) n f
 d:W.heap[D]? =some (.deferred (some []))
section
variable {w:World} {i pv av:Int} {a:Option Addr} {n cap:Nat} {f:Nat->List Value} {D:Nat} {W:World}
theorem KA.n9(h:KA w i pv av a n cap f D W)(hD:w.heap.size+4<=D):KA w i pv av a n cap f D (W.setCell ⟨w.heap.size+1,0,none⟩ (.int .i64 pv)):=
 ⟨h.s.n9 pv,xX h.r (by omega) _,((an.setCell W ⟨w.heap.size+1,0,none⟩ (.int .i64 pv)).block D (by show D≠w.heap.size+1;omega)).trans h.d⟩
theorem KA.m7(h:KA w i pv av a n cap f D W)(hD:w.heap.size+4<=D):KA w i pv av a n cap f D (W.setCell ⟨w.heap.size+2,0,none⟩ (.slice a n cap)):=
 ⟨h.s.m7 _,xX h.r (by omega) _,((an.setCell W ⟨w.heap.size+2,0,none⟩ (.slice a n cap)).block D (by show D≠w.heap.size+2;omega)).trans h.d⟩
end
set_option maxRecDepth 100000 in
set_option maxHeartbeats 8000000 in
theorem CV(i:Nat)(hi:i<65536)(w:World):Calls Tryz.prog 96 #[.int .i64 (i:Int)] w λe w'=>∃a c,e= .returned (.tuple #[.int .i64 ((Im.bC i:Nat):Int),.slice a (Im.bE i).length c,.int .i64 0])/\
   cY w' a 1 (Im.bE i).length (gZ (Im.bE i))/\Below w.heap.size w w':=by
 refine(callsIn_wide (n:=5)).1 (callsIn_of_wp_marks Tryz.func96 rfl trivial ?_ rfl);refine wpIn_wide.2 ?_;simp only[Tryz.ntmps96,List.size_toArray,List.length_cons,List.length_nil,Nat.reduceAdd,Nat.reduceSub,Array.replicate_succ,Array.replicate_zero,List.push_toArray,List.append_toArray,List.nil_append,List.cons_append];have st0:Hid (Xf w (i:Int) (((w.alloc (.cells #[.int .i64 (i:Int)] 3)).alloc (.cells #[.int .i64 0] 3)).alloc (.cells #[.slice none 0 0] 37))):=by
  refine⟨((At.new w _ _).alloc _).alloc _,?_,?_,(((Below.refl _ _).alloc (Nat.le_refl _) _).alloc (by simp) _).alloc (by simp;omega) _,by simp⟩
  ·have:=(At.new (w.alloc (.cells #[.int .i64 (i:Int)] 3)) 3 #[.int .i64 0]).alloc (.cells #[.slice none 0 0] 37)
   simpa only[World.size_alloc] using this
  ·have:=At.new ((w.alloc (.cells #[.int .i64 (i:Int)] 3)).alloc (.cells #[.int .i64 0] 3)) 37 #[.slice none 0 0]
   simpa only[World.size_alloc] using this
 have h1:¬(i:Int)<0:=by omega
 have h2:¬(65536:Int)<=(i:Int):=by omega
 have hd1:decide ((i:Int)<0)=false:=decide_eq_false h1;have hd2:decide ((65536:Int)<=(i:Int))=false:=decide_eq_false h2;obtain⟨W0,hW0⟩:∃W0,W0=(((w.alloc (.cells #[.int .i64 (i:Int)] 3)).alloc (.cells #[.int .i64 0] 3)).alloc (.cells #[.slice none 0 0] 37)):=⟨_,rfl⟩;rw[<-hW0] at st0;have hsz:=st0.out.sz;have cI:=st0.out.i.cell (i:=0) (v:=.int .i64 (i:Int)) rfl;have cf:=hid (st0.out.ofS);have Hy:=hid hW0;clear st0 hW0;go_wp2_with fail;rw[<-Hy.out]
 go_step3
 go_wp2_with fail
 go_step3
 go_wp2_with fail;refine(kb _).mono ?_;rintro e w1 ⟨rfl,rfl⟩;go_wp2_with fail;have hW1:w.heap.size+4=(W0.alloc (.cells #[.int .i64 0] 3)).heap.size:=by rw[World.size_alloc,hsz]
 obtain⟨W1,Q7⟩:∃W1,W1=W0.alloc (.cells #[.int .i64 0] 3):=⟨_,rfl⟩;rw[<-Q7] at cf hW1 ⊢;clear Q7 Hy cI hsz h1 h2 hd1 hd2;have hB:w.heap.size<=W1.heap.size:=by omega
 apply xe (gf:=161) (lb:=#[]) rfl (enters_of Tryz.func161 (by kernel_rfl) rfl)
  (lV 4 (by decide)) (λk=>rfl)
  (λk W=>ev k<=i/\pE w (i:Int) 0 0 (.slice none 0 0) W)
  (λc k W=>c= .exit 0/\(ev k<=i/\i<ev (k+1))/\∃(bv:Value) (av:Int),pE w (i:Int) (k:Int) av bv W/\ah W (w.heap.size+4) 3 1 bv (BQ (Im.lvl k) (i-ev k)).length (gZ (BQ (Im.lvl k) (i-ev k))))
  (λk=>(Kept.pure _ _).and (pE.kept hB))
  (λc k=>(Kept.pure _ _).and ((Kept.pure _ _).and (Kept.ex λbv=>Kept.ex λav=>(pE.kept hB).and Kept.own)))
  (λk=>Kept.pure _ True)
  ⟨Nat.zero_le _,cf.out⟩ trivial
 case assign=>
  intro l k W K hk hK;dsimp only[Bn]
  gi_wp2
  exact hK
 case body=>
  rintro l k Wr hk ⟨hle,st⟩ _;have ST:Hid (pF w W1.heap.size Wr (i:Int) 0 0 (.slice none 0 0) [] Wr):=⟨st,ah.nil _ _ _ _ _,KeepsFrom.refl _ _⟩;clear cf st;have VQ:=jx hk;have QV:=qc (k+1);obtain⟨F,hF⟩:∃F,F=ev k:=⟨_,rfl⟩;obtain⟨G,hG⟩:∃G,G=ev (k+1):=⟨_,rfl⟩;have hlv:=rk hk;obtain⟨lv,Js⟩:∃lv,lv=Im.lvl k:=⟨_,rfl⟩;obtain⟨sp,hsp⟩:∃sp,sp=Im.fL lv:=⟨_,rfl⟩;rw[<-hF] at hle;rw[<-hF,<-hG,<-Js,<-hsp] at VQ;rw[<-hG] at QV;rw[<-Js] at hlv;have HF:=hid hF;have HG:=hid hG;have HLV:=hid Js;have TM:=hid hsp;have Nq:(F:Int)<=65536:=by omega
  have Ln:(G:Int)<=300000:=by omega
  rw[<-hF];clear hF hG Js hsp QV
  gi_wp2_with (first|(refine⟨trivial,?_⟩;gi_at_call 131;refine(CallsIn.inRound l (callsIn_wide.2 (gS k (by omega) _))).mono ?_;rintro e w' ⟨rfl,rfl⟩))
  rw[<-HLV.out]
  gi_wp2
  refine Mv.kA (λ(_:Mv.St) W=>pF w W1.heap.size Wr (i:Int) 0 0 (.slice none 0 0) [] W) ⟨0,undef⟩ (by kernel_rfl) (by kernel_rfl) (by kernel_rfl) (by kernel_rfl) (ST.out.drew _) ?_;clear ST;intro hne;have hc:∀y:aT (λW=>∃s:Mv.St,pF w W1.heap.size Wr (i:Int) 0 0 (.slice none 0 0) [] W),y.W.cell? ⟨w.heap.size,0,none⟩=some (.int .i64 (i:Int)):=λy=>by obtain⟨_,h⟩:=y.h;exact h.s.i.cell (i:=0) rfl
  (refine Mv.aO 3 (by kernel_rfl) ?_;simp only[List.take,List.drop])
  iterate 3 go_big_quiet_step (fail)
  refine wpQuiet_nil ?_;refine Mv.bR rfl rfl 142 #[.int .i64 (lv:Int)] (.int .i64 (sp:Int)) ⟨0,undef⟩ (λW=>by kernel_rfl) (λW hW=>(gv lv hlv W).mono λe w' h=>⟨show e= .returned (.int .i64 (sp:Int)) by rw[h.1,TM.out],h.2▸hW⟩) ?_;refine Mv.frame ?_
  (refine Mv.aO 2 (by kernel_rfl) ?_;simp only[List.take,List.drop])
  iterate 2 go_big_quiet_step (fail)
  refine wpQuiet_nil ?_;refine Mv.bu ?_;intro W5 h5;have ec:=hid h5;have HFX:=hid VQ;clear h5 hne hc VQ
  by_cases hlt:i<G
  rotate_left
  ·have hge:decide (G<=i)=true:=decide_eq_true (by omega)
   gi_wp2
   exact⟨ec.out.iG,⟨by rw[<-HG.out];omega,ec.out.s⟩,trivial⟩
  have hge:decide (G<=i)=false:=decide_eq_false (by omega);obtain⟨A0,hA0⟩:∃A0,A0=i-F:=⟨_,rfl⟩;have O4:(A0:Int)<=65536:=by omega
  have uK:=hid hA0;have L4:Hid ((i:Int)-(F:Int)=(A0:Int)):=by show _=_;omega
  clear hA0
  gi_wp2
  have hAi:=L4.out;refine Mv.kA (λ(t:Mv.St) W=>pF w W1.heap.size Wr (i:Int) (if t.n>=1 then(k:Int) else 0) (if t.n>=2 then(A0:Int) else 0) (.slice none 0 0) [] W) ⟨0,undef⟩ (by kernel_rfl) (by kernel_rfl) (by kernel_rfl) (by kernel_rfl) (ec.out.drew _) ?_;clear ec;intro hne;have hc:∀y:aT (λW=>∃t:Mv.St,pF w W1.heap.size Wr (i:Int) (if t.n>=1 then(k:Int) else 0) (if t.n>=2 then(A0:Int) else 0) (.slice none 0 0) [] W),y.W.cell? ⟨w.heap.size,0,none⟩=some (.int .i64 (i:Int)):=λy=>by obtain⟨_,h⟩:=y.h;exact h.s.i.cell (i:=0) rfl
  (refine Mv.aO 4 (by kernel_rfl) ?_;simp only[List.take,List.drop])
  iterate 4 go_big_quiet_step (fail)
  refine wpQuiet_nil ?_;refine Mv.fj rfl 3 (.tmp 2) (.tmp 27) rfl (w.heap.size+1) 0 (.int .i64 (k:Int)) rfl rfl Ao rfl ⟨1,undef⟩ (λW' hW=>⟨⟨_,hW.s.p.cell (i:=0) rfl⟩,ag hW.s.p 0,hW.n9 _⟩) ?_;refine Mv.frame ?_ (by simp only[Act.put];exact rfl);refine Mv.fj rfl 3 (.tmp 5) (.tmp 30) rfl (w.heap.size+3) 0 (.int .i64 (A0:Int)) rfl rfl Ao rfl ⟨2,undef⟩ (λW' hW=>⟨⟨_,hW.s.a.cell (i:=0) rfl⟩,ag hW.s.a 0,hW.m8 _⟩) ?_;refine Mv.frame ?_ (by simp only[Act.put];exact rfl);refine Mv.bu ?_;intro W6 h6;have iW:Hid (pF w W1.heap.size Wr (i:Int) (k:Int) (A0:Int) (.slice none 0 0) [] W6):=h6;clear h6 hne hc hAi
  gi_wp2
  gi_loopw [9] (λu wr=>∃(r:Nat) (ds:List Nat) (a:Nat) (bv:Value),u= .int .i64 ((r:Int)-1)/\r<=3/\a<=65536/\ds++BQ r a=BQ lv A0/\ds.length+r=lv/\pF w W1.heap.size Wr (i:Int) (k:Int) (a:Int) bv ds wr) (λu _=>(intOf u+1).toNat)
  case atStart=>exact⟨lv,[],A0,.slice none 0 0,rfl,hlv,by omega,rfl,by simp,iW.out⟩
  case round=>
   clear iW O4 hge;obtain⟨r,ds,a,bv,rfl,hr,ha,tX,JB,st⟩:=hrel;have ST:=hid st;have XO:=hid tX;have HDL:=hid JB;clear st tX
   by_cases BF:r=0
   ·subst BF
    have DX:Hid (ah wr (w.heap.size+4) 3 1 bv (BQ (Im.lvl k) (i-ev k)).length (gZ (BQ (Im.lvl k) (i-ev k)))):=by
     have e:ds=BQ (Im.lvl k) (i-ev k):=by
      have:=XO.out;rw[BQ,List.append_nil,HLV.out,uK.out,HF.out] at this;exact this
     show ah _ _ _ _ _ _ _;rw[<-e];exact ST.out.r
    have hneg:(((0:Nat):Int)-1<0):=by omega
    clear JB
    gi_wp2
    exact⟨ST.out.iG,rfl,⟨by rw[<-HF.out];exact hle,by rw[<-HG.out];exact hlt⟩,bv,_,ST.out.s,DX.out⟩
   obtain⟨r,rfl⟩:∃r',r=r'+1:=⟨r-1,by omega⟩;have e1:((r+1:Nat):Int)-1=(r:Int):=by omega
   rw[e1];have r0:(0:Int)<=(r:Int):=by omega
   have r9:(r:Int)<=2:=by omega
   obtain⟨S2,Ho⟩:∃S2,S2=Im.fL r:=⟨_,rfl⟩;have JH:1<=S2/\S2<=262144:=by rw[Ho];exact Mg (by omega)
   obtain⟨D,hD⟩:∃D,D=a/S2:=⟨_,rfl⟩;obtain⟨R,hR⟩:∃R,R=a%S2:=⟨_,rfl⟩;have Sk:Hid ((a:Int).tdiv (S2:Int)=(D:Int)):=by show _=_;rw[Int.tdiv_eq_ediv_of_nonneg (by omega),hD];rfl
   have TP:Hid ((a:Int).tmod (S2:Int)=(R:Int)):=by show _=_;rw[Int.tmod_eq_emod_of_nonneg (by omega),hR];rfl
   have hD9:D<=65536:=by rw[hD];exact Nat.le_trans (Nat.div_le_self _ _) ha
   have jf:R<=65536:=by rw[hR];exact Nat.le_trans (Nat.mod_le _ _) ha
   have SC:Hid ((ds++[D])++BQ r R=BQ lv A0):=by
    show _=_;rw[<-XO.out,BQ,hD,hR,Ho,List.append_assoc];rfl
   have jA:=hid Ho;have adl:ds.length<=2:=by omega
   clear hD hR Ho e1 JB BF XO hlt
   gi_wp2
   refine Mv.kB (OC w W1.heap.size Wr (i:Int) (k:Int) (a:Int) bv ds D) ⟨0,undef⟩ 7 (by kernel_rfl) (by kernel_rfl) (by kernel_rfl) (by kernel_rfl) (by kernel_rfl) (by kernel_rfl) (by kernel_rfl) (by decide) (ST.out.start.below ⟨rfl,rfl,rfl,Nat.le_refl _,λ_ _=>rfl⟩) ?_;clear ST;simp only[List.take,List.drop];intro hne;have hcb:∀y:aT (λW=>∃t,OC w W1.heap.size Wr (i:Int) (k:Int) (a:Int) bv ds D t W),y.W.cell? ⟨w.heap.size+1+1,0,none⟩=some bv:=λy=>by obtain⟨_,h⟩:=y.h;exact h.s.b.cell (i:=0) rfl
   have JD:∀y:aT (λW=>∃t,OC w W1.heap.size Wr (i:Int) (k:Int) (a:Int) bv ds D t W),y.W.cell? ⟨w.heap.size+3,0,none⟩=some (.int .i64 (a:Int)):=λy=>by obtain⟨_,h⟩:=y.h;exact h.s.a.cell (i:=0) rfl
   (refine Mv.aO 3 (by kernel_rfl) ?_;simp only[List.take,List.drop])
   iterate 3 go_big_quiet_step (fail)
   refine wpQuiet_nil ?_;refine Mv.bR rfl rfl 142 #[.int .i64 (r:Int)] (.int .i64 (S2:Int)) ⟨0,undef⟩ (λW=>by kernel_rfl) (λW hW=>(gv r (by omega) W).mono λe w' h=>⟨show e= .returned (.int .i64 (S2:Int)) by rw[h.1,jA.out],h.2▸hW⟩) ?_;refine Mv.frame ?_;have hq1:=Sk.out;have hs0:¬(S2:Int)=0:=by omega
   (refine Mv.aO 1 (by kernel_rfl) ?_;simp only[List.take,List.drop])
   go_big_quiet_step (fail)
   refine wpQuiet_nil ?_;refine Mv.jS rfl _ _ _ _ rfl λW hW=>⟨_,_,⟨1,.slice (some ⟨W.heap.size,0,none⟩) 1 1⟩,lz (D:Int) W,?_,?_⟩
   ·have hb:Below W.heap.size W (W.alloc (.cells #[.int .i64 (D:Int)] 3)):=(Below.refl _ _).alloc (Nat.le_refl _) _
    refine⟨hW.s.below hb,λ_=>ah.below (hW.r0 (by decide)) hb,?_,(λe=>by cases e),hW.iG.trans (Below.keeps hb)⟩;intro _ g eg;injection eg with h1 h2 h3;injection h1 with h1;injection h1 with h1;subst h1
    exact(At.new W 3 #[.int .i64 (D:Int)]).cell (i:=0) rfl
   generalize W.heap.size=g0 at*;clear hW;refine Mv.frame ?_;refine Mv.jT rfl _ _ _ rfl λW hW=> ?_
   have hown:=hW.r0 (by show(1:Nat)<2;decide);obtain⟨i0,hi0,hz0,hz1,hz2⟩:=oz;obtain⟨v',w',hr',ho,hg,_⟩:=run_append_own (P:=Tryz.prog) W (w.heap.size+4) 37 37 3 i0 (.int .i64 0) 1 8 Tryz.underlying37 hi0 hz0 hz1 hz2 (by rfl) (by decide) bv ds.length (Cs (gZ ds) ds.length) hown ⟨g0,0,none⟩ 1 1 [.int .i64 (D:Int)] (by rfl)
    (λj u hu=>by
     cases j with
     |zero=>
      injection hu with hu
      subst hu;exact hW.r1 rfl g0 rfl
     |succ j=>cases hu) (λu hu=>by simp at hu;subst hu;rfl) (by unfold maxLen;omega) (by omega) (by have:=hW.s.a.lt;omega)
   refine⟨v',w',⟨2,v'⟩,hr',?_,?_⟩
   ·have hwr:ah w' (w.heap.size+4) 3 1 v' (ds.length+1) (gZ (ds++[D])):=by
     refine ah.append (f:=gZ (ds++[D])) (news:=[.int .i64 (D:Int)]) ?_ ?_
     ·rw[<-gC λk hk=>pW ds D k hk];exact ho
     ·show _=Cs _ 1
      rw[lN];show _=[]++gZ (ds++[D]) (ds.length+0);rw[Nat.add_zero,pU];rfl
    exact⟨hW.s.grown hown hg,(λh=>absurd h (by show¬(2:Nat)<2;decide)),(λh=>by cases h),λ_=>hwr,hW.iG.trans (De hown hg)⟩
   clear hr' ho hg hW hown;refine Mv.frame ?_;refine Mv.bu ?_;intro W6 h6;obtain⟨va,vc,hv'⟩:=ah.form (h6.r2 rfl)
   replace hv':v'= .slice va (ds.length+1) vc:=hv'
   subst hv';have cb6:W6.cell? ⟨w.heap.size+1+1,0,none⟩=some bv:=h6.s.b.cell (i:=0) rfl;have fb6:W6.frozen? ⟨w.heap.size+1+1,0,none⟩=false:=ag h6.s.b 0;have Ek:Hid (pF w W1.heap.size Wr (i:Int) (k:Int) (a:Int) (.slice va (ds.length+1) vc) (ds++[D]) (W6.setCell ⟨w.heap.size+1+1,0,none⟩ (.slice va (ds.length+1) vc))):=by
    refine⟨h6.s.m7 _,?_,h6.iG.trans (mB h6.s.b)⟩;rw[List.length_append];exact xX (h6.r2 rfl) (by omega) _
   clear h6 hne hcb JD hq1;go_wp2_with fail;refine Mv.Nm.mk ?_;clear cb6 fb6;generalize (W6.setCell ⟨w.heap.size+1+1,0,none⟩ (.slice va (ds.length+1) vc))=W7 at*
   gi_wp2
   refine Mv.kB (λ(_:Mv.St) W=>pF w W1.heap.size Wr (i:Int) (k:Int) (a:Int) (.slice va (ds.length+1) vc) (ds++[D]) W) ⟨0,undef⟩ 4 (by kernel_rfl) (by kernel_rfl) (by kernel_rfl) (by kernel_rfl) (by kernel_rfl) (by kernel_rfl) (by kernel_rfl) (by decide) (Ek.out.drew _) ?_;clear Ek;simp only[List.take,List.drop];intro hne;have JD:∀y:aT (λW=>∃_:Mv.St,pF w W1.heap.size Wr (i:Int) (k:Int) (a:Int) (.slice va (ds.length+1) vc) (ds++[D]) W),y.W.cell? ⟨w.heap.size+3,0,none⟩=some (.int .i64 (a:Int)):=λy=>by obtain⟨_,h⟩:=y.h;exact h.s.a.cell (i:=0) rfl
   (refine Mv.aO 2 (by kernel_rfl) ?_;simp only[List.take,List.drop])
   iterate 2 go_big_quiet_step (fail)
   refine wpQuiet_nil ?_;refine Mv.bR rfl rfl 142 #[.int .i64 (r:Int)] (.int .i64 (S2:Int)) ⟨0,undef⟩ (λW=>by kernel_rfl) (λW hW=>(gv r (by omega) W).mono λe w' h=>⟨show e= .returned (.int .i64 (S2:Int)) by rw[h.1,jA.out],h.2▸hW⟩) ?_;refine Mv.frame ?_;have hq2:=TP.out
   (refine Mv.aO 1 (by kernel_rfl) ?_;simp only[List.take,List.drop])
   go_big_quiet_step (fail)
   refine wpQuiet_nil ?_;refine Mv.bu ?_;intro W8 h8;have ca8:W8.cell? ⟨w.heap.size+3,0,none⟩=some (.int .i64 (a:Int)):=h8.s.a.cell (i:=0) rfl;have fa8:W8.frozen? ⟨w.heap.size+3,0,none⟩=false:=ag h8.s.a 0;have nW:Hid (pF w W1.heap.size Wr (i:Int) (k:Int) (R:Int) (.slice va (ds.length+1) vc) (ds++[D]) (W8.setCell ⟨w.heap.size+3,0,none⟩ (.int .i64 (R:Int)))):=h8.m8 _;clear h8 hne JD hq2 hs0;go_wp2_with fail;refine Mv.Nm.mk ?_;clear ca8 fa8;generalize (W8.setCell ⟨w.heap.size+3,0,none⟩ (.int .i64 (R:Int)))=W9 at*
   gi_wp2
   go_roundw
   case rel=>(try((repeat apply Exists.intro);refine⟨?_,rfl⟩));exact⟨r,ds++[D],R,.slice va (ds.length+1) vc,rfl,by omega,jf,SC.out,by rw[List.length_append];have:=HDL.out;show ds.length+1+r=lv;omega,nW.out⟩
   case measure=>simp[intOf]<;>omega
 case done=>
  rintro D W hD ⟨h,_⟩ _;exact absurd h (by show¬ev 11<=i;unfold ev;simp;omega)
 case stop=>
  rintro D c k W hD hk ⟨rfl,⟨hl,hh⟩,bv,av,st,hr⟩ hK;have UN:=Iq hi hk hl hh;have Dv:Im.fst k=ev k:=nK (by omega);have hwb:Im.bE i=BQ (Im.lvl k) (i-ev k):=by rw[Ex,UN,Dv]
  rw[<-hwb] at hr;obtain⟨a,cap,rfl⟩:=ah.form hr;have HWP:=hid UN;have D1:Hid (w.heap.size+4<=D):=by show _<=_;omega
  have ST:=hid st;have HR:=hid hr;have HK:=hid hK;clear UN Dv hwb st hr hK hW1 hB cf hl hh;dsimp only;go_wp2_with fail;refine Mv.bs (λ(_:Mv.St) W=>KA w (i:Int) (k:Int) av a (Im.bE i).length cap (gZ (Im.bE i)) D W) ⟨0,undef⟩ (by kernel_rfl) (by kernel_rfl) (by kernel_rfl) ⟨ST.out.below ⟨rfl,rfl,rfl,Nat.le_refl _,λ_ _=>rfl⟩,HR.out,HK.out⟩ ?_;clear ST HR HK;intro hne;have hcp:∀y:aT (λW=>∃_:Mv.St,KA w (i:Int) (k:Int) av a (Im.bE i).length cap (gZ (Im.bE i)) D W),y.W.cell? ⟨w.heap.size+1,0,none⟩=some (.int .i64 (k:Int)):=λy=>by obtain⟨_,h⟩:=y.h;exact h.s.p.cell (i:=0) rfl
  have hcb:∀y:aT (λW=>∃_:Mv.St,KA w (i:Int) (k:Int) av a (Im.bE i).length cap (gZ (Im.bE i)) D W),y.W.cell? ⟨w.heap.size+1+1,0,none⟩=some (.slice a (Im.bE i).length cap):=λy=>by obtain⟨_,h⟩:=y.h;exact h.s.b.cell (i:=0) rfl
  (refine Mv.aO 2 (by kernel_rfl) ?_;simp only[List.take,List.drop])
  iterate 2 go_big_quiet_step (fail)
  refine wpQuiet_nil ?_;refine Mv.fj rfl 3 (.tmp 2) (.tmp 48) rfl (w.heap.size+1) 0 (.int .i64 (k:Int)) rfl rfl Ao rfl ⟨1,undef⟩ (λW' hW=>⟨⟨_,hW.s.p.cell (i:=0) rfl⟩,ag hW.s.p 0,hW.n9 D1.out⟩) ?_;refine Mv.frame ?_ (by simp only[Act.put];exact rfl);refine Mv.fj rfl 37 (.tmp 3) (.tmp 49) rfl (w.heap.size+2) 0 (.slice a (Im.bE i).length cap) rfl rfl vL rfl ⟨2,undef⟩ (λW' hW=>⟨⟨_,hW.s.b.cell (i:=0) rfl⟩,ag hW.s.b 0,hW.m7 D1.out⟩) ?_;refine Mv.frame ?_ (by simp only[Act.put];exact rfl)
  (refine Mv.aO 1 (by kernel_rfl) ?_;simp only[List.take,List.drop])
  go_big_quiet_step (fail)
  refine wpQuiet_nil ?_;refine Mv.bu ?_;intro W2 h2;have hp2:=h2.s.p.cell (i:=0) (v:=.int .i64 (k:Int)) rfl;have hb2:=h2.s.b.cell (i:=0) (v:=.slice a (Im.bE i).length cap) rfl;have rp2:=dp (D:=D) (o':=.deferred none) h2.d rfl hp2;have rb2:=dp (D:=D) (o':=.deferred none) h2.d rfl hb2;have H2:=hid h2;clear h2 hne hcp hcb hp2 hb2;go_wp2_with fail;rw[Exit.noGoto_ret];refine dB (v:=.tuple #[.int .i64 (k:Int),.slice a (Im.bE i).length cap,.int .i64 0]) (D:=D) H2.out.d (z4 rfl _ _ (w.heap.size+1) (w.heap.size+2) _ _ _ rfl rfl rfl rp2 rb2 rfl rfl) ⟨a,cap,by rw[HWP.out],?_,eG H2.out.s.bel _ (Nat.le_refl _) (by have:=D1.out;omega)⟩;exact ah.row (show ah (W2.putObj D (.deferred none)) (w.heap.size+4) 3 1 (.slice a (Im.bE i).length cap) (Im.bE i).length (gZ (Im.bE i)) from Kept.own (B:=0) _ _ (some D) H2.out.r (grownBy_putObj' W2 D (.deferred none)) (λr e=>by cases e;exact⟨Nat.zero_le _,_,H2.out.d,rfl⟩)) (pV _)
end
end Go.Proofs.YtphamecphmbipaaGreatDoor
