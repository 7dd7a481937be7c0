/- Texts of this claim, merged. -/
import Derived.Test.YtphamecphmbipaaGreatDoorZ33
set_option linter.unusedVariables false
set_option maxRecDepth 100000
set_option maxHeartbeats 16000000

namespace Go.Proofs.YtphamecphmbipaaGreatDoor
open Go.RowKit
variable {p off cap r ci:Nat} {x:Im} {ds ay pt v:Value} {W' w:World} {l:List (Nat×ByteArray)}
theorem Vl.Je{P:Program}{W:World}{o:Oper}{a:Act}(f:FuncId)(x y z:Operand)(MD:Array TypeId)(u v t:Value)(ho:o.op= .call {callee:=.value (.func f),args:=#[x,y,z],argTypes:=MD})(hx:a.eval x=u)(hy:a.eval y=v)(hz:a.eval z=t)
  (hr:((do let d<-Deferred.ofValue (a.eval (.func f)) #[u,v,t];invoke d.target d.args):Sem Next).run P W= .ok (.enter f #[u,v,t]) W):(execOp a.eval o).run P W= .ok (.enter f #[u,v,t]) W:=by
 rw[<-hr];unfold execOp;rw[ho];simp only[resolve];simp[hx,hy,hz]
structure xp(p b off cap:Nat)(x:Im)(ds:Value)(r ci:Nat)(ay pt:Value)(Q:List Im.Pt)(W:World):Prop where
 i:sK p b off cap x ds r ci ay pt W
 q:KX p Q pt W
theorem xp.below{b:Nat}{Q:List Im.Pt}{W:World}(h:xp p b off cap x ds r ci ay pt Q W)(hb:Below W.heap.size W W'):xp p b off cap x ds r ci ay pt Q W':=⟨h.i.below hb,h.q.below hb⟩
structure oq(w:World)(p b off cap:Nat)(x:Im)(ds:Value)(r ci:Nat)(ay pt:Value)(Q:List Im.Pt)(W:World):Prop where
 k:xp p b off cap x ds r ci ay pt Q W
 bel:Below w.heap.size w W
theorem oq.below{b:Nat}{Q:List Im.Pt}{W:World}(h:oq w p b off cap x ds r ci ay pt Q W)(hb:Below W.heap.size W W'):oq w p b off cap x ds r ci ay pt Q W':=⟨h.k.below hb,h.bel.trans (hb.mono h.bel.size)⟩
def k8(p q A B:Nat)(D bit:Bool)(own:Nat)(i:Nat):Option Value:=match i with
 |0=>some (.pointer (some ⟨p,0,none⟩))
 |1=>some (.int .i64 (q:Int))
 |2=>some (.bool D)
 |3=>some (.bool D)
 |4=>if D then some (.pointer (some ⟨p,0,none⟩)) else none
 |5=>if D then some (.int .i64 (A:Int)) else none
 |7=>if D then some (.int .i64 (B:Int)) else none
 |9=>if D then some (.bool bit) else none
 |10=>if D then some (.pointer (some ⟨p,0,none⟩)) else none
 |11=>if D then some (.int .i64 (q:Int)) else none
 |12=>if D then some (.int .i64 (own:Int)) else none
 |13=>if D then some (.bool (decide (0<own))) else none
 |14=>if D then some (.bool (bit !=decide (0<own))) else none
 |15=>some (.bool (D&&(bit !=decide (0<own))))
 |_=>none
structure Mc(p q A B:Nat)(D bit:Bool)(z:Nat->Int)(own:Nat)(i:Nat)(v:Value)(W:World):Prop where
 k:∀u,k8 p q A B D bit own i=some u->v=u
 s:i=6->D=true->∃g,v= .slice (some ⟨g,0,none⟩) 2048 2048/\aE W g 4 1 2048 (kH (bt z))
 a:i=8->D=true->∃g,v= .pointer (some ⟨g,0+B*1,none⟩)/\aE W g 4 1 2048 (kH (bt z))
section
variable {p q A B:Nat} {D bit:Bool} {z:Nat->Int} {own i:Nat} {v:Value} {W W':World}
theorem Mc.below(h:Mc p q A B D bit z own i v W)(hb:Below W.heap.size W W'):Mc p q A B D bit z own i v W':=
 ⟨h.k,λe1 e2=>by obtain⟨g,h1,h2⟩:=h.s e1 e2;exact⟨g,h1,h2.below hb⟩,λe1 e2=>by obtain⟨g,h1,h2⟩:=h.a e1 e2;exact⟨g,h1,h2.below hb⟩⟩
theorem Mc.c(h:k8 p q A B D bit own i=some v)(h6:i≠6)(h8:i≠8):Mc p q A B D bit z own i v W:=⟨λu hu=>by rw[h] at hu;injection hu,λe=>absurd e h6,λe=>absurd e h8⟩
theorem Mc.u(e:D≠true)(h:k8 p q A B false bit own i=none):Mc p q A B D bit z own i v W:=by
 cases D with
 |true=>exact absurd rfl e
 |false=>exact⟨λu hu=>(by rw[h] at hu;cases hu),(λ_ e2=>by cases e2),λ_ e2=>by cases e2⟩
end
theorem xY(hx:x.Ok)(p b off cap:Nat)(ds:Value)(r ci:Nat)(ay pt:Value)(Q:List Im.Pt)(hQ9:Q.length<=2048)(hQi:∀c,Im.bN Q c<=256)(w:World)(h:xp p b off cap x ds r ci ay pt Q w):
  Calls Tryz.prog 119 #[.pointer (some ⟨p,0,none⟩)] w λe w'=>e= .returned (.bool (aK (x.uL (Im.bN Q)) x.g))/\Below w.heap.size w w':=by
 have HX:=ah hx;have gi:=hx.iK;have HR8:Hd (aK (x.vD (Im.bN Q)) x.n=aK (x.uL (Im.bN Q)) x.g):=Im.rk8 hx _;have dt:Hd (oq w p b off cap x ds r ci ay pt Q w):=⟨h,Below.refl _ _⟩;rw[<-HR8.Z];clear h hx;go_enter Tryz.func119,Tryz.ntmps119;go_wp2_with fail;go_loopw [3,4,5,6] (λu _ _ _ wr=>∃k:Nat,k<=x.n/\u= .int .i64 (k:Int)/\(∀j,j<k->x.vD (Im.bN Q) j=true)/\oq w p b off cap x ds r ci ay pt Q wr) (λu _ _ _ _=>x.n-(intOf u).toNat)
 case atStart=>exact⟨0,Nat.zero_le _,rfl,λj h=>by omega,dt.Z⟩
 clear dt;obtain⟨k,hk,rfl,hP,st⟩:=hrel;have HP:=ah hP;have ST:=ah st;have c0:wr.cell? ⟨p,0,none⟩=some (.slice (some ⟨b,off,none⟩) x.n cap):=st.k.i.k.a.cell (i:=0) rfl;clear hP st
 by_cases hlt:k<x.n
 ·have hlt':(k:Int)<(x.n:Int):=by omega
  have hrg:=ST.Z.k.i.k.lT;obtain⟨K,A,B,C,he,hK,Z8⟩:=xE HX.Z hlt;have hnn:=HX.Z.n;have HW:Hd (∀W,Calls Tryz.prog 144 #[bV x.g x.s x.i x.j,.int .i64 (k:Int)] W λe w'=>e= .returned (.tuple #[.int .u8 K,.int .i64 A,.int .i64 B])/\Below W.heap.size W w'):=λW=>mD x.g x.s x.i x.j k HX.Z.may (by rw[<-hnn];exact hlt) K A B C he W
  have HAB:=ah Z8;clear he hK Z8 hnn;go_wp2_with (first|(refine aH rfl 23 (.tmp 19) rfl p 6 (ai x.g x.s x.i x.j).toList _ rfl hrg Tryz.underlying23 rfl (by kernel_rfl) ?_))
  refine(HW.Z wr).mono ?_;rintro e w1 ⟨rfl,hb1⟩;have bh:=ah (ST.Z.below hb1);clear ST hrg hb1 HW c0;go_wp2_with fail;obtain⟨A',hA'⟩:=aa ((k-(2+x.j))/x.s);obtain⟨B',hB'⟩:=aa ((k-(2+x.j))%x.s);have K4:Hd (x.vD (Im.bN Q) k= !(x.data k&&(bt (x.L (x.st A')) B' !=decide (0<Im.bN Q k)))):=by
   show _=_;unfold Im.vD;rw[<-hA',<-hB'];have e1:decide (0<Im.bN Q k)=(Im.bN Q k !=0):=by
    by_cases h:Im.bN Q k=0
    ·simp[h]
    rw[decide_eq_true (by omega)];simp[h]
   rw[e1];cases x.data k<;>cases bt (x.L (x.st A')) B'<;>cases (Im.bN Q k !=0)<;>rfl
  have Mu:Hd (x.data k=true->A=(A':Int)/\B=(B':Int)/\A'<x.g/\B'<2048):=λhd=>by
   obtain⟨e1,e2⟩:=HAB.Z hd;have hm:=dX HX.Z.may;have hnn:=HX.Z.n;refine⟨by rw[e1,hA'],by rw[e2,hB'],?_,?_⟩
   ·rw[hA']
    unfold Im.data at hd;simp only[Bool.and_eq_true,decide_eq_true_eq] at hd;exact(Nat.div_lt_iff_lt_mul (by omega)).2 (by omega)
   rw[hB'];have:(k-(2+x.j))%x.s<x.s:=Nat.mod_lt _ (by omega);omega
  have hOW:=hQi k;have HBI:Hd (∀hA:A'<x.g,∀W,oq w p b off cap x ds r ci ay pt Q W->Calls Tryz.prog 148 #[.pointer (some ⟨p,0,none⟩),.int .i64 (A':Int),.int .i64 0] W λe w'=>∃q,e= .returned (.slice (some ⟨q,0,none⟩) 2048 2048)/\W.heap.size<=q/\aE w' q 4 1 2048 (kH (bt (x.L (x.st A'))))/\Below W.heap.size W w'):=λhA W hW=>gq HX.Z p b off cap ds _ _ _ A' 0 hA (by decide) W hW.k.i.k
  have Ej:Hd (∀W,oq w p b off cap x ds r ci ay pt Q W->Calls Tryz.prog 153 #[.pointer (some ⟨p,0,none⟩),.int .i64 (k:Int)] W λe w'=>e= .returned (.bool (x.data k))/\Below W.heap.size W w'):=λW hW=>rk HX.Z p b off cap ds _ _ _ k W hW.k.i.k
  have HOW:Hd (∀W,oq w p b off cap x ds r ci ay pt Q W->Calls Tryz.prog 74 #[.pointer (some ⟨p,0,none⟩),.int .i64 (k:Int)] W λe w'=>e= .returned (.int .i64 ((Im.bN Q k:Nat):Int))/\Below W.heap.size W w'):=λW hW=>kS p b off cap ds _ _ _ Q (by omega) k W hW.k.i.k hW.k.q
  obtain⟨D,hD⟩:=aa (x.data k);obtain⟨bit,Gy⟩:=aa (bt (x.L (x.st A')) B');obtain⟨own,hown⟩:=aa (Im.bN Q k);rw[<-hD] at K4 Mu Ej;rw[<-Gy] at K4;rw[<-hown] at K4 HOW hOW;have Tj:=ah Gy;clear HAB hA' hB' hD Gy hown;apply Vl.cZ (λi v W=>Mc p k A' B' D bit (x.L (x.st A')) own i v W) (λ_ W=>oq w p b off cap x ds r ci ay pt Q W)
  case hm=>kernel_rfl
  case hd=>kernel_rfl
  case hS=>exactλl l' W he h=>h
  case h0=>exact bh.Z.below ⟨rfl,rfl,rfl,Nat.le_refl _,λ_ _=>rfl⟩
  case hB=>kernel_rfl
  case hst=>
   intro hB;refine⟨?_,?_,?_,?_,?_,?_,?_,?_,?_,?_,?_,?_,?_,?_,?_,?_,trivial⟩
   ·exactλl a1 W hl hu h=>Vl.aJ h hB rfl rfl rfl hl _ (Vl.br (.tmp 0) rfl (h.old 0 (by kernel_rfl))) (.c rfl (by decide) (by decide)) (λs=>s)
   ·exactλl a1 W hl hu h=>Vl.aJ h hB rfl rfl rfl hl _ (Vl.br (.tmp 3) rfl (h.old 3 (by kernel_rfl))) (.c rfl (by decide) (by decide)) (λs=>s)
   ·intro l a1 W hl hu h
    have e1:a1.tmps.getD 26 undef= .pointer (some ⟨p,0,none⟩):=(h.vals 0 26 (aq hu 0) rfl).k _ rfl;have e2:a1.tmps.getD 27 undef= .int .i64 (k:Int):=(h.vals 1 27 (aq hu 1) rfl).k _ rfl;refine Vl.step h hB rfl rfl rfl hl (Vl.il 153 _ (Vl.nI 153 (.tmp 26) (.tmp 27) _ _ _ rfl e1 e2 (by kernel_rfl)) ?_);refine(Ej.Z W h.st).mono ?_;rintro e W' ⟨rfl,hb⟩;exact⟨_,rfl,_,rfl,λi v _ hv=>hv.below hb,.c rfl (by decide) (by decide),oq.below h.st hb⟩
   ·exactλl a1 W hl hu h=>Vl.aJ h hB rfl rfl rfl hl _ (Vl.br (.tmp 28) rfl ((h.vals 2 28 (aq hu 2) rfl).k _ rfl)) (.c rfl (by decide) (by decide)) (λs=>s)
   ·intro l a1 W hl hu h
    exact Vl.stepG h hB rfl 3 true rfl 29 rfl D ((h.vals 3 29 (aq hu 3) rfl).k _ rfl) hl (λe=>by
     subst e;exact eZ (Vl.br (.tmp 0) rfl (h.old 0 (by kernel_rfl))) ⟨_,rfl,λ_ _ _ h=>h,.c rfl (by decide) (by decide),h.st⟩) (λe=>⟨.u e rfl,h.st⟩)
   ·intro l a1 W hl hu h
    exact Vl.stepG h hB rfl 3 true rfl 29 rfl D ((h.vals 3 29 (aq hu 3) rfl).k _ rfl) hl (λe=>by
     subst e;exact eZ (Vl.br (.tmp 5) rfl ((h.old 5 (by kernel_rfl)).trans (show Value.int .i64 A=_ by rw[(Mu.Z rfl).1]))) ⟨_,rfl,λ_ _ _ h=>h,.c rfl (by decide) (by decide),h.st⟩) (λe=>⟨.u e rfl,h.st⟩)
   ·intro l a1 W hl hu h
    refine Vl.stepG h hB rfl 3 true rfl 29 rfl D ((h.vals 3 29 (aq hu 3) rfl).k _ rfl) hl (λe=> ?_) (λe=>⟨.u e rfl,h.st⟩);subst e;have e1:a1.tmps.getD 30 undef= .pointer (some ⟨p,0,none⟩):=(h.vals 4 30 (aq hu 4) rfl).k _ rfl;have e2:a1.tmps.getD 31 undef= .int .i64 (A':Int):=(h.vals 5 31 (aq hu 5) rfl).k _ rfl;refine Vl.il 148 _ (Vl.Je 148 (.tmp 30) (.tmp 31) (.const (.int .i64 0)) _ _ _ _ rfl e1 e2 rfl (by kernel_rfl)) ?_;refine(HBI.Z (Mu.Z rfl).2.2.1 W h.st).mono ?_;rintro e W' ⟨g,rfl,_,hR,hb⟩;exact⟨_,rfl,_,rfl,λi v _ hv=>hv.below hb,⟨(λu hu=>by cases hu),λ_ _=>⟨g,rfl,hR⟩,λe=>by cases e⟩,oq.below h.st hb⟩
   ·intro l a1 W hl hu h
    exact Vl.stepG h hB rfl 3 true rfl 29 rfl D ((h.vals 3 29 (aq hu 3) rfl).k _ rfl) hl (λe=>by
     subst e;exact eZ (Vl.br (.tmp 6) rfl ((h.old 6 (by kernel_rfl)).trans (show Value.int .i64 B=_ by rw[(Mu.Z rfl).2.1]))) ⟨_,rfl,λ_ _ _ h=>h,.c rfl (by decide) (by decide),h.st⟩) (λe=>⟨.u e rfl,h.st⟩)
   ·intro l a1 W hl hu h
    refine Vl.stepG h hB rfl 3 true rfl 29 rfl D ((h.vals 3 29 (aq hu 3) rfl).k _ rfl) hl (λe=> ?_) (λe=>⟨.u e rfl,h.st⟩);subst e;obtain⟨g,e1,hR⟩:=(h.vals 6 32 (aq hu 6) rfl).s rfl rfl;have e2:a1.tmps.getD 33 undef= .int .i64 (B':Int):=(h.vals 7 33 (aq hu 7) rfl).k _ rfl;exact eZ (Vl.gK 132 4 (.tmp 32) (.tmp 33) rfl Tryz.underlying132 1 (by kernel_rfl) g 0 2048 2048 B' e1 e2 (Mu.Z rfl).2.2.2) ⟨_,rfl,λ_ _ _ h=>h,⟨(λu hu=>by cases hu),(λe=>by cases e),λ_ _=>⟨g,rfl,hR⟩⟩,h.st⟩
   ·intro l a1 W hl hu h
    refine Vl.stepG h hB rfl 3 true rfl 29 rfl D ((h.vals 3 29 (aq hu 3) rfl).k _ rfl) hl (λe=> ?_) (λe=>⟨.u e rfl,h.st⟩);subst e;obtain⟨g,e1,hR⟩:=(h.vals 8 34 (aq hu 8) rfl).a rfl rfl;have hcell:=gb hR (Mu.Z rfl).2.2.2;rw[<-Tj.Z] at hcell;exact eZ (Vl.tY 4 (.tmp 34) rfl g (0+B'*1) e1 (by rw[Nat.zero_add,Nat.mul_one];exact hcell) (by kernel_rfl)) ⟨_,rfl,λ_ _ _ h=>h,.c rfl (by decide) (by decide),h.st⟩
   ·intro l a1 W hl hu h
    exact Vl.stepG h hB rfl 3 true rfl 29 rfl D ((h.vals 3 29 (aq hu 3) rfl).k _ rfl) hl (λe=>by
     subst e;exact eZ (Vl.br (.tmp 0) rfl (h.old 0 (by kernel_rfl))) ⟨_,rfl,λ_ _ _ h=>h,.c rfl (by decide) (by decide),h.st⟩) (λe=>⟨.u e rfl,h.st⟩)
   ·intro l a1 W hl hu h
    exact Vl.stepG h hB rfl 3 true rfl 29 rfl D ((h.vals 3 29 (aq hu 3) rfl).k _ rfl) hl (λe=>by
     subst e;exact eZ (Vl.br (.tmp 3) rfl (h.old 3 (by kernel_rfl))) ⟨_,rfl,λ_ _ _ h=>h,.c rfl (by decide) (by decide),h.st⟩) (λe=>⟨.u e rfl,h.st⟩)
   ·intro l a1 W hl hu h
    refine Vl.stepG h hB rfl 3 true rfl 29 rfl D ((h.vals 3 29 (aq hu 3) rfl).k _ rfl) hl (λe=> ?_) (λe=>⟨.u e rfl,h.st⟩);subst e;have e1:a1.tmps.getD 36 undef= .pointer (some ⟨p,0,none⟩):=(h.vals 10 36 (aq hu 10) rfl).k _ rfl;have e2:a1.tmps.getD 37 undef= .int .i64 (k:Int):=(h.vals 11 37 (aq hu 11) rfl).k _ rfl;refine Vl.il 74 _ (Vl.nI 74 (.tmp 36) (.tmp 37) _ _ _ rfl e1 e2 (by kernel_rfl)) ?_;refine(HOW.Z W h.st).mono ?_;rintro e W' ⟨rfl,hb⟩;exact⟨_,rfl,_,rfl,λi v _ hv=>hv.below hb,.c rfl (by decide) (by decide),oq.below h.st hb⟩
   ·intro l a1 W hl hu h
    refine Vl.stepG h hB rfl 3 true rfl 29 rfl D ((h.vals 3 29 (aq hu 3) rfl).k _ rfl) hl (λe=> ?_) (λe=>⟨.u e rfl,h.st⟩);subst e;have e1:a1.tmps.getD 38 undef= .int .i64 (own:Int):=(h.vals 12 38 (aq hu 12) rfl).k _ rfl;have Om:a1.eval (.tmp 38)= .int .i64 (own:Int):=e1;have hdd:decide ((0:Int)<(own:Int))=decide (0<own):=by rw[decide_eq_decide];omega
    refine eZ (Vl.Fv .gtr 3 3 (.tmp 38) (.const (.int .i64 0)) rfl (v:=.bool (decide (0<own))) ?_) ⟨_,rfl,λ_ _ _ h=>h,.c rfl (by decide) (by decide),h.st⟩;rw[Om,<-hdd];simp[go_sem]
   ·intro l a1 W hl hu h
    refine Vl.stepG h hB rfl 3 true rfl 29 rfl D ((h.vals 3 29 (aq hu 3) rfl).k _ rfl) hl (λe=> ?_) (λe=>⟨.u e rfl,h.st⟩);subst e;have e1:a1.tmps.getD 35 undef= .bool bit:=(h.vals 9 35 (aq hu 9) rfl).k _ rfl;have e2:a1.tmps.getD 39 undef= .bool (decide (0<own)):=(h.vals 13 39 (aq hu 13) rfl).k _ rfl;have Om:a1.eval (.tmp 35)= .bool bit:=e1;have e2':a1.eval (.tmp 39)= .bool (decide (0<own)):=e2;refine eZ (Vl.Fv .neq 4 4 (.tmp 35) (.tmp 39) rfl (v:=.bool (bit !=decide (0<own))) ?_) ⟨_,rfl,λ_ _ _ h=>h,.c rfl (by decide) (by decide),h.st⟩;rw[Om,e2'];generalize decide (0<own)=z;cases bit<;>cases z<;>simp[go_sem]
   intro l a1 W hl hu h;have e1:a1.tmps.getD 29 undef= .bool D:=(h.vals 3 29 (aq hu 3) rfl).k _ rfl;refine Vl.aJ h hB rfl rfl rfl hl _ (Vl.M3 (.tmp 29) (.tmp 40) (.const (.bool false)) D rfl e1 (v:=.bool (D&&(bit !=decide (0<own)))) ?_) (.c rfl (by decide) (by decide)) (λs=>s);cases hD:D with
   |false=>rfl
   |true=>
    subst hD;exact(h.vals 14 40 (aq hu 14) rfl).k _ rfl
  intro a' w2 h;have hall:=h.all [26,27,28,29,30,31,32,33,34,35,36,37,38,39,40,41] (Vl.L6 (by kernel_rfl));have PE:=(h.vals 15 41 rfl rfl).k _ rfl;obtain⟨Z,hZ⟩:=aa ((D&&(bit !=decide (0<own))));rw[<-hZ] at PE K4;have bW:=ah h.st;simp only[List.foldl_cons,List.foldl_nil] at hall;obtain⟨v26,h26⟩:=ae (a'.tmps.getD 26 undef);obtain⟨v27,BY⟩:=ae (a'.tmps.getD 27 undef);obtain⟨v28,h28⟩:=ae (a'.tmps.getD 28 undef);obtain⟨v29,h29⟩:=ae (a'.tmps.getD 29 undef);obtain⟨v30,h30⟩:=ae (a'.tmps.getD 30 undef);obtain⟨v31,h31⟩:=ae (a'.tmps.getD 31 undef);obtain⟨v32,h32⟩:=ae (a'.tmps.getD 32 undef);obtain⟨v33,h33⟩:=ae (a'.tmps.getD 33 undef);obtain⟨v34,h34⟩:=ae (a'.tmps.getD 34 undef);obtain⟨v35,h35⟩:=ae (a'.tmps.getD 35 undef);obtain⟨v36,h36⟩:=ae (a'.tmps.getD 36 undef);obtain⟨v37,h37⟩:=ae (a'.tmps.getD 37 undef);obtain⟨v38,h38⟩:=ae (a'.tmps.getD 38 undef);obtain⟨v39,h39⟩:=ae (a'.tmps.getD 39 undef);obtain⟨v40,h40⟩:=ae (a'.tmps.getD 40 undef);rw[PE,h26,BY,h28,h29,h30,h31,h32,h33,h34,h35,h36,h37,h38,h39,h40] at hall;clear h PE hZ h26 BY h28 h29 h30 h31 h32 h33 h34 h35 h36 h37 h38 h39 h40;simp only[Act.put,List.setIfInBounds_toArray,List.set_cons_succ,List.set_cons_zero] at hall;subst hall;clear bh;cases Z with
  |true=>
   have cY:Hd (aK (x.vD (Im.bN Q)) x.n=false):=bR hlt K4.Z;go_wp2_with fail;go_ret;exact⟨by rw[cY.Z];rfl,bW.Z.bel⟩
  |false=>
   have gz:Hd (∀j,j<k+1->x.vD (Im.bN Q) j=true):=λj hj=>by
    rcases Nat.lt_succ_iff_lt_or_eq.1 hj with h|h
    ·exact HP.Z j h
    rw[h];exact K4.Z
   go_wp2_with fail;go_roundw
   case rel=>(try((repeat apply Exists.intro);refine⟨?_,rfl⟩));exact⟨k+1,by omega,by go_num,gz.Z,bW.Z⟩
   simp[intOf];omega
 obtain rfl:k=x.n:=by omega
 go_wp2_with fail;go_ret;exact⟨by rw[(aY _ _).2 HP.Z];rfl,ST.Z.bel⟩
theorem I2{l:Nat}:Im.gh l=1↔l=0:=by
 unfold Im.gh;cases l with
 |zero=>simp
 |succ l=>rw[Nat.pow_succ];constructor<;>intro h<;>omega
theorem Cf:∀{Q:List Im.Pt} {k:Nat} {y:Im.Pt} {t i:Nat},Q[k]? =some y->(∀(j:Nat) (z:Im.Pt),j<k->Q[j]? =some z->¬(z.i=t/\z.l=0/\z.f=i))->(y.i=t/\y.l=0/\y.f=i)->Im.kI Q t i=y.b
 |[],k,y,t,i,h,_,_=>by cases h
 |z::Q,0,y,t,i,h,_,hc=>by injection h with h;subst h;rw[Im.kI,if_pos hc]
 |z::Q,k+1,y,t,i,h,hn,hc=>by
  rw[Im.kI,if_neg (hn 0 z (Nat.succ_pos _) rfl)];exact Cf (k:=k) h (λj w hj hw=>hn (j+1) w (by omega) hw) hc
theorem uP:∀{Q:List Im.Pt} {t i:Nat},(∀(j:Nat) (z:Im.Pt),Q[j]? =some z->¬(z.i=t/\z.l=0/\z.f=i))->Im.kI Q t i=0
 |[],t,i,_=>rfl
 |z::Q,t,i,h=>by
  rw[Im.kI,if_neg (h 0 z rfl)];exact uP λj w hw=>h (j+1) w hw
theorem x7(p b off cap:Nat)(ds ino ay pt:Value)(Q:List Im.Pt)(hQ:Q.length<=4294967296)(t i:Nat)(w:World)(h:qz p b off cap x ds ino ay pt w)(hp:KX p Q pt w):
  Calls Tryz.prog 162 #[.pointer (some ⟨p,0,none⟩),.int .i64 (t:Int),.int .i64 (i:Int)] w λe w'=>e= .returned (.int .i64 ((Im.kI Q t i:Nat):Int))/\Below w.heap.size w w':=by
 obtain⟨a,cap',rfl,hr⟩:=hp;have cp:w.cell? ⟨p,13,none⟩=some (.slice a Q.length cap'):=h.a.cell (i:=13) rfl;have HR:=ah hr;obtain⟨n,hn⟩:=aa Q.length;have HN:=ah hn;rw[<-hn] at cp hQ;clear hr h hn;go_enter Tryz.func162,Tryz.ntmps162;go_wp2_with fail;go_loopw [7] (λu wr=>∃k:Nat,k<=n/\u= .int .i64 (k:Int)/\(∀(j:Nat) (z:Im.Pt),j<k->Q[j]? =some z->¬(z.i=t/\z.l=0/\z.f=i))/\wr=w) (λu _=>n-(intOf u).toNat)
 case atStart=>exact⟨0,Nat.zero_le _,rfl,λj z h=>by omega,rfl⟩
 obtain⟨k,hk,rfl,hno,rfl⟩:=hrel;have cY:=ah hno;clear hno
 by_cases hlt:k<n
 ·have hlt':(k:Int)<(n:Int):=by omega
  obtain⟨y,hy⟩:∃y,Q[k]? =some y:=⟨_,List.getElem?_eq_getElem (by rw[<-HN.Z];exact hlt)⟩;obtain⟨g,o',GB,lQ⟩:∃b' off',a=some ⟨b',off',none⟩/\aM wr b' off' 4 Q.length (zG Q):=by
   rcases HR.Z with h|h
   ·have:=HN.Z;omega
   exact h
  subst GB;have hk':k<Q.length:=by have:=HN.Z;omega
  have e:=rA hy;have c0:wr.cell? ⟨g,o'+k*4,none⟩=some (.int .i64 (y.i:Int)):=lQ k hk' 0 _ (by rw[e];rfl);have c1:wr.cell? ⟨g,o'+k*4+1,none⟩=some (.int .i64 (y.b:Int)):=lQ k hk' 1 _ (by rw[e];rfl);have c2:wr.cell? ⟨g,o'+k*4+2,none⟩=some (.int .i64 (y.f:Int)):=lQ k hk' 2 _ (by rw[e];rfl);have c3:wr.cell? ⟨g,o'+k*4+3,none⟩=some (.int .i64 ((Im.gh y.l:Nat):Int)):=lQ k hk' 3 _ (by rw[e];rfl);have HY:=ah hy;clear lQ e hk' hy;obtain⟨S,hS⟩:=aa (Im.gh y.l);rw[<-hS] at c3;obtain⟨C1,GD⟩:=aa (((y.i:Int)==(t:Int)));obtain⟨C2,Ex⟩:=aa (((S:Int)==1));obtain⟨C3,Ew⟩:=aa (((y.f:Int)==(i:Int)));have g1:=GD.symm;have g2:=Ex.symm;have g3:=Ew.symm;have HC:Hd ((C1&&(C2&&C3))=true↔(y.i=t/\y.l=0/\y.f=i)):=by
   show _↔_;rw[GD,Ex,Ew,Bool.and_eq_true,Bool.and_eq_true,beq_iff_eq,beq_iff_eq,beq_iff_eq,hS,<-I2];omega
  have kJ:Hd ((C1&&(C2&&C3))=false->∀(j:Nat) (z:Im.Pt),j<k+1->Q[j]? =some z->¬(z.i=t/\z.l=0/\z.f=i)):=λhf j z hj hz=>by
   rcases Nat.lt_succ_iff_lt_or_eq.1 hj with h|h
   ·exact cY.Z j z h hz
   subst h;have:=HY.Z;rw[hz] at this;injection this with this
   rw[this];intro hc;rw[HC.Z.2 hc] at hf;cases hf
  have HE:Hd ((C1&&(C2&&C3))=true->Im.kI Q t i=y.b):=λhf=>Cf HY.Z cY.Z (HC.Z.1 hf)
  clear GD Ex Ew hS;cases C1<;>cases C2<;>cases C3
  all_goals
   go_wp2_with fail
   first
   |(go_roundw
     case rel=>first|exact⟨k+1,by omega,by go_num,kJ.Z rfl,rfl⟩|exact⟨k+1,by omega,by go_num,kJ.Z rfl,trivial⟩|exact⟨k+1,by omega,by go_num,kJ.Z rfl⟩
     simp[intOf];omega)
   |(go_ret
     exact⟨by rw[HE.Z rfl];rfl,Below.refl _ _⟩)
 obtain rfl:k=n:=by omega
 have HE:Hd (Im.kI Q t i=0):=uP λj z hz=>cY.Z j z (by have:=(List.getElem?_eq_some_iff.1 hz).1;have:=HN.Z;omega) hz
 go_wp2_with fail;go_ret;exact⟨by rw[HE.Z];rfl,Below.refl _ _⟩
def lY(l:List (Nat×ByteArray)):List Value:=l.flatMap λe=>[.int .u32 (e.1:Int),.string e.2]
theorem E7(l:List (Nat×ByteArray))(e:Nat×ByteArray):lY (l++[e])=lY l++[.int .u32 (e.1:Int),.string e.2]:=by unfold lY;rw[List.flatMap_append];rfl
structure OC(w:World)(p b off cap:Nat)(x:Im)(ds:Value)(r ci:Nat)(ay pt:Value)(Q:List Im.Pt)(v:Value)(l:List (Nat×ByteArray))(W:World):Prop where
 k:oq w p b off cap x ds r ci ay pt Q W
 o:W.ownsRow w.heap.size 90 2 v l.length (lY l)
theorem OC.below{b:Nat}{Q:List Im.Pt}{W:World}(h:OC w p b off cap x ds r ci ay pt Q v l W)(hb:Below W.heap.size W W'):OC w p b off cap x ds r ci ay pt Q v l W':=⟨h.k.below hb,nP h.o hb⟩
structure PI(w:World)(p b off cap:Nat)(x:Im)(ds:Value)(r ci:Nat)(ay pt:Value)(Q:List Im.Pt)(v:Value)(l:List (Nat×ByteArray))(z:Nat->Int)(g cg:Nat)(W:World):Prop where
 s:OC w p b off cap x ds r ci ay pt Q v l W
 z:W.ownsRow w.heap.size 90 2 (.slice (some ⟨g,0,none⟩) 8 cg) 8 (Sc (dI z) (dM z) 8)
 ne:v.ownBlock≠some g
theorem PI.below{b:Nat}{Q:List Im.Pt}{z:Nat->Int}{g cg:Nat}{W:World}(h:PI w p b off cap x ds r ci ay pt Q v l z g cg W)(hb:Below W.heap.size W W'):PI w p b off cap x ds r ci ay pt Q v l z g cg W':=⟨h.s.below hb,nP h.z hb,h.ne⟩
def T4(w:World)(Q:List Im.Pt)(pt:Value):Prop:=∀a c bb o,pt= .slice a Q.length c->a=some ⟨bb,o,none⟩->0<Q.length->bb<w.heap.size
theorem KX.bd{Q:List Im.Pt}(h:KX p Q v w):T4 w Q v:=by
 intro a c bb o e1 e2 h0;obtain⟨a',c',rfl,hr⟩:=h;injection e1 with e1
 subst e1 e2;rcases hr with h|⟨b',off',e,hs⟩
 ·omega
 injection e with e
 injection e with e
 rw[e];exact aM.lt hs h0 (λe=>by have:=qj Q 0;rw[e] at this;cases this)
theorem oq.grown{b:Nat}{Q:List Im.Pt}{W:World}{row:Option Nat}(h:oq w p b off cap x ds r ci ay pt Q W)(hg:W.grownBy W' row)(hl:∀q,row=some q->w.heap.size<=q)(h1:p<w.heap.size)(h2:b<w.heap.size)(h3:r<w.heap.size)(h4:T4 w Q pt):oq w p b off cap x ds r ci ay pt Q W':=by
 have n1:∀j,j<w.heap.size->row≠some j:=λj hj e=>by have:=hl j e;omega
 have hi:=h.k.i;refine⟨⟨⟨⟨dE hi.k.a hg (n1 p h1),aM.fX hi.k.i hg hi.k.bl (λe=>n1 b h2 e.symm),Nat.lt_of_lt_of_le hi.k.bl hg.size⟩,aM.fX hi.i hg hi.rl (λe=>n1 r h3 e.symm),Nat.lt_of_lt_of_le hi.rl hg.size⟩,?_⟩,h.bel.grown hg h.bel.size hl⟩;obtain⟨a,c,e,hr⟩:=h.k.q;refine⟨a,c,e,?_⟩;rcases hr with hr|⟨bb,o,ha,hs⟩
 ·exact .inl hr
 by_cases h0:Q.length=0
 ·exact .inl h0
 have hbb:=h4 a c bb o e ha (by omega);exact .inr ⟨bb,o,ha,aM.fX hs hg (by have:=h.bel.size;omega) (λe=>n1 bb hbb e.symm)⟩
def T1(w:World)(x:Im)(t:Nat)(e:Ending)(w':World):Prop:=
 Below w.heap.size w w'/\((x.Eo t=none/\e= .returned (.tuple #[.slice none 0 0,.bool false]))\/
  ∃l a c,x.Eo t=some l/\e= .returned (.tuple #[.slice a l.length c,.bool true])/\w'.ownsRow w.heap.size 90 2 (.slice a l.length c) l.length (lY l))
theorem Ac(u:Int)(s:ByteArray)(W:World):(Instr.buildSlice 88 1 #[(0,.agg #[.int .u32 u,.string s])]).run Tryz.prog W= .ok (.slice (some ⟨W.heap.size,0,none⟩) 1 1) (W.alloc (.cells #[.int .u32 u,.string s] 90)):=by kernel_rfl
theorem yy:∃i,Tryz.prog.info? 90=some i/\i.zero=some (.agg #[.int .u32 0,.string ByteArray.empty])/\i.size=2/\i.bytes=24:=by
 have h:=j9;cases hq:Tryz.prog.info? 90 with
 |none=>rw[hq] at h;cases h
 |some i=>
  rw[hq] at h;injection h with h
  injection h with h1 h2
  injection h2 with h2 h3
  exact⟨i,rfl,h1,h2,h3⟩
theorem qg(z:Nat->Int):∀k,(Im.sP z k).length<=k
 |0=>Nat.le_refl _
 |k+1=>by
  rw[Im.sP];split
  ·exact Nat.le_succ_of_le (qg z k)
  rw[List.length_append];exact Nat.succ_le_succ (qg z k)
theorem Bw{t n:Nat}(h:x.I4 t n=some l):l.length<=8*n:=by
 refine iC (P:=λk (l:List (Nat×ByteArray))=>l.length<=8*k) h (Nat.zero_le _) λk a c _ ha hc=> ?_
 split at hc
 ·injection hc with hc
  have:=qg (x.L (x.blk t k)) 8;rw[<-hc,List.length_append];omega
 cases hc
theorem kR(hx:x.Ok)(kE:∀t,1<=t->t<=x.ni->(x.ino t).kz)(p b off cap:Nat)(ds:Value)(r ci:Nat)(ay pt:Value)(Q:List Im.Pt)(hQ:Q.length<=2048)(t:Nat)(ht1:1<=t)(ht:t<=x.ni)(Z7:∀i,i<65536->Im.kI Q t i=x.blk t i)(hBL:∀i,i<65536->x.blk t i≠0->x.blk t i<x.n)(w:World)(h:xp p b off cap x ds r ci ay pt Q w):
  Calls Tryz.prog 154 #[.pointer (some ⟨p,0,none⟩),.int .i64 (t:Int)] w λe w'=>T1 w x t e w':=by
 have HX:=ah hx;have hni:x.ni<=256:=eX hx.may;have gi:=hx.iK;have hsz:=(aS.mK (kE t ht1 ht)).1;obtain⟨N,hN⟩:=aa ((x.ino t).size.toNat/256);have Px:N<=65536:=by omega
 have hq0:(x.ino t).size.tdiv 256=(N:Int):=by rw[Int.tdiv_eq_ediv_of_nonneg (by omega)];omega
 have HST:Hd (x.Eo t=x.I4 t N):=by show _=_;unfold Im.Eo;rw[<-hN]
 have HBQ:=ah Z7;have m8:=ah hBL;have pX:Hd (p<w.heap.size/\b<w.heap.size/\r<w.heap.size/\T4 w Q pt):=⟨h.i.k.a.lt,h.i.k.bl,h.i.rl,h.q.bd⟩;have dt:Hd (OC w p b off cap x ds r ci ay pt Q (.slice none 0 0) [] w):=⟨⟨h,Below.refl _ _⟩,World.ownsRow_nil _ _ _ _⟩;have ht':(t:Int)<(x.ni:Int)+1:=by omega
 have t0:(0:Int)<=(t:Int):=by omega
 have Ml:Hd (∀W,oq w p b off cap x ds r ci ay pt Q W->W.cell? ⟨r,t*16+3,none⟩=some (.int .i64 (x.ino t).size)):=λW h=>h.k.i.ino (t:=t) (by omega) 3 rfl
 obtain⟨sz,Gf⟩:=aa ((x.ino t).size);rw[<-Gf] at Ml hq0 hsz;clear h hx kE Z7 hBL hN Gf;go_enter Tryz.func154,Tryz.ntmps154;go_wp2_with fail;go_loopw [6,7,8,9,10,11] (λv u _ _ _ _ wr=>∃(k:Nat) (l:List (Nat×ByteArray)),k<=N/\u= .int .i64 (k:Int)/\x.I4 t k=some l/\OC w p b off cap x ds r ci ay pt Q v l wr) (λ_ u _ _ _ _ _=>N-(intOf u).toNat)
 case atStart=>exact⟨0,[],Nat.zero_le _,rfl,rfl,dt.Z⟩
 clear dt;obtain⟨k,l,hk,rfl,hl,st⟩:=hrel;have HL:=ah hl;have ST:=ah st;obtain⟨a1,c1,hv⟩:=jF st.o;subst hv;have c11:wr.cell? ⟨p,11,none⟩=some (.slice (some ⟨r,0,none⟩) (x.ni+1) ci):=st.k.k.i.k.a.cell (i:=11) rfl;have cS:=Ml.Z _ st.k;clear hl st
 by_cases hlt:k<N
 ·have hlt':(k:Int)<(N:Int):=by omega
  go_wp2_with fail;refine(x7 (x:=x) p b off cap ds _ _ _ Q (by omega) t k wr ST.Z.k.k.i.k ST.Z.k.k.q).mono ?_;rintro e w1 ⟨rfl,hb1⟩;have bh:=ah (ST.Z.below hb1);rw[HBQ.Z k (by omega)];have cY:Hd (¬(x.blk t k≠0/\iW (x.L (x.blk t k))=true)->x.Eo t=none):=λh=>by
   rw[HST.Z];exact dp HL.Z (by rw[if_neg h]) hlt
  have gz:Hd ((x.blk t k≠0/\iW (x.L (x.blk t k))=true)->x.I4 t (k+1)=some (l++Im.sP (x.L (x.blk t k)) 8)):=λh=>bK HL.Z (by rw[if_pos h])
  have HBN:=ah (m8.Z k (by omega));obtain⟨B,hB⟩:=aa (x.blk t k);rw[<-hB] at cY gz HBN ⊢;clear ST hb1 c11 cS hB
  by_cases hB0:B=0
  ·have q0:((B:Int)==0)=true:=by simp[hB0]
   have HF:=ah (cY.Z (λh=>h.1 hB0));clear hB0;go_wp2_with fail;refine bodyPost_ret (results_tmp2 rfl _ _ _) rfl ?_;exact⟨bh.Z.k.bel,.inl ⟨HF.Z,rfl⟩⟩
  have q0:((B:Int)==0)=false:=by simp;omega
  have Xm:=HBN.Z hB0;have RK:(B:Int)<(x.n:Int):=by omega
  have cL:w1.cell? ⟨p,0,none⟩=some (.slice (some ⟨b,off,none⟩) x.n cap):=bh.Z.k.k.i.k.a.cell (i:=0) rfl;have DH:=bh.Z.k.k.i.k.blk Xm;have pK:=ah hB0;clear hB0;go_wp2_with (first|(refine aH rfl 32 (.tmp 37) rfl b (off+B*256) (dR x.L B) _ rfl DH Tryz.underlying32 rfl (by rw[aZ];exact aA) ?_))
  refine(Dc (x.L B) (HX.Z.jx B) w1).mono ?_;rintro e w2 ⟨hb2,hC⟩;have bW:=ah (bh.Z.below hb2);rcases hC with⟨hd,rfl⟩|⟨hd,a2,c2,rfl,hz⟩
  ·have HF:=ah (cY.Z (λh=>by rw[hd] at h;cases h.2))
   clear hd hb2 bh DH cL;go_wp2_with fail;refine bodyPost_ret (results_tmp2 rfl _ _ _) rfl ?_;exact⟨bW.Z.k.bel,.inl ⟨HF.Z,rfl⟩⟩
  obtain⟨g,cg,hg⟩:=jG hz (by decide);injection hg with hg1 _ hg3
  subst hg1 hg3;have hgl:=World.ownsRow.lt hz g rfl;have fh:Hd (PI w p b off cap x ds r ci ay pt Q (.slice a1 l.length c1) (l++Im.sP (x.L B) 0) (x.L B) g c2 w2):=⟨by
    show OC w p b off cap x ds r ci ay pt Q (.slice a1 l.length c1) (l++[]) w2;rw[List.append_nil];exact bW.Z,⟨hz.1,by
    rcases hz.2 with⟨h0,_⟩|⟨g',c',cur,e,hg,h2⟩
    ·cases h0
    exact .inr ⟨g',c',cur,e,by have:=bh.Z.k.bel.size;omega,h2⟩⟩,λe=>by have:=(World.ownsRow.lt bh.Z.o g e).2;omega⟩
  have Sy:=ah (gz.Z ⟨pK.Z,hd⟩);have Ii:=Bw Sy.Z;have HZ:=ah (HX.Z.jx B);clear hz hgl bW hb2 bh DH cL hd cY gz;obtain⟨z,YU⟩:=aa (x.L B);rw[<-YU] at fh Sy Ii HZ;clear YU;go_wp2_with fail;go_loopw [6,11] (λv u wr=>∃(j:Nat) (l2:List (Nat×ByteArray)) (a:Option Addr) (c:Nat),j<=8/\u= .int .i64 (j:Int)/\l2=l++Im.sP z j/\v= .slice a l2.length c/\PI w p b off cap x ds r ci ay pt Q v l2 z g c2 wr) (λ_ u _=>8-(intOf u).toNat)
  case atStart=>exact⟨0,l,a1,c1,by omega,rfl,(List.append_nil l).symm,rfl,by have:=fh.Z;rwa[show l++Im.sP z 0=l from List.append_nil l] at this⟩
  clear fh;obtain⟨j,l2,a3,c3,hj,rfl,hl2,rfl,st⟩:=hrel;have ju:=ah hl2;have ST:=ah st;clear hl2 st
  by_cases TD:j<8
  ·have adw:(j:Int)<8:=by omega
   have j0':(0:Int)<=(j:Int):=by omega
   obtain⟨cD,cN⟩:wr.cell? ⟨g,j*2,none⟩=some (.int .u32 (dI z j))/\wr.cell? ⟨g,j*2+1,none⟩=some (.string (dM z j)):=by
    rcases oK ST.Z.z with h|⟨b',o',e,hs⟩
    ·omega
    injection e with e
    injection e with e1 e2
    subst e1 e2;have:=hs j TD;rwa[Nat.zero_add] at this
   have qp:=GX HZ.Z j;have IC:Hd (Im.sP z (j+1)=if dI z j=0 then Im.sP z j else Im.sP z j++[((dI z j).toNat,dM z j)]):=rfl;have hll:l2.length<=8*(N+1)+8:=by
    rw[ju.Z,List.length_append];have:=qg z j;rw[List.length_append] at Ii;omega
   obtain⟨d,hd⟩:=aa (dI z j);obtain⟨s,hs⟩:=aa (dM z j);rw[<-hd,<-hs] at IC;rw[<-hd] at cD qp;rw[<-hs] at cN;clear hd hs
   by_cases hd0:d=0
   ·have q0:decide ((0:Int)<d)=false:=decide_eq_false (by omega)
    have HF:Hd (l2=l++Im.sP z (j+1)):=by show _=_;rw[ju.Z,IC.Z,if_pos hd0]
    clear hd0;go_wp2_with fail;go_roundw
    case rel=>(try((repeat apply Exists.intro);refine⟨?_,rfl⟩));exact⟨j+1,l2,a3,c3,by omega,by go_num,HF.Z,rfl,ST.Z⟩
    simp[intOf];omega
   have q0:decide ((0:Int)<d)=true:=decide_eq_true (by omega);have HF:Hd (l2++[(d.toNat,s)]=l++Im.sP z (j+1)):=by show _=_;rw[ju.Z,IC.Z,if_neg hd0,List.append_assoc]
   have hrow:wr.rangeAt g (j*2) [.int .u32 d,.string s]:=λq v hq=>by
    match q,hq with
    |0,hq=>injection hq with hq;subst hq;exact cD
    |1,hq=>injection hq with hq;subst hq;exact cN
    |q+2,hq=>cases hq
   obtain⟨i0,hi0,hz0,hz1,hz2⟩:=yy;have wE:Below wr.heap.size wr (wr.alloc (.cells #[.int .u32 d,.string s] 90)):=ag.alloc af _;have n9:=ah (ST.Z.below wE);have hown:=n9.Z.s.o;have hnews:=qU wr d s;have h1c:=qf d s;have hbase:=n9.Z.s.k.bel.size;have Vw:(Tryz.prog.info? 90).map (·.size)=some ([.int .u32 d,.string s]:List Value).length:=by kernel_rfl
   clear hd0 ST wE cN IC;go_wp2_with (first|(refine aH rfl 90 (.tmp 59) rfl g (j*2) [.int .u32 d,.string s] _ rfl hrow Tryz.underlying90 rfl Vw ?_)|(refine er rfl 88 1 0 (.tmp 60) rfl (.agg #[.int .u32 d,.string s]) rfl _ _ (Ac _ _ _) ?_)|(refine wpList_append_own_at _ rfl (.tmp 56) (.tmp 61) 88 rfl w.heap.size 90 i0 (.agg #[.int .u32 0,.string ByteArray.empty]) 2 24 Tryz.underlying88 hi0 hz0 hz1 hz2 rfl (by decide) (.slice a3 l2.length c3) l2.length (lY l2) rfl hown ⟨wr.heap.size,0,none⟩ 1 1 [.int .u32 d,.string s] rfl rfl hnews h1c (by unfold maxLen;omega) (by omega) hbase ?_))
   intro v' w5 wh xl _ J6;have JW:∀q,(Value.slice a3 l2.length c3).ownBlock=some q->w.heap.size<=q:=λq hq=>(World.ownsRow.lt hown q hq).1
   have hgl:g<wr.heap.size+1:=by have:=(World.ownsRow.lt n9.Z.z g rfl).2;rw[World.size_alloc] at this;exact this
   have Ip:PI w p b off cap x ds r ci ay pt Q v' (l2++[(d.toNat,s)]) z g c2 w5:=by
    refine⟨⟨n9.Z.s.k.grown xl JW pX.Z.1 pX.Z.2.1 pX.Z.2.2.1 pX.Z.2.2.2,?_⟩,World.ownsRow.kept n9.Z.z xl (.inr λe=>n9.Z.ne e.symm),λe=> ?_⟩
    ·rw[E7,List.length_append]
     show w5.ownsRow _ _ 2 v' (l2.length+1) (lY l2++[.int .u32 ((d.toNat:Nat):Int),.string s]);rw[Int.toNat_of_nonneg qp.1];exact wh
    rcases J6 with e2|e2
    ·exact n9.Z.ne (e2.symm.trans e)
    rw[e] at e2;injection e2 with e2
    have h6:=(World.ownsRow.lt n9.Z.z g rfl).2;omega
   obtain⟨a6,c6,Nu⟩:=jF wh;subst Nu;have ed:=ah Ip;clear n9 hown hnews h1c hbase wh xl J6 Ip JW hgl hrow cD;go_wp2_with fail;go_roundw
   case rel=>(try((repeat apply Exists.intro);refine⟨?_,rfl⟩));exact⟨j+1,l2++[(d.toNat,s)],a6,c6,by omega,by go_num,HF.Z,by rw[List.length_append];rfl,ed.Z⟩
   simp[intOf];omega
  obtain rfl:j=8:=by omega
  have zM:Hd (x.I4 t (k+1)=some l2):=by show _=_;rw[Sy.Z,ju.Z]
  go_wp2_with fail;go_roundw
  case rel=>(try((repeat apply Exists.intro);refine⟨?_,rfl⟩));exact⟨k+1,l2,by omega,by go_num,zM.Z,ST.Z.s⟩
  simp[intOf];omega
 obtain rfl:k=N:=by omega
 have HF:Hd (x.Eo t=some l):=by show _=_;rw[HST.Z];exact HL.Z
 go_wp2_with fail;refine bodyPost_ret (results_tmp2 rfl _ _ _) rfl ?_;exact⟨ST.Z.k.bel,.inr ⟨l,a1,c1,HF.Z,rfl,ST.Z.o⟩⟩
end Go.Proofs.YtphamecphmbipaaGreatDoor
