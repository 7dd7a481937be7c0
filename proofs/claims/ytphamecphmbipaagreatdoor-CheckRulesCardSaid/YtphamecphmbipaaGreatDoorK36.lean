/- Texts of this claim, merged. -/
import Derived.Test.YtphamecphmbipaaGreatDoorK35
set_option linter.unusedVariables false
set_option maxRecDepth 100000
set_option maxHeartbeats 16000000

namespace Go.Proofs.YtphamecphmbipaaGreatDoor
open Go.RowKit
open Lib (hid)
variable {p b off cap r ci:Nat} {x:Im} {ds ak pt v:Value} {W' w:World} {l:List (Nat×ByteArray)}
theorem Vl.II{P:Program}{W:World}{o:Oper}{a:Act}(f:FuncId)(x y z:Operand)(Mc:Array TypeId)(u v t:Value)(ho:o.op= .call {callee:=.value (.func f),args:=#[x,y,z],argTypes:=Mc})(hx:a.eval x=u)(hy:a.eval y=v)(hz:a.eval z=t)
  (hr:((do let d<-Deferred.ofValue (a.eval (.func f)) #[u,v,t];invoke d.target d.args):Sem Next).run P W= .ok (.enter f #[u,v,t]) W):(execOp a.eval o).run P W= .ok (.enter f #[u,v,t]) W:=by
 rw[<-hr];unfold execOp;rw[ho];simp only[resolve];simp[hx,hy,hz]
structure wT(p b off cap:Nat)(x:Im)(ds:Value)(r ci:Nat)(ak pt:Value)(Q:List Im.Pt)(W:World):Prop where
 i:sq p b off cap x ds r ci ak pt W
 q:Ky p Q pt W
theorem wT.below{Q:List Im.Pt}{W:World}(h:wT p b off cap x ds r ci ak pt Q W)(hb:Below W.heap.size W W'):wT p b off cap x ds r ci ak pt Q W':=⟨h.i.below hb,h.q.below hb⟩
structure nX(w:World)(p b off cap:Nat)(x:Im)(ds:Value)(r ci:Nat)(ak pt:Value)(Q:List Im.Pt)(W:World):Prop where
 k:wT p b off cap x ds r ci ak pt Q W
 bel:Below w.heap.size w W
theorem nX.below{Q:List Im.Pt}{W:World}(h:nX w p b off cap x ds r ci ak pt Q W)(hb:Below W.heap.size W W'):nX w p b off cap x ds r ci ak pt Q W':=⟨h.k.below hb,h.bel.trans (hb.mono h.bel.size)⟩
def k8(p q A B:Nat)(D bit:Bool)(own:Nat)(i:Nat):Option Value:=match i with
 |0=>some (.pointer (some ⟨p,0,none⟩))
 |1=>some (.int .i64 (q:Int))
 |2=>some (.bool D)
 |3=>some (.bool D)
 |4=>if D then some (.pointer (some ⟨p,0,none⟩)) else none
 |5=>if D then some (.int .i64 (A:Int)) else none
 |7=>if D then some (.int .i64 (B:Int)) else none
 |9=>if D then some (.bool bit) else none
 |10=>if D then some (.pointer (some ⟨p,0,none⟩)) else none
 |11=>if D then some (.int .i64 (q:Int)) else none
 |12=>if D then some (.int .i64 (own:Int)) else none
 |13=>if D then some (.bool (decide (0<own))) else none
 |14=>if D then some (.bool (bit !=decide (0<own))) else none
 |15=>some (.bool (D&&(bit !=decide (0<own))))
 |_=>none
structure LH(p q A B:Nat)(D bit:Bool)(z:Nat->Int)(own:Nat)(i:Nat)(v:Value)(W:World):Prop where
 k:∀u,k8 p q A B D bit own i=some u->v=u
 s:i=6->D=true->∃g,v= .slice (some ⟨g,0,none⟩) 2048 2048/\az W g 4 1 2048 (kr (bt z))
 a:i=8->D=true->∃g,v= .pointer (some ⟨g,0+B*1,none⟩)/\az W g 4 1 2048 (kr (bt z))
section
variable {p q A B:Nat} {D bit:Bool} {z:Nat->Int} {own i:Nat} {v:Value} {W W':World}
theorem LH.below(h:LH p q A B D bit z own i v W)(hb:Below W.heap.size W W'):LH p q A B D bit z own i v W':=
 ⟨h.k,λe1 e2=>by obtain⟨g,h1,h2⟩:=h.s e1 e2;exact⟨g,h1,h2.below hb⟩,λe1 e2=>by obtain⟨g,h1,h2⟩:=h.a e1 e2;exact⟨g,h1,h2.below hb⟩⟩
theorem LH.c(h:k8 p q A B D bit own i=some v)(h6:i≠6)(h8:i≠8):LH p q A B D bit z own i v W:=⟨λu hu=>by rw[h] at hu;injection hu,λe=>absurd e h6,λe=>absurd e h8⟩
theorem LH.u(e:D≠true)(h:k8 p q A B false bit own i=none):LH p q A B D bit z own i v W:=by
 cases D with
 |true=>exact absurd rfl e
 |false=>exact⟨λu hu=>(by rw[h] at hu;cases hu),(λ_ e2=>by cases e2),λ_ e2=>by cases e2⟩
end
theorem xE(hx:x.Ok)(p b off cap:Nat)(ds:Value)(r ci:Nat)(ak pt:Value)(Q:List Im.Pt)(hQ9:Q.length<=2048)(hQi:∀c,Im.bF Q c<=256)(w:World)(h:wT p b off cap x ds r ci ak pt Q w):
  Calls Tryz.prog 119 #[.pointer (some ⟨p,0,none⟩)] w λe w'=>e= .returned (.bool (aD (x.uw (Im.bF Q)) x.g))/\Below w.heap.size w w':=by
 have HX:=hid hx;have fY:=hx.iu;have HR8:Hid (aD (x.vm (Im.bF Q)) x.n=aD (x.uw (Im.bF Q)) x.g):=Im.rk8 hx _;have cX:Hid (nX w p b off cap x ds r ci ak pt Q w):=⟨h,Below.refl _ _⟩;rw[<-HR8.out];clear h hx;go_enter Tryz.func119,Tryz.ntmps119;go_wp2_with fail;go_loopw [3,4,5,6] (λu _ _ _ wr=>∃k:Nat,k<=x.n/\u= .int .i64 (k:Int)/\(∀j,j<k->x.vm (Im.bF Q) j=true)/\nX w p b off cap x ds r ci ak pt Q wr) (λu _ _ _ _=>x.n-(intOf u).toNat)
 case atStart=>exact⟨0,Nat.zero_le _,rfl,λj h=>by omega,cX.out⟩
 case round=>
  clear cX;obtain⟨k,hk,rfl,hP,st⟩:=hrel;have HP:=hid hP;have ST:=hid st;have c0:wr.cell? ⟨p,0,none⟩=some (.slice (some ⟨b,off,none⟩) x.n cap):=st.k.i.k.a.cell (i:=0) rfl;clear hP st
  by_cases hlt:k<x.n
  ·have hlt':(k:Int)<(x.n:Int):=by omega
   have hrg:=ST.out.k.i.k.lH;obtain⟨K,A,B,C,he,hK,ZC⟩:=xk HX.out hlt;have hnn:=HX.out.n;have HW:Hid (∀W,Calls Tryz.prog 144 #[bN x.g x.s x.i x.j,.int .i64 (k:Int)] W λe w'=>e= .returned (.tuple #[.int .u8 K,.int .i64 A,.int .i64 B])/\Below W.heap.size W w'):=λW=>mr x.g x.s x.i x.j k HX.out.may (by rw[<-hnn];exact hlt) K A B C he W
   have HAB:=hid ZC;clear he hK ZC hnn;go_wp2_with (first|(refine aB rfl 23 (.tmp 19) rfl p 6 (aa x.g x.s x.i x.j).toList _ rfl hrg Tryz.underlying23 rfl (by kernel_rfl) ?_))
   refine(HW.out wr).mono ?_;rintro e w1 ⟨rfl,hb1⟩;have aV:=hid (ST.out.below hb1);clear ST hrg hb1 HW c0;go_wp2_with fail;obtain⟨A',hA'⟩:∃A',A'=(k-(2+x.j))/x.s:=⟨_,rfl⟩;obtain⟨B',hB'⟩:∃B',B'=(k-(2+x.j))%x.s:=⟨_,rfl⟩;have Po:Hid (x.vm (Im.bF Q) k= !(x.data k&&(bt (x.L (x.st A')) B' !=decide (0<Im.bF Q k)))):=by
    show _=_;unfold Im.vm;rw[<-hA',<-hB'];have e1:decide (0<Im.bF Q k)=(Im.bF Q k !=0):=by
     by_cases h:Im.bF Q k=0
     ·simp[h]
     ·rw[decide_eq_true (by omega)];simp[h]
    rw[e1];cases x.data k<;>cases bt (x.L (x.st A')) B'<;>cases (Im.bF Q k !=0)<;>rfl
   have L4:Hid (x.data k=true->A=(A':Int)/\B=(B':Int)/\A'<x.g/\B'<2048):=λhd=>by
    obtain⟨e1,e2⟩:=HAB.out hd;have hm:=dL HX.out.may;have hnn:=HX.out.n;refine⟨by rw[e1,hA'],by rw[e2,hB'],?_,?_⟩
    ·rw[hA']
     unfold Im.data at hd;simp only[Bool.and_eq_true,decide_eq_true_eq] at hd;exact(Nat.div_lt_iff_lt_mul (by omega)).2 (by omega)
    ·rw[hB']
     have:(k-(2+x.j))%x.s<x.s:=Nat.mod_lt _ (by omega);omega
   have hOW:=hQi k;have HBI:Hid (∀hA:A'<x.g,∀W,nX w p b off cap x ds r ci ak pt Q W->Calls Tryz.prog 148 #[.pointer (some ⟨p,0,none⟩),.int .i64 (A':Int),.int .i64 0] W λe w'=>∃q,e= .returned (.slice (some ⟨q,0,none⟩) 2048 2048)/\W.heap.size<=q/\az w' q 4 1 2048 (kr (bt (x.L (x.st A'))))/\Below W.heap.size W w'):=λhA W hW=>fW HX.out p b off cap ds _ _ _ A' 0 hA (by decide) W hW.k.i.k
   have D2:Hid (∀W,nX w p b off cap x ds r ci ak pt Q W->Calls Tryz.prog 153 #[.pointer (some ⟨p,0,none⟩),.int .i64 (k:Int)] W λe w'=>e= .returned (.bool (x.data k))/\Below W.heap.size W w'):=λW hW=>qQ HX.out p b off cap ds _ _ _ k W hW.k.i.k
   have HOW:Hid (∀W,nX w p b off cap x ds r ci ak pt Q W->Calls Tryz.prog 74 #[.pointer (some ⟨p,0,none⟩),.int .i64 (k:Int)] W λe w'=>e= .returned (.int .i64 ((Im.bF Q k:Nat):Int))/\Below W.heap.size W w'):=λW hW=>kJ p b off cap ds _ _ _ Q (by omega) k W hW.k.i.k hW.k.q
   obtain⟨D,hD⟩:∃D,D=x.data k:=⟨_,rfl⟩;obtain⟨bit,Gb⟩:∃bit,bit=bt (x.L (x.st A')) B':=⟨_,rfl⟩;obtain⟨own,hown⟩:∃own,own=Im.bF Q k:=⟨_,rfl⟩;rw[<-hD] at Po L4 D2;rw[<-Gb] at Po;rw[<-hown] at Po HOW hOW;have SH:=hid Gb;clear HAB hA' hB' hD Gb hown;apply Vl.gk (λi v W=>LH p k A' B' D bit (x.L (x.st A')) own i v W) (λ_ W=>nX w p b off cap x ds r ci ak pt Q W)
   case hm=>kernel_rfl
   case hd=>kernel_rfl
   case hS=>exactλl l' W he h=>h
   case h0=>exact aV.out.below ⟨rfl,rfl,rfl,Nat.le_refl _,λ_ _=>rfl⟩
   case hB=>kernel_rfl
   case hst=>
    intro hB;refine⟨?_,?_,?_,?_,?_,?_,?_,?_,?_,?_,?_,?_,?_,?_,?_,?_,trivial⟩
    ·exactλl a1 W hl hu h=>Vl.bB h hB rfl rfl rfl hl _ (Vl.ea (.tmp 0) rfl (h.old 0 (by kernel_rfl))) (.c rfl (by decide) (by decide)) (λs=>s)
    ·exactλl a1 W hl hu h=>Vl.bB h hB rfl rfl rfl hl _ (Vl.ea (.tmp 3) rfl (h.old 3 (by kernel_rfl))) (.c rfl (by decide) (by decide)) (λs=>s)
    ·intro l a1 W hl hu h
     have e1:a1.tmps.getD 26 undef= .pointer (some ⟨p,0,none⟩):=(h.vals 0 26 (aq hu 0) rfl).k _ rfl;have e2:a1.tmps.getD 27 undef= .int .i64 (k:Int):=(h.vals 1 27 (aq hu 1) rfl).k _ rfl;refine Vl.step h hB rfl rfl rfl hl (Vl.iQ 153 _ (Vl.nr 153 (.tmp 26) (.tmp 27) _ _ _ rfl e1 e2 (by kernel_rfl)) ?_);refine(D2.out W h.st).mono ?_;rintro e W' ⟨rfl,hb⟩;exact⟨_,rfl,_,rfl,λi v _ hv=>hv.below hb,.c rfl (by decide) (by decide),nX.below h.st hb⟩
    ·exactλl a1 W hl hu h=>Vl.bB h hB rfl rfl rfl hl _ (Vl.ea (.tmp 28) rfl ((h.vals 2 28 (aq hu 2) rfl).k _ rfl)) (.c rfl (by decide) (by decide)) (λs=>s)
    ·intro l a1 W hl hu h
     exact Vl.stepG h hB rfl 3 true rfl 29 rfl D ((h.vals 3 29 (aq hu 3) rfl).k _ rfl) hl (λe=>by
      subst e;exact eM (Vl.ea (.tmp 0) rfl (h.old 0 (by kernel_rfl))) ⟨_,rfl,λ_ _ _ h=>h,.c rfl (by decide) (by decide),h.st⟩) (λe=>⟨.u e rfl,h.st⟩)
    ·intro l a1 W hl hu h
     exact Vl.stepG h hB rfl 3 true rfl 29 rfl D ((h.vals 3 29 (aq hu 3) rfl).k _ rfl) hl (λe=>by
      subst e;exact eM (Vl.ea (.tmp 5) rfl ((h.old 5 (by kernel_rfl)).trans (show Value.int .i64 A=_ by rw[(L4.out rfl).1]))) ⟨_,rfl,λ_ _ _ h=>h,.c rfl (by decide) (by decide),h.st⟩) (λe=>⟨.u e rfl,h.st⟩)
    ·intro l a1 W hl hu h
     refine Vl.stepG h hB rfl 3 true rfl 29 rfl D ((h.vals 3 29 (aq hu 3) rfl).k _ rfl) hl (λe=> ?_) (λe=>⟨.u e rfl,h.st⟩);subst e;have e1:a1.tmps.getD 30 undef= .pointer (some ⟨p,0,none⟩):=(h.vals 4 30 (aq hu 4) rfl).k _ rfl;have e2:a1.tmps.getD 31 undef= .int .i64 (A':Int):=(h.vals 5 31 (aq hu 5) rfl).k _ rfl;refine Vl.iQ 148 _ (Vl.II 148 (.tmp 30) (.tmp 31) (.const (.int .i64 0)) _ _ _ _ rfl e1 e2 rfl (by kernel_rfl)) ?_;refine(HBI.out (L4.out rfl).2.2.1 W h.st).mono ?_;rintro e W' ⟨g,rfl,_,hR,hb⟩;exact⟨_,rfl,_,rfl,λi v _ hv=>hv.below hb,⟨(λu hu=>by cases hu),λ_ _=>⟨g,rfl,hR⟩,λe=>by cases e⟩,nX.below h.st hb⟩
    ·intro l a1 W hl hu h
     exact Vl.stepG h hB rfl 3 true rfl 29 rfl D ((h.vals 3 29 (aq hu 3) rfl).k _ rfl) hl (λe=>by
      subst e;exact eM (Vl.ea (.tmp 6) rfl ((h.old 6 (by kernel_rfl)).trans (show Value.int .i64 B=_ by rw[(L4.out rfl).2.1]))) ⟨_,rfl,λ_ _ _ h=>h,.c rfl (by decide) (by decide),h.st⟩) (λe=>⟨.u e rfl,h.st⟩)
    ·intro l a1 W hl hu h
     refine Vl.stepG h hB rfl 3 true rfl 29 rfl D ((h.vals 3 29 (aq hu 3) rfl).k _ rfl) hl (λe=> ?_) (λe=>⟨.u e rfl,h.st⟩);subst e;obtain⟨g,e1,hR⟩:=(h.vals 6 32 (aq hu 6) rfl).s rfl rfl;have e2:a1.tmps.getD 33 undef= .int .i64 (B':Int):=(h.vals 7 33 (aq hu 7) rfl).k _ rfl;exact eM (Vl.xM 132 4 (.tmp 32) (.tmp 33) rfl Tryz.underlying132 1 (by kernel_rfl) g 0 2048 2048 B' e1 e2 (L4.out rfl).2.2.2) ⟨_,rfl,λ_ _ _ h=>h,⟨(λu hu=>by cases hu),(λe=>by cases e),λ_ _=>⟨g,rfl,hR⟩⟩,h.st⟩
    ·intro l a1 W hl hu h
     refine Vl.stepG h hB rfl 3 true rfl 29 rfl D ((h.vals 3 29 (aq hu 3) rfl).k _ rfl) hl (λe=> ?_) (λe=>⟨.u e rfl,h.st⟩);subst e;obtain⟨g,e1,hR⟩:=(h.vals 8 34 (aq hu 8) rfl).a rfl rfl;have hcell:=fJ hR (L4.out rfl).2.2.2;rw[<-SH.out] at hcell;exact eM (Vl.KT 4 (.tmp 34) rfl g (0+B'*1) e1 (by rw[Nat.zero_add,Nat.mul_one];exact hcell) (by kernel_rfl)) ⟨_,rfl,λ_ _ _ h=>h,.c rfl (by decide) (by decide),h.st⟩
    ·intro l a1 W hl hu h
     exact Vl.stepG h hB rfl 3 true rfl 29 rfl D ((h.vals 3 29 (aq hu 3) rfl).k _ rfl) hl (λe=>by
      subst e;exact eM (Vl.ea (.tmp 0) rfl (h.old 0 (by kernel_rfl))) ⟨_,rfl,λ_ _ _ h=>h,.c rfl (by decide) (by decide),h.st⟩) (λe=>⟨.u e rfl,h.st⟩)
    ·intro l a1 W hl hu h
     exact Vl.stepG h hB rfl 3 true rfl 29 rfl D ((h.vals 3 29 (aq hu 3) rfl).k _ rfl) hl (λe=>by
      subst e;exact eM (Vl.ea (.tmp 3) rfl (h.old 3 (by kernel_rfl))) ⟨_,rfl,λ_ _ _ h=>h,.c rfl (by decide) (by decide),h.st⟩) (λe=>⟨.u e rfl,h.st⟩)
    ·intro l a1 W hl hu h
     refine Vl.stepG h hB rfl 3 true rfl 29 rfl D ((h.vals 3 29 (aq hu 3) rfl).k _ rfl) hl (λe=> ?_) (λe=>⟨.u e rfl,h.st⟩);subst e;have e1:a1.tmps.getD 36 undef= .pointer (some ⟨p,0,none⟩):=(h.vals 10 36 (aq hu 10) rfl).k _ rfl;have e2:a1.tmps.getD 37 undef= .int .i64 (k:Int):=(h.vals 11 37 (aq hu 11) rfl).k _ rfl;refine Vl.iQ 74 _ (Vl.nr 74 (.tmp 36) (.tmp 37) _ _ _ rfl e1 e2 (by kernel_rfl)) ?_;refine(HOW.out W h.st).mono ?_;rintro e W' ⟨rfl,hb⟩;exact⟨_,rfl,_,rfl,λi v _ hv=>hv.below hb,.c rfl (by decide) (by decide),nX.below h.st hb⟩
    ·intro l a1 W hl hu h
     refine Vl.stepG h hB rfl 3 true rfl 29 rfl D ((h.vals 3 29 (aq hu 3) rfl).k _ rfl) hl (λe=> ?_) (λe=>⟨.u e rfl,h.st⟩);subst e;have e1:a1.tmps.getD 38 undef= .int .i64 (own:Int):=(h.vals 12 38 (aq hu 12) rfl).k _ rfl;have NS:a1.eval (.tmp 38)= .int .i64 (own:Int):=e1;have hdd:decide ((0:Int)<(own:Int))=decide (0<own):=by rw[decide_eq_decide];omega
     refine eM (Vl.KV .gtr 3 3 (.tmp 38) (.const (.int .i64 0)) rfl (v:=.bool (decide (0<own))) ?_) ⟨_,rfl,λ_ _ _ h=>h,.c rfl (by decide) (by decide),h.st⟩;rw[NS,<-hdd];simp[go_sem]
    ·intro l a1 W hl hu h
     refine Vl.stepG h hB rfl 3 true rfl 29 rfl D ((h.vals 3 29 (aq hu 3) rfl).k _ rfl) hl (λe=> ?_) (λe=>⟨.u e rfl,h.st⟩);subst e;have e1:a1.tmps.getD 35 undef= .bool bit:=(h.vals 9 35 (aq hu 9) rfl).k _ rfl;have e2:a1.tmps.getD 39 undef= .bool (decide (0<own)):=(h.vals 13 39 (aq hu 13) rfl).k _ rfl;have NS:a1.eval (.tmp 35)= .bool bit:=e1;have e2':a1.eval (.tmp 39)= .bool (decide (0<own)):=e2;refine eM (Vl.KV .neq 4 4 (.tmp 35) (.tmp 39) rfl (v:=.bool (bit !=decide (0<own))) ?_) ⟨_,rfl,λ_ _ _ h=>h,.c rfl (by decide) (by decide),h.st⟩;rw[NS,e2'];generalize decide (0<own)=z;cases bit<;>cases z<;>simp[go_sem]
    ·intro l a1 W hl hu h
     have e1:a1.tmps.getD 29 undef= .bool D:=(h.vals 3 29 (aq hu 3) rfl).k _ rfl;refine Vl.bB h hB rfl rfl rfl hl _ (Vl.Mw (.tmp 29) (.tmp 40) (.const (.bool false)) D rfl e1 (v:=.bool (D&&(bit !=decide (0<own)))) ?_) (.c rfl (by decide) (by decide)) (λs=>s);cases hD:D with
     |false=>rfl
     |true=>
      subst hD;exact(h.vals 14 40 (aq hu 14) rfl).k _ rfl
   intro a' w2 h;have hall:=h.all [26,27,28,29,30,31,32,33,34,35,36,37,38,39,40,41] (Vl.Rz (by kernel_rfl));have O8:=(h.vals 15 41 rfl rfl).k _ rfl;obtain⟨Z,hZ⟩:∃Z,Z=(D&&(bit !=decide (0<own))):=⟨_,rfl⟩;rw[<-hZ] at O8 Po;have cf:=hid h.st;simp only[List.foldl_cons,List.foldl_nil] at hall;obtain⟨v26,ZU⟩:∃v,a'.tmps.getD 26 undef=v:=⟨_,rfl⟩;obtain⟨v27,BK⟩:∃v,a'.tmps.getD 27 undef=v:=⟨_,rfl⟩;obtain⟨v28,ZT⟩:∃v,a'.tmps.getD 28 undef=v:=⟨_,rfl⟩;obtain⟨v29,ZS⟩:∃v,a'.tmps.getD 29 undef=v:=⟨_,rfl⟩;obtain⟨v30,ZR⟩:∃v,a'.tmps.getD 30 undef=v:=⟨_,rfl⟩;obtain⟨v31,ZQ⟩:∃v,a'.tmps.getD 31 undef=v:=⟨_,rfl⟩;obtain⟨v32,ZP⟩:∃v,a'.tmps.getD 32 undef=v:=⟨_,rfl⟩;obtain⟨v33,ZO⟩:∃v,a'.tmps.getD 33 undef=v:=⟨_,rfl⟩;obtain⟨v34,ZN⟩:∃v,a'.tmps.getD 34 undef=v:=⟨_,rfl⟩;obtain⟨v35,ZM⟩:∃v,a'.tmps.getD 35 undef=v:=⟨_,rfl⟩;obtain⟨v36,ZL⟩:∃v,a'.tmps.getD 36 undef=v:=⟨_,rfl⟩;obtain⟨v37,h37⟩:∃v,a'.tmps.getD 37 undef=v:=⟨_,rfl⟩;obtain⟨v38,ZK⟩:∃v,a'.tmps.getD 38 undef=v:=⟨_,rfl⟩;obtain⟨v39,ZJ⟩:∃v,a'.tmps.getD 39 undef=v:=⟨_,rfl⟩;obtain⟨v40,ZI⟩:∃v,a'.tmps.getD 40 undef=v:=⟨_,rfl⟩;rw[O8,ZU,BK,ZT,ZS,ZR,ZQ,ZP,ZO,ZN,ZM,ZL,h37,ZK,ZJ,ZI] at hall;clear h O8 hZ ZU BK ZT ZS ZR ZQ ZP ZO ZN ZM ZL h37 ZK ZJ ZI;simp only[Act.put,List.setIfInBounds_toArray,List.set_cons_succ,List.set_cons_zero] at hall;subst hall;clear aV;cases Z with
   |true=>
    have ct:Hid (aD (x.vm (Im.bF Q)) x.n=false):=bJ hlt Po.out;go_wp2_with fail;go_ret;exact⟨by rw[ct.out];rfl,cf.out.bel⟩
   |false=>
    have gi:Hid (∀j,j<k+1->x.vm (Im.bF Q) j=true):=λj hj=>by
     rcases Nat.lt_succ_iff_lt_or_eq.1 hj with h|h
     ·exact HP.out j h
     ·rw[h];exact Po.out
    go_wp2_with fail;go_roundw
    case rel=>(try((repeat apply Exists.intro);refine⟨?_,rfl⟩));exact⟨k+1,by omega,by go_num,gi.out,cf.out⟩
    case measure=>simp[intOf];omega
  ·obtain rfl:k=x.n:=by omega
   go_wp2_with fail;go_ret;exact⟨by rw[(aP _ _).2 HP.out];rfl,ST.out.bel⟩
theorem Iw{l:Nat}:Im.fL l=1↔l=0:=by
 unfold Im.fL;cases l with
 |zero=>simp
 |succ l=>rw[Nat.pow_succ];constructor<;>intro h<;>omega
theorem BZ:∀{Q:List Im.Pt} {k:Nat} {y:Im.Pt} {t i:Nat},Q[k]? =some y->(∀(j:Nat) (z:Im.Pt),j<k->Q[j]? =some z->¬(z.i=t/\z.l=0/\z.f=i))->(y.i=t/\y.l=0/\y.f=i)->Im.kt Q t i=y.b
 |[],k,y,t,i,h,_,_=>by cases h
 |z::Q,0,y,t,i,h,_,hc=>by injection h with h;subst h;rw[Im.kt,if_pos hc]
 |z::Q,k+1,y,t,i,h,hn,hc=>by
  rw[Im.kt,if_neg (hn 0 z (Nat.succ_pos _) rfl)];exact BZ (k:=k) h (λj w hj hw=>hn (j+1) w (by omega) hw) hc
theorem uA:∀{Q:List Im.Pt} {t i:Nat},(∀(j:Nat) (z:Im.Pt),Q[j]? =some z->¬(z.i=t/\z.l=0/\z.f=i))->Im.kt Q t i=0
 |[],t,i,_=>rfl
 |z::Q,t,i,h=>by
  rw[Im.kt,if_neg (h 0 z rfl)];exact uA λj w hw=>h (j+1) w hw
theorem xL(p b off cap:Nat)(ds ino ak pt:Value)(Q:List Im.Pt)(hQ:Q.length<=4294967296)(t i:Nat)(w:World)(h:qj p b off cap x ds ino ak pt w)(hp:Ky p Q pt w):
  Calls Tryz.prog 162 #[.pointer (some ⟨p,0,none⟩),.int .i64 (t:Int),.int .i64 (i:Int)] w λe w'=>e= .returned (.int .i64 ((Im.kt Q t i:Nat):Int))/\Below w.heap.size w w':=by
 obtain⟨a,cap',rfl,hr⟩:=hp;have cp:w.cell? ⟨p,13,none⟩=some (.slice a Q.length cap'):=h.a.cell (i:=13) rfl;have HR:=hid hr;obtain⟨n,hn⟩:∃n,n=Q.length:=⟨_,rfl⟩;have HN:=hid hn;rw[<-hn] at cp hQ;clear hr h hn;go_enter Tryz.func162,Tryz.ntmps162;go_wp2_with fail;go_loopw [7] (λu wr=>∃k:Nat,k<=n/\u= .int .i64 (k:Int)/\(∀(j:Nat) (z:Im.Pt),j<k->Q[j]? =some z->¬(z.i=t/\z.l=0/\z.f=i))/\wr=w) (λu _=>n-(intOf u).toNat)
 case atStart=>exact⟨0,Nat.zero_le _,rfl,λj z h=>by omega,rfl⟩
 case round=>
  obtain⟨k,hk,rfl,hno,rfl⟩:=hrel;have ct:=hid hno;clear hno
  by_cases hlt:k<n
  ·have hlt':(k:Int)<(n:Int):=by omega
   obtain⟨y,hy⟩:∃y,Q[k]? =some y:=⟨_,List.getElem?_eq_getElem (by rw[<-HN.out];exact hlt)⟩;obtain⟨g,o',Ge,lF⟩:∃b' off',a=some ⟨b',off',none⟩/\aF wr b' off' 4 Q.length (zl Q):=by
    rcases HR.out with h|h
    ·have:=HN.out;omega
    ·exact h
   subst Ge;have hk':k<Q.length:=by have:=HN.out;omega
   have e:=qX hy;have c0:wr.cell? ⟨g,o'+k*4,none⟩=some (.int .i64 (y.i:Int)):=lF k hk' 0 _ (by rw[e];rfl);have c1:wr.cell? ⟨g,o'+k*4+1,none⟩=some (.int .i64 (y.b:Int)):=lF k hk' 1 _ (by rw[e];rfl);have c2:wr.cell? ⟨g,o'+k*4+2,none⟩=some (.int .i64 (y.f:Int)):=lF k hk' 2 _ (by rw[e];rfl);have c3:wr.cell? ⟨g,o'+k*4+3,none⟩=some (.int .i64 ((Im.fL y.l:Nat):Int)):=lF k hk' 3 _ (by rw[e];rfl);have HY:=hid hy;clear lF e hk' hy;obtain⟨S,hS⟩:∃S,S=Im.fL y.l:=⟨_,rfl⟩;rw[<-hS] at c3;obtain⟨C1,Gh⟩:∃C,C=((y.i:Int)==(t:Int)):=⟨_,rfl⟩;obtain⟨C2,Ef⟩:∃C,C=((S:Int)==1):=⟨_,rfl⟩;obtain⟨C3,Ee⟩:∃C,C=((y.f:Int)==(i:Int)):=⟨_,rfl⟩;have g1:=Gh.symm;have g2:=Ef.symm;have g3:=Ee.symm;have HC:Hid ((C1&&(C2&&C3))=true↔(y.i=t/\y.l=0/\y.f=i)):=by
    show _↔_;rw[Gh,Ef,Ee,Bool.and_eq_true,Bool.and_eq_true,beq_iff_eq,beq_iff_eq,beq_iff_eq,hS,<-Iw];omega
   have ky:Hid ((C1&&(C2&&C3))=false->∀(j:Nat) (z:Im.Pt),j<k+1->Q[j]? =some z->¬(z.i=t/\z.l=0/\z.f=i)):=λhf j z hj hz=>by
    rcases Nat.lt_succ_iff_lt_or_eq.1 hj with h|h
    ·exact ct.out j z h hz
    ·subst h
     have:=HY.out;rw[hz] at this;injection this with this
     rw[this];intro hc;rw[HC.out.2 hc] at hf;cases hf
   have HE:Hid ((C1&&(C2&&C3))=true->Im.kt Q t i=y.b):=λhf=>BZ HY.out ct.out (HC.out.1 hf)
   clear Gh Ef Ee hS;cases C1<;>cases C2<;>cases C3
   all_goals
    go_wp2_with fail
    first
    |(go_roundw
      case rel=>first|exact⟨k+1,by omega,by go_num,ky.out rfl,rfl⟩|exact⟨k+1,by omega,by go_num,ky.out rfl,trivial⟩|exact⟨k+1,by omega,by go_num,ky.out rfl⟩
      case measure=>simp[intOf];omega)
    |(go_ret
      exact⟨by rw[HE.out rfl];rfl,Below.refl _ _⟩)
  ·obtain rfl:k=n:=by omega
   have HE:Hid (Im.kt Q t i=0):=uA λj z hz=>ct.out j z (by have:=(List.getElem?_eq_some_iff.1 hz).1;have:=HN.out;omega) hz
   go_wp2_with fail;go_ret;exact⟨by rw[HE.out];rfl,Below.refl _ _⟩
def lP(l:List (Nat×ByteArray)):List Value:=l.flatMap λe=>[.int .u32 (e.1:Int),.string e.2]
theorem EL(l:List (Nat×ByteArray))(e:Nat×ByteArray):lP (l++[e])=lP l++[.int .u32 (e.1:Int),.string e.2]:=by unfold lP;rw[List.flatMap_append];rfl
structure N4(w:World)(p b off cap:Nat)(x:Im)(ds:Value)(r ci:Nat)(ak pt:Value)(Q:List Im.Pt)(v:Value)(l:List (Nat×ByteArray))(W:World):Prop where
 k:nX w p b off cap x ds r ci ak pt Q W
 o:W.ownsRow w.heap.size 90 2 v l.length (lP l)
theorem N4.below{Q:List Im.Pt}{W:World}(h:N4 w p b off cap x ds r ci ak pt Q v l W)(hb:Below W.heap.size W W'):N4 w p b off cap x ds r ci ak pt Q v l W':=⟨h.k.below hb,nC h.o hb⟩
structure Pc(w:World)(p b off cap:Nat)(x:Im)(ds:Value)(r ci:Nat)(ak pt:Value)(Q:List Im.Pt)(v:Value)(l:List (Nat×ByteArray))(z:Nat->Int)(g cg:Nat)(W:World):Prop where
 s:N4 w p b off cap x ds r ci ak pt Q v l W
 z:W.ownsRow w.heap.size 90 2 (.slice (some ⟨g,0,none⟩) 8 cg) 8 (Sc (dI z) (dM z) 8)
 ne:v.ownBlock≠some g
theorem Pc.below{Q:List Im.Pt}{z:Nat->Int}{g cg:Nat}{W:World}(h:Pc w p b off cap x ds r ci ak pt Q v l z g cg W)(hb:Below W.heap.size W W'):Pc w p b off cap x ds r ci ak pt Q v l z g cg W':=⟨h.s.below hb,nC h.z hb,h.ne⟩
def TD(w:World)(Q:List Im.Pt)(pt:Value):Prop:=∀a c bb o,pt= .slice a Q.length c->a=some ⟨bb,o,none⟩->0<Q.length->bb<w.heap.size
theorem Ky.bd{Q:List Im.Pt}(h:Ky p Q v w):TD w Q v:=by
 intro a c bb o e1 e2 h0;obtain⟨a',c',rfl,hr⟩:=h;injection e1 with e1
 subst e1 e2;rcases hr with h|⟨b',off',e,hs⟩
 ·omega
 ·injection e with e
  injection e with e
  rw[e];exact aF.lt hs h0 (λe=>by have:=pS Q 0;rw[e] at this;cases this)
theorem nX.grown{Q:List Im.Pt}{W:World}{row:Option Nat}(h:nX w p b off cap x ds r ci ak pt Q W)(hg:W.grownBy W' row)(hl:∀q,row=some q->w.heap.size<=q)(h1:p<w.heap.size)(h2:b<w.heap.size)(h3:r<w.heap.size)(h4:TD w Q pt):nX w p b off cap x ds r ci ak pt Q W':=by
 have n1:∀j,j<w.heap.size->row≠some j:=λj hj e=>by have:=hl j e;omega
 have hi:=h.k.i;refine⟨⟨⟨⟨dq hi.k.a hg (n1 p h1),aF.fF hi.k.i hg hi.k.bl (λe=>n1 b h2 e.symm),Nat.lt_of_lt_of_le hi.k.bl hg.size⟩,aF.fF hi.i hg hi.rl (λe=>n1 r h3 e.symm),Nat.lt_of_lt_of_le hi.rl hg.size⟩,?_⟩,h.bel.grown hg h.bel.size hl⟩;obtain⟨a,c,e,hr⟩:=h.k.q;refine⟨a,c,e,?_⟩;rcases hr with hr|⟨bb,o,ha,hs⟩
 ·exact .inl hr
 ·by_cases h0:Q.length=0
  ·exact .inl h0
  ·have hbb:=h4 a c bb o e ha (by omega)
   exact .inr ⟨bb,o,ha,aF.fF hs hg (by have:=h.bel.size;omega) (λe=>n1 bb hbb e.symm)⟩
def TA(w:World)(x:Im)(t:Nat)(e:Ending)(w':World):Prop:=
 Below w.heap.size w w'/\((x.D7 t=none/\e= .returned (.tuple #[.slice none 0 0,.bool false]))\/
  ∃l a c,x.D7 t=some l/\e= .returned (.tuple #[.slice a l.length c,.bool true])/\w'.ownsRow w.heap.size 90 2 (.slice a l.length c) l.length (lP l))
theorem zP(u:Int)(s:ByteArray)(W:World):(Instr.buildSlice 88 1 #[(0,.agg #[.int .u32 u,.string s])]).run Tryz.prog W= .ok (.slice (some ⟨W.heap.size,0,none⟩) 1 1) (W.alloc (.cells #[.int .u32 u,.string s] 90)):=by kernel_rfl
theorem yd:∃i,Tryz.prog.info? 90=some i/\i.zero=some (.agg #[.int .u32 0,.string ByteArray.empty])/\i.size=2/\i.bytes=24:=by
 have h:=jV;cases hq:Tryz.prog.info? 90 with
 |none=>rw[hq] at h;cases h
 |some i=>
  rw[hq] at h;injection h with h
  injection h with h1 h2
  injection h2 with h2 h3
  exact⟨i,rfl,h1,h2,h3⟩
theorem pO(z:Nat->Int):∀k,(Im.sy z k).length<=k
 |0=>Nat.le_refl _
 |k+1=>by
  rw[Im.sy];split
  ·exact Nat.le_succ_of_le (pO z k)
  ·rw[List.length_append];exact Nat.succ_le_succ (pO z k)
theorem Bi{t n:Nat}(h:x.Iy t n=some l):l.length<=8*n:=by
 refine g9 (P:=λk (l:List (Nat×ByteArray))=>l.length<=8*k) h (Nat.zero_le _) λk a c _ ha hc=> ?_
 split at hc
 ·injection hc with hc
  have:=pO (x.L (x.blk t k)) 8;rw[<-hc,List.length_append];omega
 ·cases hc
theorem kI(hx:x.Ok)(ko:∀t,1<=t->t<=x.ni->(x.ino t).ki)(p b off cap:Nat)(ds:Value)(r ci:Nat)(ak pt:Value)(Q:List Im.Pt)(hQ:Q.length<=2048)(t:Nat)(ht1:1<=t)(ht:t<=x.ni)(ZB:∀i,i<65536->Im.kt Q t i=x.blk t i)(hBL:∀i,i<65536->x.blk t i≠0->x.blk t i<x.n)(w:World)(h:wT p b off cap x ds r ci ak pt Q w):
  Calls Tryz.prog 154 #[.pointer (some ⟨p,0,none⟩),.int .i64 (t:Int)] w λe w'=>TA w x t e w':=by
 have HX:=hid hx;have hni:x.ni<=256:=eK hx.may;have fY:=hx.iu;have hsz:=(aK.mA (ko t ht1 ht)).1;obtain⟨N,hN⟩:∃N,N=(x.ino t).size.toNat/256:=⟨_,rfl⟩;have O1:N<=65536:=by omega
 have hq0:(x.ino t).size.tdiv 256=(N:Int):=by rw[Int.tdiv_eq_ediv_of_nonneg (by omega)];omega
 have HST:Hid (x.D7 t=x.Iy t N):=by show _=_;unfold Im.D7;rw[<-hN]
 have HBQ:=hid ZB;have mT:=hid hBL;have pH:Hid (p<w.heap.size/\b<w.heap.size/\r<w.heap.size/\TD w Q pt):=⟨h.i.k.a.lt,h.i.k.bl,h.i.rl,h.q.bd⟩;have cX:Hid (N4 w p b off cap x ds r ci ak pt Q (.slice none 0 0) [] w):=⟨⟨h,Below.refl _ _⟩,World.ownsRow_nil _ _ _ _⟩;have ht':(t:Int)<(x.ni:Int)+1:=by omega
 have t0:(0:Int)<=(t:Int):=by omega
 have LR:Hid (∀W,nX w p b off cap x ds r ci ak pt Q W->W.cell? ⟨r,t*16+3,none⟩=some (.int .i64 (x.ino t).size)):=λW h=>h.k.i.ino (t:=t) (by omega) 3 rfl
 obtain⟨sz,FT⟩:∃sz,sz=(x.ino t).size:=⟨_,rfl⟩;rw[<-FT] at LR hq0 hsz;clear h hx ko ZB hBL hN FT;go_enter Tryz.func154,Tryz.ntmps154;go_wp2_with fail;go_loopw [6,7,8,9,10,11] (λv u _ _ _ _ wr=>∃(k:Nat) (l:List (Nat×ByteArray)),k<=N/\u= .int .i64 (k:Int)/\x.Iy t k=some l/\N4 w p b off cap x ds r ci ak pt Q v l wr) (λ_ u _ _ _ _ _=>N-(intOf u).toNat)
 case atStart=>exact⟨0,[],Nat.zero_le _,rfl,rfl,cX.out⟩
 case round=>
  clear cX;obtain⟨k,l,hk,rfl,hl,st⟩:=hrel;have HL:=hid hl;have ST:=hid st;obtain⟨a1,c1,hv⟩:=jo st.o;subst hv;have c11:wr.cell? ⟨p,11,none⟩=some (.slice (some ⟨r,0,none⟩) (x.ni+1) ci):=st.k.k.i.k.a.cell (i:=11) rfl;have cS:=LR.out _ st.k;clear hl st
  by_cases hlt:k<N
  ·have hlt':(k:Int)<(N:Int):=by omega
   go_wp2_with fail;refine(xL (x:=x) p b off cap ds _ _ _ Q (by omega) t k wr ST.out.k.k.i.k ST.out.k.k.q).mono ?_;rintro e w1 ⟨rfl,hb1⟩;have aV:=hid (ST.out.below hb1);rw[HBQ.out k (by omega)];have ct:Hid (¬(x.blk t k≠0/\iI (x.L (x.blk t k))=true)->x.D7 t=none):=λh=>by
    rw[HST.out];exact cV HL.out (by rw[if_neg h]) hlt
   have gi:Hid ((x.blk t k≠0/\iI (x.L (x.blk t k))=true)->x.Iy t (k+1)=some (l++Im.sy (x.L (x.blk t k)) 8)):=λh=>bA HL.out (by rw[if_pos h])
   have HBN:=hid (mT.out k (by omega));obtain⟨B,hB⟩:∃B,B=x.blk t k:=⟨_,rfl⟩;rw[<-hB] at ct gi HBN ⊢;clear ST hb1 c11 cS hB
   by_cases hB0:B=0
   ·have q0:((B:Int)==0)=true:=by simp[hB0]
    have HF:=hid (ct.out (λh=>h.1 hB0));clear hB0;go_wp2_with fail;refine bodyPost_ret (results_tmp2 rfl _ _ _) rfl ?_;exact⟨aV.out.k.bel,.inl ⟨HF.out,rfl⟩⟩
   ·have q0:((B:Int)==0)=false:=by simp;omega
    have WG:=HBN.out hB0;have Rf:(B:Int)<(x.n:Int):=by omega
    have cL:w1.cell? ⟨p,0,none⟩=some (.slice (some ⟨b,off,none⟩) x.n cap):=aV.out.k.k.i.k.a.cell (i:=0) rfl;have Hg:=aV.out.k.k.i.k.blk WG;have pn:=hid hB0;clear hB0;go_wp2_with (first|(refine aB rfl 32 (.tmp 37) rfl b (off+B*256) (dW x.L B) _ rfl Hg Tryz.underlying32 rfl (by rw[aZ];exact au) ?_))
    refine(CS (x.L B) (HX.out.jg B) w1).mono ?_;rintro e w2 ⟨hb2,hC⟩;have cf:=hid (aV.out.below hb2);rcases hC with⟨hd,rfl⟩|⟨hd,a2,c2,rfl,hz⟩
    ·have HF:=hid (ct.out (λh=>by rw[hd] at h;cases h.2))
     clear hd hb2 aV Hg cL;go_wp2_with fail;refine bodyPost_ret (results_tmp2 rfl _ _ _) rfl ?_;exact⟨cf.out.k.bel,.inl ⟨HF.out,rfl⟩⟩
    ·obtain⟨g,cg,hg⟩:=jq hz (by decide)
     injection hg with hg1 _ hg3
     subst hg1 hg3;have hgl:=World.ownsRow.lt hz g rfl;have eP:Hid (Pc w p b off cap x ds r ci ak pt Q (.slice a1 l.length c1) (l++Im.sy (x.L B) 0) (x.L B) g c2 w2):=⟨by
       show N4 w p b off cap x ds r ci ak pt Q (.slice a1 l.length c1) (l++[]) w2;rw[List.append_nil];exact cf.out,⟨hz.1,by
       rcases hz.2 with⟨h0,_⟩|⟨g',c',cur,e,hg,h2⟩
       ·cases h0
       ·exact .inr ⟨g',c',cur,e,by have:=aV.out.k.bel.size;omega,h2⟩⟩,λe=>by have:=(World.ownsRow.lt aV.out.o g e).2;omega⟩
     have R0:=hid (gi.out ⟨pn.out,hd⟩);have Hi:=Bi R0.out;have HZ:=hid (HX.out.jg B);clear hz hgl cf hb2 aV Hg cL hd ct gi;obtain⟨z,Yn⟩:∃z,z=x.L B:=⟨_,rfl⟩;rw[<-Yn] at eP R0 Hi HZ;clear Yn;go_wp2_with fail;go_loopw [6,11] (λv u wr=>∃(j:Nat) (l2:List (Nat×ByteArray)) (a:Option Addr) (c:Nat),j<=8/\u= .int .i64 (j:Int)/\l2=l++Im.sy z j/\v= .slice a l2.length c/\Pc w p b off cap x ds r ci ak pt Q v l2 z g c2 wr) (λ_ u _=>8-(intOf u).toNat)
     case atStart=>exact⟨0,l,a1,c1,by omega,rfl,(List.append_nil l).symm,rfl,by have:=eP.out;rwa[show l++Im.sy z 0=l from List.append_nil l] at this⟩
     case round=>
      clear eP;obtain⟨j,l2,a3,c3,hj,rfl,hl2,rfl,st⟩:=hrel;have je:=hid hl2;have ST:=hid st;clear hl2 st
      by_cases SZ:j<8
      ·have ac2:(j:Int)<8:=by omega
       have j0':(0:Int)<=(j:Int):=by omega
       obtain⟨cD,cN⟩:wr.cell? ⟨g,j*2,none⟩=some (.int .u32 (dI z j))/\wr.cell? ⟨g,j*2+1,none⟩=some (.string (dM z j)):=by
        rcases ou ST.out.z with h|⟨b',o',e,hs⟩
        ·omega
        ·injection e with e
         injection e with e1 e2
         subst e1 e2;have:=hs j SZ;rwa[Nat.zero_add] at this
       have pZ:=Gy HZ.out j;have H7:Hid (Im.sy z (j+1)=if dI z j=0 then Im.sy z j else Im.sy z j++[((dI z j).toNat,dM z j)]):=rfl;have hll:l2.length<=8*(N+1)+8:=by
        rw[je.out,List.length_append];have:=pO z j;rw[List.length_append] at Hi;omega
       obtain⟨d,hd⟩:∃d,d=dI z j:=⟨_,rfl⟩;obtain⟨s,hs⟩:∃s,s=dM z j:=⟨_,rfl⟩;rw[<-hd,<-hs] at H7;rw[<-hd] at cD pZ;rw[<-hs] at cN;clear hd hs
       by_cases hd0:d=0
       ·have q0:decide ((0:Int)<d)=false:=decide_eq_false (by omega)
        have HF:Hid (l2=l++Im.sy z (j+1)):=by show _=_;rw[je.out,H7.out,if_pos hd0]
        clear hd0;go_wp2_with fail;go_roundw
        case rel=>(try((repeat apply Exists.intro);refine⟨?_,rfl⟩));exact⟨j+1,l2,a3,c3,by omega,by go_num,HF.out,rfl,ST.out⟩
        case measure=>simp[intOf];omega
       ·have q0:decide ((0:Int)<d)=true:=decide_eq_true (by omega)
        have HF:Hid (l2++[(d.toNat,s)]=l++Im.sy z (j+1)):=by show _=_;rw[je.out,H7.out,if_neg hd0,List.append_assoc]
        have hrow:wr.rangeAt g (j*2) [.int .u32 d,.string s]:=λq v hq=>by
         match q,hq with
         |0,hq=>injection hq with hq;subst hq;exact cD
         |1,hq=>injection hq with hq;subst hq;exact cN
         |q+2,hq=>cases hq
        obtain⟨i0,hi0,hz0,hz1,hz2⟩:=yd;have vX:Below wr.heap.size wr (wr.alloc (.cells #[.int .u32 d,.string s] 90)):=(Below.refl _ _).alloc (Nat.le_refl _) _;have nR:=hid (ST.out.below vX);have hown:=nR.out.s.o;have hnews:=qE wr d s;have h1c:=pN d s;have hbase:=nR.out.s.k.bel.size;have UU:(Tryz.prog.info? 90).map (·.size)=some ([.int .u32 d,.string s]:List Value).length:=by kernel_rfl
        clear hd0 ST vX cN H7;go_wp2_with (first|(refine aB rfl 90 (.tmp 59) rfl g (j*2) [.int .u32 d,.string s] _ rfl hrow Tryz.underlying90 rfl UU ?_)|(refine dt rfl 88 1 0 (.tmp 60) rfl (.agg #[.int .u32 d,.string s]) rfl _ _ (zP _ _ _) ?_)|(refine wpList_append_own_at _ rfl (.tmp 56) (.tmp 61) 88 rfl w.heap.size 90 i0 (.agg #[.int .u32 0,.string ByteArray.empty]) 2 24 Tryz.underlying88 hi0 hz0 hz1 hz2 rfl (by decide) (.slice a3 l2.length c3) l2.length (lP l2) rfl hown ⟨wr.heap.size,0,none⟩ 1 1 [.int .u32 d,.string s] rfl rfl hnews h1c (by unfold maxLen;omega) (by omega) hbase ?_))
        intro v' w5 yn wQ _ JF;have Ju:∀q,(Value.slice a3 l2.length c3).ownBlock=some q->w.heap.size<=q:=λq hq=>(World.ownsRow.lt hown q hq).1
        have hgl:g<wr.heap.size+1:=by have:=(World.ownsRow.lt nR.out.z g rfl).2;rw[World.size_alloc] at this;exact this
        have Hn:Pc w p b off cap x ds r ci ak pt Q v' (l2++[(d.toNat,s)]) z g c2 w5:=by
         refine⟨⟨nR.out.s.k.grown wQ Ju pH.out.1 pH.out.2.1 pH.out.2.2.1 pH.out.2.2.2,?_⟩,World.ownsRow.kept nR.out.z wQ (.inr λe=>nR.out.ne e.symm),λe=> ?_⟩
         ·rw[EL,List.length_append]
          show w5.ownsRow _ _ 2 v' (l2.length+1) (lP l2++[.int .u32 ((d.toNat:Nat):Int),.string s]);rw[Int.toNat_of_nonneg pZ.1];exact yn
         ·rcases JF with e2|e2
          ·exact nR.out.ne (e2.symm.trans e)
          ·rw[e] at e2
           injection e2 with e2
           have h6:=(World.ownsRow.lt nR.out.z g rfl).2;omega
        obtain⟨a6,c6,MZ⟩:=jo yn;subst MZ;have ec:=hid Hn;clear nR hown hnews h1c hbase yn wQ JF Hn Ju hgl hrow cD;go_wp2_with fail;go_roundw
        case rel=>(try((repeat apply Exists.intro);refine⟨?_,rfl⟩));exact⟨j+1,l2++[(d.toNat,s)],a6,c6,by omega,by go_num,HF.out,by rw[List.length_append];rfl,ec.out⟩
        case measure=>simp[intOf];omega
      ·obtain rfl:j=8:=by omega
       have zt:Hid (x.Iy t (k+1)=some l2):=by show _=_;rw[R0.out,je.out]
       go_wp2_with fail;go_roundw
       case rel=>(try((repeat apply Exists.intro);refine⟨?_,rfl⟩));exact⟨k+1,l2,by omega,by go_num,zt.out,ST.out.s⟩
       case measure=>simp[intOf];omega
  ·obtain rfl:k=N:=by omega
   have HF:Hid (x.D7 t=some l):=by show _=_;rw[HST.out];exact HL.out
   go_wp2_with fail;refine bodyPost_ret (results_tmp2 rfl _ _ _) rfl ?_;exact⟨ST.out.k.bel,.inr ⟨l,a1,c1,HF.out,rfl,ST.out.o⟩⟩
end Go.Proofs.YtphamecphmbipaaGreatDoor
