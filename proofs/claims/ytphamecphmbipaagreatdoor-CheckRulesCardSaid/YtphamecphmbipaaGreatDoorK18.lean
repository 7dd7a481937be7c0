/- Texts of this claim, merged. -/
import Derived.Test.YtphamecphmbipaaGreatDoorK17
import Derived.Test.YtphamecphmbipaaGreatDoorK16
set_option linter.unusedVariables false
set_option maxRecDepth 100000
set_option maxHeartbeats 16000000

namespace Go.Proofs.YtphamecphmbipaaGreatDoor
open Go.RowKit
open Lib (hid)
variable {g s i j p b off:Nat} {w:World} {T:TypeId} {cs:Array Value} {v:Value} {x:Im}
theorem vF(hm:aM g s i j=true):pX g s i j=((g*i:Nat):Int):=by
 unfold pX;rw[hm,if_pos rfl,Int.natCast_mul]
theorem eK(hm:aM g s i j=true):g*i<=256:=by
 have h1:=Fy g s i j;rw[vF hm] at h1;omega
theorem nJ(g s i j k:Nat)(hm:aM g s i j=true)(hk:k<g)(w:World):Calls Tryz.prog 18 #[bN g s i j,.int .i64 (k:Int)] w λe w'=>e= .returned (.tuple #[.int .i64 ((2+j+k*s:Nat):Int),.bool true])/\Below w.heap.size w w':=by
 refine(vZ g s i j k w).mono ?_;rintro e w' ⟨rfl,hb⟩;have h1:ru g s i j k=true:=by unfold ru;rw[hm];simp;omega
 have h2:zK g s i j k=((2+j+k*s:Nat):Int):=by unfold zK;rw[h1,if_pos rfl];simp
 rw[h1,h2];exact⟨rfl,hb⟩
theorem o9(g s i j u:Nat)(hm:aM g s i j=true)(hu:u<g*i)(w:World):Calls Tryz.prog 47 #[bN g s i j,.int .i64 ((u:Int)+1)] w λe w'=>e= .returned (.tuple #[.int .i64 ((u/i:Nat):Int),.int .i64 ((u%i:Nat):Int),.bool true])/\Below w.heap.size w w':=by
 have HA:=hid (At.new w 23 (aa g s i j));have HL:Hid (Below w.heap.size w (w.alloc (.cells (aa g s i j) 23))):=(Below.refl _ _).alloc (Nat.le_refl _) _;obtain⟨h1,h2,h3,h4,h5,h6,h7,h8,h9,h10,h11⟩:=(aX g s i j).1 hm;have Jq:=vF hm;have BI:=eK hm;obtain⟨N,hN⟩:∃N,N=g*i:=⟨_,rfl⟩;rw[<-hN] at hu Jq BI;have hq:(u:Int).tdiv (i:Int)=((u/i:Nat):Int):=by rw[Int.tdiv_eq_ediv_of_nonneg (by omega)];rfl
 have hr:(u:Int).tmod (i:Int)=((u%i:Nat):Int):=by rw[Int.tmod_eq_emod_of_nonneg (by omega)];rfl
 have HQ:=hid hq;have HR:=hid hr;clear hN hq hr;go_enter Tryz.func47,Tryz.ntmps47;have hA:=HA.out;go_wp2_with (first|(refine ar rfl 23 _ rfl _ _ _ rfl hA Tryz.underlying23 rfl (by kernel_rfl) ?_))
 refine(jb g s i j _).mono ?_;rintro e w1 ⟨rfl,hb1⟩;have eR:Xo w g s i j w1:=⟨hA.below hb1 hA.lt,HL.out.trans (hb1.mono HL.out.size)⟩;rw[Jq];clear hA HA HL hb1 hm h11 Jq;have q1:¬(N:Int)<(u:Int)+1:=by omega
 have q2:decide ((N:Int)<(u:Int)+1)=false:=decide_eq_false q1;have q3:¬(u:Int)+1<1:=by omega
 go_wp2_with fail;refine ai (Xo w g s i j) (by kernel_rfl) (by kernel_rfl) ⟨eR.g,eR.bel.drew⟩ ?_;clear eR;intro hne;have hc:∀y:aT (Xo w g s i j),y.W.cell? ⟨w.heap.size,2,none⟩=some (.int .i64 (i:Int)):=λy=>y.h.g.cell (i:=2) rfl
 have hi0:((i:Int)==0)=false:=by simp;omega
 have hi1:(i:Int)≠0:=by omega
 have hq:=HQ.out;have hr:=HR.out;iterate 13 go_big_quiet_step (fail)
 refine wpQuiet_nil ?_;intro w5 h5;have eB:=h5.out;clear h5 hne hc;go_wp2_with fail
 go_ret3
 refine⟨?_,eB.bel⟩;show Ending.returned (.tuple #[.int .i64 (wrap64 ((u:Int)/(i:Int))),.int .i64 ((u:Int)%(i:Int)),.bool true])=_;have e1:(u:Int)/(i:Int)=((u/i:Nat):Int):=rfl;have e2:u/i<=u:=Nat.div_le_self _ _;rw[e1];generalize u/i=q at e2 ⊢;rw[IntWalk.wrap64_in _ (by omega)]
 rfl
theorem v7(g s i j u:Nat)(hm:aM g s i j=true)(hu:u<g*i)(w:World):Calls Tryz.prog 20 #[bN g s i j,.int .i64 ((u:Int)+1)] w λe w'=>e= .returned (.tuple #[.int .i64 ((2+j+u/i*s+2+u%i/4:Nat):Int),.int .i64 ((u%i%4*64:Nat):Int),.bool true])/\Below w.heap.size w w':=by
 have HA:=hid (At.new w 23 (aa g s i j));have HL:Hid (Below w.heap.size w (w.alloc (.cells (aa g s i j) 23))):=(Below.refl _ _).alloc (Nat.le_refl _) _;have HM:=hid hm;have hi:0<i:=by obtain⟨h1,h2,h3,h4,h5,h6,h7,h8,h9,h10,h11⟩:=(aX g s i j).1 hm;omega
 have hG:u/i<g:=Nat.div_lt_of_lt_mul (by rw[Nat.mul_comm];exact hu);have zm:i<=64:=by obtain⟨h1,h2,h3,h4,h5,h6,h7,h8,h9,h10,h11⟩:=(aX g s i j).1 hm;omega
 have hB:u%i<i:=Nat.mod_lt _ hi;have hend:Hid (2+j+u/i*s<=2048):=by
  show _<=_;obtain⟨h1,h2,h3,h4,h5,h6,h7,h8,h9,h10,h11⟩:=(aX g s i j).1 hm;have:((u/i*s:Nat):Int)<=((g*s:Nat):Int):=by
   have:=Nat.mul_le_mul_right s (Nat.le_of_lt hG);omega
  rw[Int.natCast_mul g s] at this;omega
 have HU:=hid hu;have G1:=hid hG;clear hm hu;go_enter Tryz.func20,Tryz.ntmps20;have hA:=HA.out;go_wp2_with (first|(refine ar rfl 23 _ rfl _ _ _ rfl hA Tryz.underlying23 rfl (by kernel_rfl) ?_))
 refine(o9 g s i j u HM.out HU.out _).mono ?_;rintro e w1 ⟨rfl,hb1⟩;have hg1:=hA.below hb1 hA.lt;have lq:=hid (HL.out.trans (hb1.mono HL.out.size));clear hA HA HL hb1;obtain⟨γ,hγ⟩:∃γ,γ=u/i:=⟨_,rfl⟩;obtain⟨r,hρ⟩:∃r,r=u%i:=⟨_,rfl⟩;rw[<-hγ,<-hρ];rw[<-hρ] at hB;have TZ:=hid hγ;have Ie:=hid hρ;have HGG:Hid (γ<g):=by show γ<g;rw[hγ];exact G1.out
 have HLE:Hid (2+j+γ*s<=2048):=by show _<=_;rw[hγ];exact hend.out
 clear hγ hρ hG;go_wp2_with (first|(refine ar rfl 23 _ rfl _ _ _ rfl hg1 Tryz.underlying23 rfl (by kernel_rfl) ?_))
 refine(nJ g s i j γ HM.out HGG.out _).mono ?_;rintro e w2 ⟨rfl,hb2⟩;have je:=hid (lq.out.trans (hb2.mono lq.out.size));have hle:=HLE.out;obtain⟨B,Rg⟩:∃B,B=2+j+γ*s:=⟨_,rfl⟩;rw[<-Rg] at hle ⊢;have hq:(r:Int).tdiv 4=((r/4:Nat):Int):=by rw[Int.tdiv_eq_ediv_of_nonneg (by omega)];rfl
 have hr:(r:Int).tmod 4=((r%4:Nat):Int):=by rw[Int.tmod_eq_emod_of_nonneg (by omega)];rfl
 have wY:Hid ((B:Int)+2+((r/4:Nat):Int)=((2+j+u/i*s+2+u%i/4:Nat):Int)/\((r%4:Nat):Int)*64=((u%i%4*64:Nat):Int)):=by
  rw[Rg,<-TZ.out,<-Ie.out];exact⟨by omega,by omega⟩
 generalize hx:r/4=x at*;generalize hy:r%4=y at*;have Ql:x<=64:=by omega
 have hy9:y<4:=by omega
 clear hg1 hb2 lq Rg hx hy hend;go_wp2_with fail
 go_ret3
 refine⟨?_,je.out⟩;show Ending.returned (.tuple #[.int .i64 ((B:Int)+2+(x:Int)),.int .i64 ((y:Int)*64),.bool true])=_;rw[wY.out.1,wY.out.2]
theorem s7(g s i j k b:Nat)(hm:aM g s i j=true)(hk:k<g)(hb:b<i)(w:World):Calls Tryz.prog 135 #[bN g s i j,.int .i64 (k:Int),.int .i64 (b:Int)] w λe w'=>e= .returned (.int .i64 ((k*i+b+1:Nat):Int))/\Below w.heap.size w w':=by
 have HA:=hid (At.new w 23 (aa g s i j));have HL:Hid (Below w.heap.size w (w.alloc (.cells (aa g s i j) 23))):=(Below.refl _ _).alloc (Nat.le_refl _) _;have HM:=hid hm;have Vx:k*i<=256:=by
  have:=Nat.mul_le_mul_right i (Nat.le_of_lt hk);have:=eK hm;omega
 obtain⟨h1,h2,h3,h4,h5,h6,h7,h8,h9,h10,h11⟩:=(aX g s i j).1 hm;clear hm h11;go_enter Tryz.func135,Tryz.ntmps135;have hA:=HA.out;go_wp2_with (first|(refine ar rfl 23 _ rfl _ _ _ rfl hA Tryz.underlying23 rfl (by kernel_rfl) ?_))
 refine(eu g s i j _).mono ?_;rintro e w1 ⟨rfl,hb1⟩;rw[HM.out];have gJ:=hA.below hb1 hA.lt;have lq:=hid (HL.out.trans (hb1.mono HL.out.size));have c0:w1.cell? ⟨w.heap.size,0,none⟩=some (.int .i64 (g:Int)):=gJ.cell (i:=0) rfl;have c2:w1.cell? ⟨w.heap.size,2,none⟩=some (.int .i64 (i:Int)):=gJ.cell (i:=2) rfl;clear hA HA HL hb1 gJ;have q1:¬(k:Int)<0:=by omega
 have q2:¬(g:Int)<=(k:Int):=by omega
 have q3:¬(b:Int)<0:=by omega
 have q4:¬(i:Int)<=(b:Int):=by omega
 have hmul:(k:Int)*(i:Int)=((k*i:Nat):Int):=(Int.natCast_mul _ _).symm;have XI:=hid hmul;obtain⟨M,hM⟩:∃M,M=k*i:=⟨_,rfl⟩;have wY:Hid ((M:Int)+(b:Int)+1=((k*i+b+1:Nat):Int)):=by show _=_;rw[<-hM];omega
 rw[<-hM] at hmul Vx;clear hM XI;have hw1:IntKind.i64.wrap (M:Int)=(M:Int):=IntWalk.i64_in _ (by omega);go_wp2_with fail;go_ret;refine⟨?_,lq.out⟩;show Ending.returned (.int .i64 ((M:Int)+(b:Int)+1))=_;rw[wY.out]
theorem At.xw(h:At w g T cs)(j:Nat)(v:Value):At (w.setCell ⟨g,j,none⟩ v) g T (cs.setIfInBounds j v):=dh h j v
def m8(cs:Array Value):Nat->List Value->Array Value
 |_,[]=>cs
 |o,v::r=>m8 (cs.setIfInBounds o v) (o+1) r
theorem At.Mm:∀(vs:List Value) (o:Nat) {w:World} {cs:Array Value},At w g T cs->At (w.setCells g o vs) g T (m8 cs o vs)
 |[],o,w,cs,h=>h
 |v::r,o,w,cs,h=>At.Mm r (o+1) (h.xw o v)
theorem At.there(h:At w g T cs)(o n:Nat)(hn:o+n<=cs.size):w.there g o n:=λj hj=>by
 refine⟨?_,ag h _⟩;rw[h.cell (i:=o+j) (v:=cs[o+j]'(by omega)) (Array.getElem?_eq_getElem (by omega))]
 rfl
namespace Vl
section
variable {P:Program} {W:World} {o:Oper} {a:Act}
theorem mq(x:Operand)(ho:o.op= .nilCheck x)(p:Addr)(hx:a.eval x= .pointer (some p)):(execOp a.eval o).run P W= .ok (.value (.pointer (some p))) W:=by simp[execOp,ho,hx]
theorem jM{u:Value}(s:TypeId)(x:Operand)(f:Nat)(ho:o.op= .fieldAddr s x f)(hx:a.eval x=u)(hr:(Instr.fieldAt s u f).run P W= .ok v W):(execOp a.eval o).run P W= .ok (.value v) W:=by simp[execOp,ho,hx,hr]
theorem xM(t e:TypeId)(x ix:Operand)(ho:o.op= .indexAddr t x ix)(hu:P.underlying t=some (.slice e))(m:Nat)(hs:(P.info? e).map (·.size)=some m)(b off n cap k:Nat)(hx:a.eval x= .slice (some ⟨b,off,none⟩) n cap)(hi:a.eval ix= .int .i64 (k:Int))(hk:k<n):
  (execOp a.eval o).run P W= .ok (.value (.pointer (some ⟨b,off+k*m,none⟩))) W:=by
 have hel:P.elem t=e:=by simp[Program.elem,hu]
 have hu':P.underlying t=some (.slice (P.elem t)):=by rw[hel];exact hu
 have hr:=run_indexAt_slice (P:=P) W t ⟨b,off,none⟩ n cap .i64 (k:Int) hu';rw[if_pos ⟨by omega,by omega⟩,hel] at hr;cases hq:P.info? e with
 |none=>rw[hq] at hs;cases hs
 |some i=>
  have hm:i.size=m:=by simpa[hq] using hs
  have hsz:(Go.sizeOf e).run P W= .ok m W:=by simp[Go.sizeOf,typeInfo,hq,hm]
  rw[hsz,Result.andThen_ok,Int.toNat_natCast] at hr;simp[execOp,ho,hx,hi,hr,Addr.add]
theorem pR(T:TypeId)(x:Operand)(ho:o.op= .load T x)(b off:Nat)(cs:List Value)(d:TypeDesc)(hx:a.eval x= .pointer (some ⟨b,off,none⟩))(hc:W.rangeAt b off cs)(hu:P.underlying T=some d)(hd:d.isRow=true)(hi:(P.info? T).map (·.size)=some cs.length):
  (execOp a.eval o).run P W= .ok (.value (.agg cs.toArray)) W:=by
 unfold execOp;simp only[ho,hx,Instr.loadAt,Instr.sureAddr,Sem.run_bind,Sem.run_pure,Result.andThen_ok,run_loadVar_mid W b off T cs d hc hu hd hi]
theorem KV(op:BinOp)(t u:TypeId)(x y:Operand)(hop:o.op= .binOp op t x y u)(hr:((do eqGuard op t x y (a.eval x) (a.eval y);binOp op t (a.eval x) (a.eval y)):Sem Value).run P W= .ok v W):(execOp a.eval o).run P W= .ok (.value v) W:=by
 unfold execOp;simp only[hop];simp only[Sem.run_bind] at hr ⊢;rw[hr]
 rfl
variable {K:Act->World->Prop} {Q:Exit->Act->World->Prop}
theorem gw(T:TypeId)(x y:Operand)(ho:o.op= .store T x y)(b off:Nat)(cells:Array Value)(hx:a.eval x= .pointer (some ⟨b,off,none⟩))(hy:a.eval y= .agg cells)(ht:W.there b off cells.size)(hi:(P.info? T).map (·.size)=some cells.size)(h1:cells.all (·.oneCell')=true)
  (h:K (a.put o.dst undef) (W.setCells b off cells.toList)):o.wp P a W K Q:=wp_store_mid T x y ho b off cells hx hy ht hi h1 h
theorem q9(T:TypeId)(x y:Operand)(ho:o.op= .store T x y)(b off:Nat)(v u:Value)(hx:a.eval x= .pointer (some ⟨b,off,none⟩))(hy:a.eval y=v)(hc:W.cell? ⟨b,off,none⟩=some u)(hf:W.frozen? ⟨b,off,none⟩=false)(hi:(P.info? T).map (·.size)=some 1)(h1:v.oneCell'=true)
  (h:K (a.put o.dst undef) (W.setCell ⟨b,off,none⟩ v)):o.wp P a W K Q:=by
 refine IW (w':=W.setCell ⟨b,off,none⟩ v) ?_ h;unfold execOp;simp only[ho,hx,hy,Instr.storeAt,Instr.sureAddr,Sem.run_bind,Sem.run_pure,Result.andThen_ok,iY W b off T u v hc hf hi h1]
theorem E9(f:FuncId)(x:Operand)(Mc:Array TypeId)(u:Value)(ho:o.op= .call {callee:=.value (.func f),args:=#[x],argTypes:=Mc})(hx:a.eval x=u)
  (hr:((do let d<-Deferred.ofValue (a.eval (.func f)) #[u];invoke d.target d.args):Sem Next).run P W= .ok (.enter f #[u]) W):(execOp a.eval o).run P W= .ok (.enter f #[u]) W:=by
 rw[<-hr];unfold execOp;rw[ho];simp only[resolve];simp[hx]
theorem Fl(f:FuncId)(args:Array Value)(hrun:(execOp a.eval o).run P W= .ok (.enter f args) W)(hc:Calls P f args W λe W'=>(∃v,e= .returned v/\K (a.put o.dst v) W')\/(∃ch,e= .panicked ch/\Q (.panic ch) a W')):o.wp P a W K Q:=by
 unfold Oper.wp;rw[hrun];refine hc.mono ?_;rintro e W' (⟨v,rfl,h⟩|⟨ch,rfl,h⟩)
 ·exact h
 ·exact h
end
end Vl
def r8(k:Int):List PanicEntry:=[{v:=.iface 158 (.int .i64 k),recovered:=false}]
def pD(ok:Bool)(k:Int)(e:Ending):Prop:=(ok=true/\e= .returned (.tuple #[]))\/(ok=false/\e= .panicked (r8 k))
theorem gy(k:Int)(w:World):Calls Tryz.prog 124 #[.int .i64 k,.bool true] w λe w'=>e= .returned (.tuple #[])/\w=w':=by
 go_enter Tryz.func124,Tryz.ntmps124;go_wp2_with fail;refine bodyPost_end (results_none rfl _ _ _) rfl ⟨rfl,rfl⟩
theorem gU(k:Int)(w:World):Calls Tryz.prog 124 #[.int .i64 k,.bool false] w λe w'=>e= .panicked (r8 k)/\w=w':=by
 go_enter Tryz.func124,Tryz.ntmps124;go_wp2_with fail;exact⟨rfl,rfl,rfl⟩
theorem bw(k:Int)(b:Bool)(w:World):Calls Tryz.prog 124 #[.int .i64 k,.bool b] w λe w'=>pD b k e/\w=w':=by
 cases b with
 |true=>exact(gy k w).mono λe w' h=>⟨.inl ⟨rfl,h.1⟩,h.2⟩
 |false=>exact(gU k w).mono λe w' h=>⟨.inr ⟨rfl,h.1⟩,h.2⟩
abbrev qn(im:Value)(g s i j o:Int)(ds ino ak own sl un:Value):Array Value:=
 #[im,.int .i64 g,.int .i64 s,.int .i64 i,.int .i64 j,.int .u32 o,.int .i64 g,.int .i64 s,.int .i64 i,.int .i64 j,ds,ino,ak,own,sl,un]
def XG(p:Nat)(g s i j:Nat)(W:World):Prop:=W.rangeAt p 6 (aa g s i j).toList
theorem XG.cell{W:World}(h:XG p g s i j W):W.cell? ⟨p,6,none⟩=some (.int .i64 (g:Int))/\W.cell? ⟨p,7,none⟩=some (.int .i64 (s:Int))/\W.cell? ⟨p,8,none⟩=some (.int .i64 (i:Int))/\W.cell? ⟨p,9,none⟩=some (.int .i64 (j:Int)):=
 ⟨h 0 _ rfl,h 1 _ rfl,h 2 _ rfl,h 3 _ rfl⟩
theorem XG.of{W:World}{im:Value}{o:Int}{ds ino ak own sl un:Value}(h:At W p T (qn im g s i j o ds ino ak own sl un)):XG p g s i j W:=by
 intro k v hv
 match k,hv with
 |0,hv=>injection hv with hv;subst hv;exact h.cell (i:=6) rfl
 |1,hv=>injection hv with hv;subst hv;exact h.cell (i:=7) rfl
 |2,hv=>injection hv with hv;subst hv;exact h.cell (i:=8) rfl
 |3,hv=>injection hv with hv;subst hv;exact h.cell (i:=9) rfl
theorem iU(p g s i j k:Nat)(hm:aM g s i j=true)(hk:k<g)(w:World)(hg:XG p g s i j w):
  Calls Tryz.prog 127 #[.pointer (some ⟨p,0,none⟩),.int .i64 (k:Int)] w λe w'=>e= .returned (.int .i64 ((2+j+k*s:Nat):Int))/\Below w.heap.size w w':=by
 have HM:=hid hm;have HG:Hid (w.rangeAt p 6 (aa g s i j).toList):=hg;clear hm hg;go_enter Tryz.func127,Tryz.ntmps127;go_wp2_with (first|(refine aB rfl 23 (.tmp 10) rfl p 6 (aa g s i j).toList _ rfl HG.out Tryz.underlying23 rfl (by kernel_rfl) ?_))
 refine(nJ g s i j k HM.out hk _).mono ?_;rintro e w1 ⟨rfl,hb⟩;have HB:=hid hb;clear hb;go_wp2_with fail;go_ret;exact⟨rfl,HB.out⟩
theorem uv(p g s i j:Nat)(hi:i<=64)(w:World)(hg:XG p g s i j w):
  Calls Tryz.prog 129 #[.pointer (some ⟨p,0,none⟩)] w λe w'=>e= .returned (.int .i64 ((2+i/4:Nat):Int))/\w=w':=by
 have c:=hg.cell.2.2.1;have hq:(i:Int).tdiv 4=((i/4:Nat):Int):=by rw[Int.tdiv_eq_ediv_of_nonneg (by omega)];rfl
 have wY:Hid ((2:Int)+((i/4:Nat):Int)=((2+i/4:Nat):Int)):=by show _=_;omega
 generalize hx:i/4=x at*;have Ql:x<=64:=by omega
 clear hg hx;go_enter Tryz.func129,Tryz.ntmps129;go_wp2_with fail;go_ret;exact⟨by rw[<-wY.out];rfl,rfl⟩
structure Im.Ok(x:Im):Prop where
 jg:∀i,bm (x.L i)
 may:aM x.g x.s x.i x.j=true
 n:x.n=2+x.j+x.g*x.s
 o:x.o<4294967296
theorem Im.Ok.st(h:x.Ok){k d:Nat}(hk:k<x.g)(hd:d<x.s):x.st k+d<x.n:=by
 have:=h.n;have h2:(k+1)*x.s<=x.g*x.s:=Nat.mul_le_mul_right _ hk;rw[Nat.succ_mul] at h2;unfold Im.st;omega
theorem Im.Ok.iu(h:x.Ok):x.n<=2048:=by have:=(dL h.may).2.2.2.2.2.2.2.2.2.2;have:=h.n;omega
abbrev XC(b off cap:Nat)(x:Im)(ds ino ak own sl un:Value):Array Value:=qn (.slice (some ⟨b,off,none⟩) x.n cap) x.g x.s x.i x.j x.o ds ino ak own sl un
structure zA(w:World)(p:Nat)(cs:Array Value)(b off:Nat)(x:Im)(W:World):Prop where
 a:At W p 105 cs
 i:aF W b off 256 x.n (dW x.L)
 bel:Below w.heap.size w W
theorem zA.Ap{W:World}(h:zA w p cs b off x W)(hn:0<x.n):b<W.heap.size:=aF.lt h.i hn (by intro e;have:=aZ x.L 0;rw[e] at this;cases this)
theorem zA.below{W W':World}(h:zA w p cs b off x W)(hn:0<x.n)(hb:Below W.heap.size W W'):zA w p cs b off x W':=
 ⟨h.a.below hb h.a.lt,aF.below h.i hb (h.Ap hn),h.bel.trans (hb.mono h.bel.size)⟩
theorem tg(p b off cap:Nat)(x:Im)(hx:x.Ok)(ds ino ak own sl un:Value)(w:World)(hA:At w p 105 (XC b off cap x ds ino ak own sl un))(hI:aF w b off 256 x.n (dW x.L)):
  Calls Tryz.prog 77 #[.pointer (some ⟨p,0,none⟩)] w λe w'=>pD (aD x.qi x.g) 3 e/\Below w.heap.size w w':=by
 have HX:=hid hx;obtain⟨h1,h2,h3,h4,h5,h6,h7,h8,h9,h10,h11⟩:=dL hx.may;have fY:=hx.iu;have hn0:0<x.n:=by have:=hx.n;omega
 have cX:Hid (zA w p (XC b off cap x ds ino ak own sl un) b off x w):=⟨hA,hI,Below.refl _ _⟩;have c6:w.cell? ⟨p,6,none⟩=some (.int .i64 (x.g:Int)):=hA.cell (i:=6) rfl;clear hA hI hx;go_enter Tryz.func77,Tryz.ntmps77;go_wp2_with fail;clear c6;go_loopw [9] (λu wr=>∃k:Nat,k<=x.g/\u= .int .i64 (k:Int)/\(∀q,q<k->x.qi q=true)/\zA w p (XC b off cap x ds ino ak own sl un) b off x wr) (λu _=>x.g-(intOf u).toNat)
 case atStart=>exact⟨0,Nat.zero_le _,rfl,λq h=>by omega,cX.out⟩
 case round=>
  clear cX;obtain⟨k,hk,rfl,hP,st⟩:=hrel;have lL:=hid hP;clear hP
  by_cases hlt:k<x.g
  ·have hlt':(k:Int)<(x.g:Int):=by omega
   have HS:=hid st;clear st;go_wp2_with fail;refine(iU p x.g x.s x.i x.j k HX.out.may hlt wr (XG.of HS.out.a)).mono ?_;rintro e w1 ⟨rfl,hb1⟩;have eR:=HS.out.below hn0 hb1;clear HS hb1;have kS:x.st k+1<x.n:=HX.out.st hlt (by omega);have HQ:Hid (2+x.j+k*x.s=x.st k):=rfl;rw[HQ.out];obtain⟨q,hq⟩:∃q,q=x.st k:=⟨_,rfl⟩;have Ia:=hid hq;rw[<-hq] at kS ⊢;clear hq HQ;have q0:(q:Int)<(x.n:Int):=by omega
   have q1:((q:Int)+1)<(x.n:Int):=by omega
   go_wp2_with fail;refine aA (zA w p (XC b off cap x ds ino ak own sl un) b off x) 11 (by kernel_rfl) (by kernel_rfl) (by kernel_rfl) (by kernel_rfl) (by kernel_rfl) (by decide) ⟨eR.a,eR.i,eR.bel.drew⟩ ?_;clear eR;simp only[List.take,List.drop];intro hne;have hc:∀y:aT (zA w p (XC b off cap x ds ino ak own sl un) b off x),y.W.cell? ⟨p,0,none⟩=some (.slice (some ⟨b,off,none⟩) x.n cap):=λy=>y.h.a.cell (i:=0) rfl
   iterate 6 go_big_quiet_step (fail)
   refine aH rfl 32 (.tmp 20) rfl b (off+q*256) rfl (dW x.L q) _ (λW h=>aF.range h.i q (by omega)) Tryz.underlying32 rfl (by rw[aZ];exact au) ?_;refine ae ?_;go_big_quiet_step (fail)
   go_big_quiet_want
   go_big_quiet_op
   refine⟨_,λs=>aG s (λW hW=>(uv p x.g x.s x.i x.j h6 W (XG.of hW.a)).mono λe w' h=>⟨h.1,h.2▸hW⟩),?_⟩
   go_big_quiet_on
   go_big_quiet_want
   go_big_quiet_op
   refine⟨_,λs=>aG s (λW hW=>(mK (HX.out.jg q) 0 _ 0 (2+x.i/4) rfl (by omega) (by omega) W).mono λe w' h=>⟨h.1,hW.below hn0 h.2⟩),?_⟩
   go_big_quiet_on
   go_big_quiet_step (fail)
   refine wpQuiet_nil ?_;intro w5 h5;have eB:=h5.out;clear h5 hne hc;have e1:=oF (bt (x.L q)) 0 (2+x.i/4);rw[Nat.zero_add] at e1;obtain⟨c1,hc1⟩:∃c1,c1=decide (eO (bt (x.L q)) 0 (2+x.i/4)<0):=⟨_,rfl⟩;rw[<-hc1];rw[<-hc1] at e1;have iX:=hid e1;clear e1 hc1;go_wp2_with fail;refine(bw 3 c1 _).mono ?_;rintro e w6 ⟨hS,rfl⟩;rcases hS with⟨rfl,rfl⟩|⟨rfl,rfl⟩
   rotate_left
   ·refine⟨rfl,.inr ⟨bJ hlt ?_,rfl⟩,eB.bel⟩
    have h:=iX.out;rw[Ia.out] at h;unfold Im.qi;rw[show Im.pC (bt (x.L (x.st k))) 0 x.own=false from h.symm];rfl
   have HS:=hid eB;clear eB;have eB:=HS.out;clear HS;go_wp2_with fail;refine aA (zA w p (XC b off cap x ds ino ak own sl un) b off x) 14 (by kernel_rfl) (by kernel_rfl) (by kernel_rfl) (by kernel_rfl) (by kernel_rfl) (by decide) ⟨eB.a,eB.i,eB.bel.drew⟩ ?_;clear eB;simp only[List.take,List.drop];intro hne;have hc:∀y:aT (zA w p (XC b off cap x ds ino ak own sl un) b off x),y.W.cell? ⟨p,0,none⟩=some (.slice (some ⟨b,off,none⟩) x.n cap):=λy=>y.h.a.cell (i:=0) rfl
   have Wb:∀y:aT (zA w p (XC b off cap x ds ino ak own sl un) b off x),y.W.cell? ⟨p,7,none⟩=some (.int .i64 (x.s:Int)):=λy=>y.h.a.cell (i:=7) rfl
   iterate 6 go_big_quiet_step (fail)
   refine aH rfl 32 (.tmp 32) rfl b (off+q*256) rfl (dW x.L q) _ (λW h=>aF.range h.i q (by omega)) Tryz.underlying32 rfl (by rw[aZ];exact au) ?_;refine ae ?_;iterate 5 go_big_quiet_step (fail)
   go_big_quiet_want
   go_big_quiet_op
   refine⟨_,λs=>aG s (λW hW=>(mK (HX.out.jg q) _ 2048 x.s (2048-x.s) rfl (by omega) (by omega) W).mono λe w' h=>⟨h.1,hW.below hn0 h.2⟩),?_⟩
   go_big_quiet_on
   go_big_quiet_step (fail)
   refine wpQuiet_nil ?_;intro w6 h6;have eQ:=h6.out;clear h6 hne hc Wb;have e1:=oF (bt (x.L q)) x.s (2048-x.s);rw[show x.s+(2048-x.s)=2048 by omega] at e1;obtain⟨c2,hc2⟩:∃c2,c2=decide (eO (bt (x.L q)) x.s (2048-x.s)<0):=⟨_,rfl⟩;rw[<-hc2];rw[<-hc2] at e1;have gM:=hid e1;clear e1 hc2;go_wp2_with fail;refine(bw 3 c2 _).mono ?_;rintro e w7 ⟨hS,rfl⟩;rcases hS with⟨rfl,rfl⟩|⟨rfl,rfl⟩
   rotate_left
   ·refine⟨rfl,.inr ⟨bJ hlt ?_,rfl⟩,eQ.bel⟩
    have h:=gM.out;rw[Ia.out] at h;unfold Im.qi;rw[show Im.pC (bt (x.L (x.st k))) x.s 2048=false from h.symm,Bool.false_and,Bool.and_false]
   have HS:=hid eQ;clear eQ;have eQ:=HS.out;clear HS;go_wp2_with fail;refine aA (zA w p (XC b off cap x ds ino ak own sl un) b off x) 15 (by kernel_rfl) (by kernel_rfl) (by kernel_rfl) (by kernel_rfl) (by kernel_rfl) (by decide) ⟨eQ.a,eQ.i,eQ.bel.drew⟩ ?_;clear eQ;simp only[List.take,List.drop];intro hne;have hc:∀y:aT (zA w p (XC b off cap x ds ino ak own sl un) b off x),y.W.cell? ⟨p,0,none⟩=some (.slice (some ⟨b,off,none⟩) x.n cap):=λy=>y.h.a.cell (i:=0) rfl
   have Wa:∀y:aT (zA w p (XC b off cap x ds ino ak own sl un) b off x),y.W.cell? ⟨p,8,none⟩=some (.int .i64 (x.i:Int)):=λy=>y.h.a.cell (i:=8) rfl
   iterate 7 go_big_quiet_step (fail)
   refine aH rfl 32 (.tmp 48) rfl b (off+(q+1)*256) rfl (dW x.L (q+1)) _ (λW h=>aF.range h.i (q+1) kS) Tryz.underlying32 rfl (by rw[aZ];exact au) ?_;refine ae ?_;iterate 5 go_big_quiet_step (fail)
   go_big_quiet_want
   go_big_quiet_op
   refine⟨_,λs=>aG s (λW hW=>(mK (HX.out.jg (q+1)) _ 2048 x.i (2048-x.i) rfl (by omega) (by omega) W).mono λe w' h=>⟨h.1,hW.below hn0 h.2⟩),?_⟩
   go_big_quiet_on
   go_big_quiet_step (fail)
   refine wpQuiet_nil ?_;intro w7 h7;have kF:=h7.out;clear h7 hne hc Wa;have e1:=oF (bt (x.L (q+1))) x.i (2048-x.i);rw[show x.i+(2048-x.i)=2048 by omega] at e1;obtain⟨c3,hc3⟩:∃c3,c3=decide (eO (bt (x.L (q+1))) x.i (2048-x.i)<0):=⟨_,rfl⟩;rw[<-hc3];rw[<-hc3] at e1;have uI:=hid e1;clear e1 hc3;go_wp2_with fail;refine(bw 3 c3 _).mono ?_;rintro e w8 ⟨hS,rfl⟩;rcases hS with⟨rfl,rfl⟩|⟨rfl,rfl⟩
   rotate_left
   ·refine⟨rfl,.inr ⟨bJ hlt ?_,rfl⟩,kF.bel⟩
    have h:=uI.out;rw[Ia.out] at h;unfold Im.qi;rw[show Im.pC (bt (x.L (x.st k+1))) x.i 2048=false from h.symm,Bool.and_false,Bool.and_false]
   have mS:Hid (x.qi k=true):=by
    show _=_;have g1:=iX.out;have g2:=gM.out;have g3:=uI.out;rw[Ia.out] at g1 g2 g3;unfold Im.qi;rw[show Im.pC (bt (x.L (x.st k))) 0 x.own=true from g1.symm,show Im.pC (bt (x.L (x.st k))) x.s 2048=true from g2.symm,show Im.pC (bt (x.L (x.st k+1))) x.i 2048=true from g3.symm];rfl
   clear iX gM uI Ia kS q0 q1;go_wp2_with fail;go_roundw
   case rel=>exact⟨k+1,by omega,by first|rfl|go_num,λr hr=>by
    by_cases e:r=k
    ·rw[e];exact mS.out
    ·exact lL.out r (by omega),kF⟩
   case measure=>simp[intOf];omega
  ·obtain rfl:k=x.g:=by omega
   go_wp2_with fail;refine bodyPost_end (results_none rfl _ _ _) rfl ⟨.inl ⟨(aP _ _).2 lL.out,rfl⟩,st.bel⟩
end Go.Proofs.YtphamecphmbipaaGreatDoor
