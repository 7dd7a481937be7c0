/- Texts of this claim, merged. -/
import Derived.Test.YtphamecphmbipaaGreatDoorZ14
import Derived.Test.YtphamecphmbipaaGreatDoorZ16
set_option linter.unusedVariables false
set_option maxRecDepth 100000
set_option maxHeartbeats 16000000

namespace Go.Proofs.YtphamecphmbipaaGreatDoor
open Go.RowKit
variable {w:World} {g j k i s p off:Nat} {T:TypeId} {v:Value} {z:Nat->Int} {L:Nat->Nat->Int} {xs:List Value} {x:Im}
theorem At.xO{cs:Array Value}(h:At w g T cs)(j:Nat)(v:Value):At (w.setCell ⟨g,j,none⟩ v) g T (cs.setIfInBounds j v):=dy h j v
def nB(cs:Array Value):Nat->List Value->Array Value
 |_,[]=>cs
 |o,v::r=>nB (cs.setIfInBounds o v) (o+1) r
theorem At.MN:∀(vs:List Value) (o:Nat) {w:World} {cs:Array Value},At w g T cs->At (w.setCells g o vs) g T (nB cs o vs)
 |[],o,w,cs,h=>h
 |v::r,o,w,cs,h=>At.MN r (o+1) (h.xO o v)
theorem At.there{cs:Array Value}(h:At w g T cs)(o n:Nat)(hn:o+n<=cs.size):w.there g o n:=λj hj=>by
 refine⟨?_,an h _⟩;rw[h.cell (i:=o+j) (v:=cs[o+j]'(by omega)) (Array.getElem?_eq_getElem (by omega))]
 rfl
namespace Vl
section
variable {P:Program} {W:World} {o:Oper} {a:Act}
theorem mC(x:Operand)(ho:o.op= .nilCheck x)(p:Addr)(hx:a.eval x= .pointer (some p)):(execOp a.eval o).run P W= .ok (.value (.pointer (some p))) W:=by simp[execOp,ho,hx]
theorem gB{u:Value}(s:TypeId)(x:Operand)(f:Nat)(ho:o.op= .fieldAddr s x f)(hx:a.eval x=u)(hr:(Instr.fieldAt s u f).run P W= .ok v W):(execOp a.eval o).run P W= .ok (.value v) W:=by simp[execOp,ho,hx,hr]
theorem gK(t e:TypeId)(x ix:Operand)(ho:o.op= .indexAddr t x ix)(hu:P.underlying t=some (.slice e))(m:Nat)(hs:(P.info? e).map (·.size)=some m)(b off n cap k:Nat)(hx:a.eval x= .slice (some ⟨b,off,none⟩) n cap)(hi:a.eval ix= .int .i64 (k:Int))(hk:k<n):
  (execOp a.eval o).run P W= .ok (.value (.pointer (some ⟨b,off+k*m,none⟩))) W:=by
 have hel:P.elem t=e:=by simp[Program.elem,hu]
 have hu':P.underlying t=some (.slice (P.elem t)):=by rw[hel];exact hu
 have hr:=run_indexAt_slice (P:=P) W t ⟨b,off,none⟩ n cap .i64 (k:Int) hu';rw[if_pos ⟨by omega,by omega⟩,hel] at hr;cases hq:P.info? e with
 |none=>rw[hq] at hs;cases hs
 |some i=>
  have hm:i.size=m:=by simpa[hq] using hs
  have hsz:(Go.sizeOf e).run P W= .ok m W:=by simp[Go.sizeOf,typeInfo,hq,hm]
  rw[hsz,Result.andThen_ok,Int.toNat_natCast] at hr;simp[execOp,ho,hx,hi,hr,Addr.add]
theorem jc(T:TypeId)(x:Operand)(ho:o.op= .load T x)(b off:Nat)(cs:List Value)(d:TypeDesc)(hx:a.eval x= .pointer (some ⟨b,off,none⟩))(hc:W.rangeAt b off cs)(hu:P.underlying T=some d)(hd:d.isRow=true)(hi:(P.info? T).map (·.size)=some cs.length):
  (execOp a.eval o).run P W= .ok (.value (.agg cs.toArray)) W:=by
 unfold execOp;simp only[ho,hx,Instr.loadAt,Instr.sureAddr,Sem.run_bind,Sem.run_pure,Result.andThen_ok,run_loadVar_mid W b off T cs d hc hu hd hi]
theorem Fv(op:BinOp)(t u:TypeId)(x y:Operand)(hop:o.op= .binOp op t x y u)(hr:((do eqGuard op t x y (a.eval x) (a.eval y);binOp op t (a.eval x) (a.eval y)):Sem Value).run P W= .ok v W):(execOp a.eval o).run P W= .ok (.value v) W:=by
 unfold execOp;simp only[hop];simp only[Sem.run_bind] at hr ⊢;rw[hr]
 rfl
variable {K:Act->World->Prop} {Q:Exit->Act->World->Prop}
theorem ef(T:TypeId)(x y:Operand)(ho:o.op= .store T x y)(b off:Nat)(cells:Array Value)(hx:a.eval x= .pointer (some ⟨b,off,none⟩))(hy:a.eval y= .agg cells)(ht:W.there b off cells.size)(hi:(P.info? T).map (·.size)=some cells.size)(h1:cells.all (·.oneCell')=true)
  (h:K (a.put o.dst undef) (W.setCells b off cells.toList)):o.wp P a W K Q:=wp_store_mid T x y ho b off cells hx hy ht hi h1 h
theorem rG(T:TypeId)(x y:Operand)(ho:o.op= .store T x y)(b off:Nat)(v u:Value)(hx:a.eval x= .pointer (some ⟨b,off,none⟩))(hy:a.eval y=v)(hc:W.cell? ⟨b,off,none⟩=some u)(hf:W.frozen? ⟨b,off,none⟩=false)(hi:(P.info? T).map (·.size)=some 1)(h1:v.oneCell'=true)
  (h:K (a.put o.dst undef) (W.setCell ⟨b,off,none⟩ v)):o.wp P a W K Q:=by
 refine Jo (w':=W.setCell ⟨b,off,none⟩ v) ?_ h;unfold execOp;simp only[ho,hx,hy,Instr.storeAt,Instr.sureAddr,Sem.run_bind,Sem.run_pure,Result.andThen_ok,jm W b off T u v hc hf hi h1]
theorem x9(f:FuncId)(x:Operand)(MD:Array TypeId)(u:Value)(ho:o.op= .call {callee:=.value (.func f),args:=#[x],argTypes:=MD})(hx:a.eval x=u)
  (hr:((do let d<-Deferred.ofValue (a.eval (.func f)) #[u];invoke d.target d.args):Sem Next).run P W= .ok (.enter f #[u]) W):(execOp a.eval o).run P W= .ok (.enter f #[u]) W:=by
 rw[<-hr];unfold execOp;rw[ho];simp only[resolve];simp[hx]
theorem FJ(f:FuncId)(args:Array Value)(hrun:(execOp a.eval o).run P W= .ok (.enter f args) W)(hc:Calls P f args W λe W'=>(∃v,e= .returned v/\K (a.put o.dst v) W')\/(∃ch,e= .panicked ch/\Q (.panic ch) a W')):o.wp P a W K Q:=by
 unfold Oper.wp;rw[hrun];refine hc.mono ?_;rintro e W' (⟨v,rfl,h⟩|⟨ch,rfl,h⟩)
 ·exact h
 exact h
end
end Vl
def zT(xs:List Value):Prop:=∀v∈xs,∃z:Int,v= .int .u8 z/\0<=z/\z<256
theorem zT.ks(h:bu z)(n:Nat):zT (Ks .u8 n z):=λv hv=>by
 unfold Ks at hv;obtain⟨i,_,rfl⟩:=List.mem_map.1 hv;exact⟨_,rfl,h i⟩
theorem zT.cs(h:∀i,bu (L i)):∀n,zT (Cs (dR L) n)
 |0=>λv hv=>by cases hv
 |n+1=>λv hv=>by
  rw[Cs] at hv;rcases List.mem_append.1 hv with h1|h1
  ·exact zT.cs h n v h1
  exact zT.ks (h n) 256 v h1
theorem zT.set(h:zT xs){u:Value}(hu:∃z:Int,u= .int .u8 z/\0<=z/\z<256):zT (xs.set j u):=λv hv=>by
 rcases List.mem_or_eq_of_mem_set hv with h1|h1
 ·exact h v h1
 rw[h1];exact hu
theorem yk{base n cap:Nat}{e:TypeId}{m:Nat}:∀(vs:List Value) (o:Nat) {W:World} {xs:List Value},W.ownsRow base e m (.slice (some ⟨g,0,none⟩) n cap) n xs->zT xs->zT vs->∃xs',(W.setCells g o vs).ownsRow base e m (.slice (some ⟨g,0,none⟩) n cap) n xs'/\zT xs'
 |[],o,W,xs,h,hx,hv=>⟨xs,h,hx⟩
 |v::r,o,W,xs,h,hx,hv=>yk r (o+1) (World.ownsRow.stored h o v).1 (hx.set (hv v (List.mem_cons_self ..))) λu hu=>hv u (List.mem_cons_of_mem _ hu)
structure kA(w:World)(la:Option Addr)(N lc:Nat)(W:World):Prop where
 l:∃xs,W.ownsRow w.heap.size 32 256 (.slice la N lc) N xs/\zT xs
 bel:Below w.heap.size w W
section
variable {w:World} {la:Option Addr} {N lc:Nat} {W W':World}
theorem kA.of(h:au W w.heap.size 32 256 (.slice la N lc) N (dR L))(hy:∀i,bu (L i))(hb:Below w.heap.size w W):kA w la N lc W:=⟨⟨_,h,zT.cs hy N⟩,hb⟩
theorem kA.below(h:kA w la N lc W)(hb:Below W.heap.size W W'):kA w la N lc W':=by
 obtain⟨⟨xs,h1,h2⟩,h3⟩:=h;exact⟨⟨xs,World.ownsRow.kept h1 (bB (row:=none) hb) (Classical.em _),h2⟩,h3.trans (hb.mono h3.size)⟩
theorem GZ(N:Nat)(h:xs.length=N*256)(hx:zT xs):∃L:Nat->Nat->Int,xs=Cs (dR L) N/\∀i,bu (L i):=by
 have key:∀j,∃z:Int,(j<xs.length->xs[j]? =some (.int .u8 z))/\0<=z/\z<256:=λj=>by
  by_cases hj:j<xs.length
  ·obtain⟨z,hz,hb⟩:=hx xs[j] (List.getElem_mem hj)
   exact⟨z,λ_=>by rw[List.getElem?_eq_getElem hj,hz],hb⟩
  exact⟨0,λh=>absurd h hj,by decide⟩
 refine⟨λb i=>(key (b*256+i)).choose,List.ext_getElem? λj=> ?_,λb i=>(key (b*256+i)).choose_spec.2⟩;have e2:(Cs (dR λb i=>(key (b*256+i)).choose) N).length=N*256:=di (aZ _) _
 by_cases hj:j<N*256
 ·have hq:j/256<N:=by omega
  have hr:j%256<256:=Nat.mod_lt _ (by omega);have Ri:j/256*256+j%256=j:=by omega
  have g1:=xf (aZ λb i=>(key (b*256+i)).choose) hq hr;rw[Ri] at g1;rw[g1,(key j).choose_spec.1 (by omega)];have g2:=gX .u8 256 (λi=>(key (j/256*256+i)).choose) (j%256) hr;unfold dR;rw[g2,Ri]
 rw[List.getElem?_eq_none (by omega),List.getElem?_eq_none (by omega)]
theorem kA.Z(h:kA w la N lc W):∃L,au W w.heap.size 32 256 (.slice la N lc) N (dR L)/\∀i,bu (L i):=by
 obtain⟨⟨xs,h1,h2⟩,h3⟩:=h;obtain⟨L,rfl,hy⟩:=GZ N h1.1 h2;exact⟨L,h1,hy⟩
theorem kA.nil(h:kA w la N lc W):la=none->N=0/\lc=0:=by
 obtain⟨L,h1,_⟩:=h.Z;rcases h1.2 with⟨hv,h0⟩|⟨g,cp,cur,hv,_⟩
 ·injection hv with e1 e2 e3;exactλ_=>⟨by omega,by omega⟩
 injection hv with e1 e2 e3
 exactλh=>by rw[h] at e1;cases e1
theorem kA.vk(h:kA w la N lc W)(hN:0<N):∃g,la=some ⟨g,0,none⟩/\w.heap.size<=g:=by
 obtain⟨L,h1,_⟩:=h.Z;obtain⟨g,c,e,h2,_⟩:=au.nZ h1 hN;injection e with e1 _ e3
 exact⟨g,e1,h2⟩
theorem kA.drew(h:kA w la N lc W):kA w la N lc {W with drawn:=W.drawn+1}:=h.below ⟨rfl,rfl,rfl,Nat.le_refl _,λ_ _=>rfl⟩
end
section
variable {w:World} {g N lc:Nat} {W W':World}
theorem kA.put(h:kA w (some ⟨g,0,none⟩) N lc W)(o:Nat)(hz:bu z):kA w (some ⟨g,0,none⟩) N lc (W.setCells g o (Ks .u8 256 z)):=by
 obtain⟨⟨xs,h1,h2⟩,h3⟩:=h;obtain⟨xs',k1,k2⟩:=yk (Ks .u8 256 z) o h1 h2 (zT.ks hz 256);exact⟨⟨xs',k1,k2⟩,h3.trans ((ev g (Ks .u8 256 z) o W).below (World.ownsRow.lt h1 g rfl).1)⟩
theorem kA.range(h:kA w (some ⟨g,0,none⟩) N lc W)(hk:k<N):∃z,bu z/\W.rangeAt g (0+k*256) (Ks .u8 256 z):=by
 obtain⟨L,h1,hy⟩:=h.Z;exact⟨L k,hy k,(au.bQ h1 (aZ _)).range k hk⟩
theorem kA.there(h:kA w (some ⟨g,0,none⟩) N lc W)(hk:k<N):W.there g (0+k*256) 256:=λj hj=>by
 obtain⟨L,h1,hy⟩:=h.Z;have c:=(au.bQ h1 (aZ _)) k hk j _ (gX .u8 256 (L k) j hj);exact⟨by rw[c];rfl,World.ownsRow.frozenAt h1 _⟩
end
structure Iy(k:Nat->Option Value)(Z:Nat->Bool)(i:Nat)(v:Value):Prop where
 k:∀u,k i=some u->v=u
 z:Z i=true->∃z,v=aR z/\bu z
theorem Iy.c{k:Nat->Option Value}{Z:Nat->Bool}(h:k i=some v)(hz:Z i=false):Iy k Z i v:=⟨λu hu=>by rw[h] at hu;exact Option.some.inj hu,λe=>by rw[hz] at e;cases e⟩
theorem Iy.b{k:Nat->Option Value}{Z:Nat->Bool}(h:k i=none)(hz:bu z):Iy k Z i (aR z):=⟨λu hu=>(by rw[h] at hu;cases hu),λ_=>⟨z,rfl,hz⟩⟩
theorem Iy.n{k:Nat->Option Value}{Z:Nat->Bool}(h:k i=none)(hz:Z i=false):Iy k Z i v:=⟨λu hu=>(by rw[h] at hu;cases hu),λe=>by rw[hz] at e;cases e⟩
theorem wW{L:List Oper}{V:Nat->Value->World->Prop}{S:(Nat->Bool)->World->Prop}{a0 a:Act}{W:World}(h:Vl.I L V S a0 (λ_=>true) a W)(ds:List Nat)(hd:(List.range L.length).all (λi=>match Vl.dst L i with|none=>true|some d=>ds.contains d)=true):∃v:Nat->Value,(∀d,v d=a.tmps.getD d undef)/\a=ds.foldl (λx d=>x.put (some d) (v d)) a0:=
 ⟨λd=>a.tmps.getD d undef,λ_=>rfl,h.all ds (Vl.L6 hd)⟩
theorem vS(hm:aT g s i j=true):qn g s i j=((g*i:Nat):Int):=by
 unfold qn;rw[hm,if_pos rfl,Int.natCast_mul]
theorem eX(hm:aT g s i j=true):g*i<=256:=by
 have h1:=FU g s i j;rw[vS hm] at h1;omega
theorem nW(g s i j k:Nat)(hm:aT g s i j=true)(hk:k<g)(w:World):Calls Tryz.prog 18 #[bV g s i j,.int .i64 (k:Int)] w λe w'=>e= .returned (.tuple #[.int .i64 ((2+j+k*s:Nat):Int),.bool true])/\Below w.heap.size w w':=by
 refine(wG g s i j k w).mono ?_;rintro e w' ⟨rfl,hb⟩;have h1:rR g s i j k=true:=by unfold rR;rw[hm];simp;omega
 have h2:z7 g s i j k=((2+j+k*s:Nat):Int):=by unfold z7;rw[h1,if_pos rfl];simp
 rw[h1,h2];exact⟨rfl,hb⟩
theorem pA(g s i j u:Nat)(hm:aT g s i j=true)(hu:u<g*i)(w:World):Calls Tryz.prog 47 #[bV g s i j,.int .i64 ((u:Int)+1)] w λe w'=>e= .returned (.tuple #[.int .i64 ((u/i:Nat):Int),.int .i64 ((u%i:Nat):Int),.bool true])/\Below w.heap.size w w':=by
 have HA:=ah (At.new w 23 (ai g s i j));have HL:Hd (Below w.heap.size w (w.alloc (.cells (ai g s i j) 23))):=ag.alloc af _;obtain⟨h1,h2,h3,h4,h5,h6,h7,h8,h9,h10,h11⟩:=(bq g s i j).1 hm;have JS:=vS hm;have BW:=eX hm;obtain⟨N,hN⟩:=aa (g*i);rw[<-hN] at hu JS BW;have hq:(u:Int).tdiv (i:Int)=((u/i:Nat):Int):=by rw[Int.tdiv_eq_ediv_of_nonneg (by omega)];rfl
 have hr:(u:Int).tmod (i:Int)=((u%i:Nat):Int):=by rw[Int.tmod_eq_emod_of_nonneg (by omega)];rfl
 have HQ:=ah hq;have HR:=ah hr;clear hN hq hr;go_enter Tryz.func47,Tryz.ntmps47;have hA:=HA.Z;go_wp2_with (first|(refine aB rfl 23 _ rfl _ _ _ rfl hA Tryz.underlying23 rfl (by kernel_rfl) ?_))
 refine(jr g s i j _).mono ?_;rintro e w1 ⟨rfl,hb1⟩;have fj:XV w g s i j w1:=⟨hA.below hb1 hA.lt,HL.Z.trans (hb1.mono HL.Z.size)⟩;rw[JS];clear hA HA HL hb1 hm h11 JS;have q1:¬(N:Int)<(u:Int)+1:=by omega
 have q2:decide ((N:Int)<(u:Int)+1)=false:=decide_eq_false q1;have q3:¬(u:Int)+1<1:=by omega
 go_wp2_with fail;refine ar (XV w g s i j) ⟨fj.g,fj.bel.drew⟩ ?_;clear fj;intro hne;have hc:∀y:a9 (XV w g s i j),y.W.cell? ⟨w.heap.size,2,none⟩=some (.int .i64 (i:Int)):=λy=>y.h.g.cell (i:=2) rfl
 have hi0:((i:Int)==0)=false:=by simp;omega
 have hi1:(i:Int)≠0:=by omega
 have hq:=HQ.Z;have hr:=HR.Z;iterate 13 go_big_quiet_step (fail)
 refine wpQuiet_nil ?_;intro w5 h5;have eC:=h5.Z;clear h5 hne hc;go_wp2_with fail
 go_ret3
 refine⟨?_,eC.bel⟩;show Ending.returned (.tuple #[.int .i64 (wrap64 ((u:Int)/(i:Int))),.int .i64 ((u:Int)%(i:Int)),.bool true])=_;have e1:(u:Int)/(i:Int)=((u/i:Nat):Int):=rfl;have e2:u/i<=u:=Nat.div_le_self _ _;rw[e1];generalize u/i=q at e2 ⊢;rw[IntWalk.wrap64_in _ (by omega)]
 rfl
theorem wH(g s i j u:Nat)(hm:aT g s i j=true)(hu:u<g*i)(w:World):Calls Tryz.prog 20 #[bV g s i j,.int .i64 ((u:Int)+1)] w λe w'=>e= .returned (.tuple #[.int .i64 ((2+j+u/i*s+2+u%i/4:Nat):Int),.int .i64 ((u%i%4*64:Nat):Int),.bool true])/\Below w.heap.size w w':=by
 have HA:=ah (At.new w 23 (ai g s i j));have HL:Hd (Below w.heap.size w (w.alloc (.cells (ai g s i j) 23))):=ag.alloc af _;have HM:=ah hm;have hi:0<i:=by obtain⟨h1,h2,h3,h4,h5,h6,h7,h8,h9,h10,h11⟩:=(bq g s i j).1 hm;omega
 have hG:u/i<g:=Nat.div_lt_of_lt_mul (by rw[Nat.mul_comm];exact hu);have zH:i<=64:=by obtain⟨h1,h2,h3,h4,h5,h6,h7,h8,h9,h10,h11⟩:=(bq g s i j).1 hm;omega
 have hB:u%i<i:=Nat.mod_lt _ hi;have hend:Hd (2+j+u/i*s<=2048):=by
  show _<=_;obtain⟨h1,h2,h3,h4,h5,h6,h7,h8,h9,h10,h11⟩:=(bq g s i j).1 hm;have:((u/i*s:Nat):Int)<=((g*s:Nat):Int):=by
   have:=Nat.mul_le_mul_right s (Nat.le_of_lt hG);omega
  rw[Int.natCast_mul g s] at this;omega
 have HU:=ah hu;have Ho:=ah hG;clear hm hu;go_enter Tryz.func20,Tryz.ntmps20;have hA:=HA.Z;go_wp2_with (first|(refine aB rfl 23 _ rfl _ _ _ rfl hA Tryz.underlying23 rfl (by kernel_rfl) ?_))
 refine(pA g s i j u HM.Z HU.Z _).mono ?_;rintro e w1 ⟨rfl,hb1⟩;have hg1:=hA.below hb1 hA.lt;have kB:=ah (HL.Z.trans (hb1.mono HL.Z.size));clear hA HA HL hb1;obtain⟨γ,hγ⟩:=aa (u/i);obtain⟨r,hρ⟩:=aa (u%i);rw[<-hγ,<-hρ];rw[<-hρ] at hB;have Ur:=ah hγ;have IG:=ah hρ;have HGG:Hd (γ<g):=by show γ<g;rw[hγ];exact Ho.Z
 have HLE:Hd (2+j+γ*s<=2048):=by show _<=_;rw[hγ];exact hend.Z
 clear hγ hρ hG;go_wp2_with (first|(refine aB rfl 23 _ rfl _ _ _ rfl hg1 Tryz.underlying23 rfl (by kernel_rfl) ?_))
 refine(nW g s i j γ HM.Z HGG.Z _).mono ?_;rintro e w2 ⟨rfl,hb2⟩;have ju:=ah (kB.Z.trans (hb2.mono kB.Z.size));have hle:=HLE.Z;obtain⟨B,RL⟩:=aa (2+j+γ*s);rw[<-RL] at hle ⊢;have hq:(r:Int).tdiv 4=((r/4:Nat):Int):=by rw[Int.tdiv_eq_ediv_of_nonneg (by omega)];rfl
 have hr:(r:Int).tmod 4=((r%4:Nat):Int):=by rw[Int.tmod_eq_emod_of_nonneg (by omega)];rfl
 have xv:Hd ((B:Int)+2+((r/4:Nat):Int)=((2+j+u/i*s+2+u%i/4:Nat):Int)/\((r%4:Nat):Int)*64=((u%i%4*64:Nat):Int)):=by
  rw[RL,<-Ur.Z,<-IG.Z];exact⟨by omega,by omega⟩
 generalize hx:r/4=x at*;generalize hy:r%4=y at*;have QN:x<=64:=by omega
 have hy9:y<4:=by omega
 clear hg1 hb2 kB RL hx hy hend;go_wp2_with fail
 go_ret3
 refine⟨?_,ju.Z⟩;show Ending.returned (.tuple #[.int .i64 ((B:Int)+2+(x:Int)),.int .i64 ((y:Int)*64),.bool true])=_;rw[xv.Z.1,xv.Z.2]
theorem ts(g s i j k b:Nat)(hm:aT g s i j=true)(hk:k<g)(hb:b<i)(w:World):Calls Tryz.prog 135 #[bV g s i j,.int .i64 (k:Int),.int .i64 (b:Int)] w λe w'=>e= .returned (.int .i64 ((k*i+b+1:Nat):Int))/\Below w.heap.size w w':=by
 have HA:=ah (At.new w 23 (ai g s i j));have HL:Hd (Below w.heap.size w (w.alloc (.cells (ai g s i j) 23))):=ag.alloc af _;have HM:=ah hm;have Wd:k*i<=256:=by
  have:=Nat.mul_le_mul_right i (Nat.le_of_lt hk);have:=eX hm;omega
 obtain⟨h1,h2,h3,h4,h5,h6,h7,h8,h9,h10,h11⟩:=(bq g s i j).1 hm;clear hm h11;go_enter Tryz.func135,Tryz.ntmps135;have hA:=HA.Z;go_wp2_with (first|(refine aB rfl 23 _ rfl _ _ _ rfl hA Tryz.underlying23 rfl (by kernel_rfl) ?_))
 refine(eJ g s i j _).mono ?_;rintro e w1 ⟨rfl,hb1⟩;rw[HM.Z];have gU:=hA.below hb1 hA.lt;have kB:=ah (HL.Z.trans (hb1.mono HL.Z.size));have c0:w1.cell? ⟨w.heap.size,0,none⟩=some (.int .i64 (g:Int)):=gU.cell (i:=0) rfl;have c2:w1.cell? ⟨w.heap.size,2,none⟩=some (.int .i64 (i:Int)):=gU.cell (i:=2) rfl;clear hA HA HL hb1 gU;have q1:¬(k:Int)<0:=by omega
 have q2:¬(g:Int)<=(k:Int):=by omega
 have q3:¬(b:Int)<0:=by omega
 have q4:¬(i:Int)<=(b:Int):=by omega
 have hmul:(k:Int)*(i:Int)=((k*i:Nat):Int):=(Int.natCast_mul _ _).symm;have Yd:=ah hmul;obtain⟨M,hM⟩:=aa (k*i);have xv:Hd ((M:Int)+(b:Int)+1=((k*i+b+1:Nat):Int)):=by show _=_;rw[<-hM];omega
 rw[<-hM] at hmul Wd;clear hM Yd;have hw1:IntKind.i64.wrap (M:Int)=(M:Int):=IntWalk.i64_in _ (by omega);go_wp2_with fail;go_ret;refine⟨?_,kB.Z⟩;show Ending.returned (.int .i64 ((M:Int)+(b:Int)+1))=_;rw[xv.Z]
def sB(k:Int):List PanicEntry:=[{v:=.iface 158 (.int .i64 k),recovered:=false}]
def pT(ok:Bool)(k:Int)(e:Ending):Prop:=(ok=true/\e= .returned (.tuple #[]))\/(ok=false/\e= .panicked (sB k))
theorem gN(k:Int)(w:World):Calls Tryz.prog 124 #[.int .i64 k,.bool true] w λe w'=>e= .returned (.tuple #[])/\w=w':=by
 go_enter Tryz.func124,Tryz.ntmps124;go_wp2_with fail;refine bodyPost_end (results_none rfl _ _ _) rfl ⟨rfl,rfl⟩
theorem ir(k:Int)(w:World):Calls Tryz.prog 124 #[.int .i64 k,.bool false] w λe w'=>e= .panicked (sB k)/\w=w':=by
 go_enter Tryz.func124,Tryz.ntmps124;go_wp2_with fail;exact⟨rfl,rfl,rfl⟩
theorem bJ(k:Int)(b:Bool)(w:World):Calls Tryz.prog 124 #[.int .i64 k,.bool b] w λe w'=>pT b k e/\w=w':=by
 cases b with
 |true=>exact(gN k w).mono λe w' h=>⟨.inl ⟨rfl,h.1⟩,h.2⟩
 |false=>exact(ir k w).mono λe w' h=>⟨.inr ⟨rfl,h.1⟩,h.2⟩
abbrev qE(im:Value)(g s i j o:Int)(ds ino ay own sl un:Value):Array Value:=
 #[im,.int .i64 g,.int .i64 s,.int .i64 i,.int .i64 j,.int .u32 o,.int .i64 g,.int .i64 s,.int .i64 i,.int .i64 j,ds,ino,ay,own,sl,un]
def XG(p:Nat)(g s i j:Nat)(W:World):Prop:=W.rangeAt p 6 (ai g s i j).toList
theorem XG.cell{W:World}(h:XG p g s i j W):W.cell? ⟨p,6,none⟩=some (.int .i64 (g:Int))/\W.cell? ⟨p,7,none⟩=some (.int .i64 (s:Int))/\W.cell? ⟨p,8,none⟩=some (.int .i64 (i:Int))/\W.cell? ⟨p,9,none⟩=some (.int .i64 (j:Int)):=
 ⟨h 0 _ rfl,h 1 _ rfl,h 2 _ rfl,h 3 _ rfl⟩
theorem XG.of{W:World}{im:Value}{o:Int}{ds ino ay own sl un:Value}(h:At W p T (qE im g s i j o ds ino ay own sl un)):XG p g s i j W:=by
 intro k v hv
 match k,hv with
 |0,hv=>injection hv with hv;subst hv;exact h.cell (i:=6) rfl
 |1,hv=>injection hv with hv;subst hv;exact h.cell (i:=7) rfl
 |2,hv=>injection hv with hv;subst hv;exact h.cell (i:=8) rfl
 |3,hv=>injection hv with hv;subst hv;exact h.cell (i:=9) rfl
theorem jh(p g s i j k:Nat)(hm:aT g s i j=true)(hk:k<g)(w:World)(hg:XG p g s i j w):
  Calls Tryz.prog 127 #[.pointer (some ⟨p,0,none⟩),.int .i64 (k:Int)] w λe w'=>e= .returned (.int .i64 ((2+j+k*s:Nat):Int))/\Below w.heap.size w w':=by
 have HM:=ah hm;have HG:Hd (w.rangeAt p 6 (ai g s i j).toList):=hg;clear hm hg;go_enter Tryz.func127,Tryz.ntmps127;go_wp2_with (first|(refine aH rfl 23 (.tmp 10) rfl p 6 (ai g s i j).toList _ rfl HG.Z Tryz.underlying23 rfl (by kernel_rfl) ?_))
 refine(nW g s i j k HM.Z hk _).mono ?_;rintro e w1 ⟨rfl,hb⟩;have HB:=ah hb;clear hb;go_wp2_with fail;go_ret;exact⟨rfl,HB.Z⟩
theorem uK(p g s i j:Nat)(hi:i<=64)(w:World)(hg:XG p g s i j w):
  Calls Tryz.prog 129 #[.pointer (some ⟨p,0,none⟩)] w λe w'=>e= .returned (.int .i64 ((2+i/4:Nat):Int))/\w=w':=by
 have c:=hg.cell.2.2.1;have hq:(i:Int).tdiv 4=((i/4:Nat):Int):=by rw[Int.tdiv_eq_ediv_of_nonneg (by omega)];rfl
 have xv:Hd ((2:Int)+((i/4:Nat):Int)=((2+i/4:Nat):Int)):=by show _=_;omega
 generalize hx:i/4=x at*;have QN:x<=64:=by omega
 clear hg hx;go_enter Tryz.func129,Tryz.ntmps129;go_wp2_with fail;go_ret;exact⟨by rw[<-xv.Z];rfl,rfl⟩
structure Im.Ok(x:Im):Prop where
 jx:∀i,bu (x.L i)
 may:aT x.g x.s x.i x.j=true
 n:x.n=2+x.j+x.g*x.s
 o:x.o<4294967296
theorem Im.Ok.st(h:x.Ok){d:Nat}(hk:k<x.g)(hd:d<x.s):x.st k+d<x.n:=by
 have:=h.n;have h2:(k+1)*x.s<=x.g*x.s:=Nat.mul_le_mul_right _ hk;rw[Nat.succ_mul] at h2;unfold Im.st;omega
theorem Im.Ok.iK(h:x.Ok):x.n<=2048:=by have:=(dX h.may).2.2.2.2.2.2.2.2.2.2;have:=h.n;omega
abbrev XC(b off cap:Nat)(x:Im)(ds ino ay own sl un:Value):Array Value:=qE (.slice (some ⟨b,off,none⟩) x.n cap) x.g x.s x.i x.j x.o ds ino ay own sl un
structure zS(w:World)(p:Nat)(cs:Array Value)(b off:Nat)(x:Im)(W:World):Prop where
 a:At W p 105 cs
 i:aM W b off 256 x.n (dR x.L)
 bel:Below w.heap.size w W
theorem zS.AI{cs:Array Value}{b:Nat}{W:World}(h:zS w p cs b off x W)(hn:0<x.n):b<W.heap.size:=aM.lt h.i hn (by intro e;have:=aZ x.L 0;rw[e] at this;cases this)
theorem zS.below{cs:Array Value}{b:Nat}{W W':World}(h:zS w p cs b off x W)(hn:0<x.n)(hb:Below W.heap.size W W'):zS w p cs b off x W':=
 ⟨h.a.below hb h.a.lt,aM.below h.i hb (h.AI hn),h.bel.trans (hb.mono h.bel.size)⟩
theorem tA(p b off cap:Nat)(x:Im)(hx:x.Ok)(ds ino ay own sl un:Value)(w:World)(hA:At w p 105 (XC b off cap x ds ino ay own sl un))(hI:aM w b off 256 x.n (dR x.L)):
  Calls Tryz.prog 77 #[.pointer (some ⟨p,0,none⟩)] w λe w'=>pT (aK x.qy x.g) 3 e/\Below w.heap.size w w':=by
 have HX:=ah hx;obtain⟨h1,h2,h3,h4,h5,h6,h7,h8,h9,h10,h11⟩:=dX hx.may;have gi:=hx.iK;have hn0:0<x.n:=by have:=hx.n;omega
 have dt:Hd (zS w p (XC b off cap x ds ino ay own sl un) b off x w):=⟨hA,hI,Below.refl _ _⟩;have c6:w.cell? ⟨p,6,none⟩=some (.int .i64 (x.g:Int)):=hA.cell (i:=6) rfl;clear hA hI hx;go_enter Tryz.func77,Tryz.ntmps77;go_wp2_with fail;clear c6;go_loopw [9] (λu wr=>∃k:Nat,k<=x.g/\u= .int .i64 (k:Int)/\(∀q,q<k->x.qy q=true)/\zS w p (XC b off cap x ds ino ay own sl un) b off x wr) (λu _=>x.g-(intOf u).toNat)
 case atStart=>exact⟨0,Nat.zero_le _,rfl,λq h=>by omega,dt.Z⟩
 clear dt;obtain⟨k,hk,rfl,hP,st⟩:=hrel;have lW:=ah hP;clear hP
 by_cases hlt:k<x.g
 ·have hlt':(k:Int)<(x.g:Int):=by omega
  have HS:=ah st;clear st;go_wp2_with fail;refine(jh p x.g x.s x.i x.j k HX.Z.may hlt wr (XG.of HS.Z.a)).mono ?_;rintro e w1 ⟨rfl,hb1⟩;have fj:=HS.Z.below hn0 hb1;clear HS hb1;have lh:x.st k+1<x.n:=HX.Z.st hlt (by omega);have HQ:Hd (2+x.j+k*x.s=x.st k):=rfl;rw[HQ.Z];obtain⟨q,hq⟩:=aa (x.st k);have ID:=ah hq;rw[<-hq] at lh ⊢;clear hq HQ;have q0:(q:Int)<(x.n:Int):=by omega
  have q1:((q:Int)+1)<(x.n:Int):=by omega
  go_wp2_with fail;refine aG (zS w p (XC b off cap x ds ino ay own sl un) b off x) 11 (by kernel_rfl) (by kernel_rfl) (by kernel_rfl) (by kernel_rfl) (by kernel_rfl) (by decide) ⟨fj.a,fj.i,fj.bel.drew⟩ ?_;clear fj;simp only[List.take,List.drop];intro hne;have hc:∀y:a9 (zS w p (XC b off cap x ds ino ay own sl un) b off x),y.W.cell? ⟨p,0,none⟩=some (.slice (some ⟨b,off,none⟩) x.n cap):=λy=>y.h.a.cell (i:=0) rfl
  iterate 6 go_big_quiet_step (fail)
  refine aO rfl 32 (.tmp 20) rfl b (off+q*256) rfl (dR x.L q) _ (λW h=>aM.range h.i q (by omega)) Tryz.underlying32 rfl (by rw[aZ];exact aA) ?_;refine aj ?_;go_big_quiet_step (fail)
  go_big_quiet_want
  go_big_quiet_op
  refine⟨_,λs=>aN s (λW hW=>(uK p x.g x.s x.i x.j h6 W (XG.of hW.a)).mono λe w' h=>⟨h.1,h.2▸hW⟩),?_⟩
  go_big_quiet_on
  go_big_quiet_want
  go_big_quiet_op
  refine⟨_,λs=>aN s (λW hW=>(mU (HX.Z.jx q) 0 _ 0 (2+x.i/4) rfl (by omega) (by omega) W).mono λe w' h=>⟨h.1,hW.below hn0 h.2⟩),?_⟩
  go_big_quiet_on
  go_big_quiet_step (fail)
  refine wpQuiet_nil ?_;intro w5 h5;have eC:=h5.Z;clear h5 hne hc;have e1:=oU (bt (x.L q)) 0 (2+x.i/4);rw[Nat.zero_add] at e1;obtain⟨c1,hc1⟩:=aa (decide (fg (bt (x.L q)) 0 (2+x.i/4)<0));rw[<-hc1];rw[<-hc1] at e1;have jk:=ah e1;clear e1 hc1;go_wp2_with fail;refine(bJ 3 c1 _).mono ?_;rintro e w6 ⟨hS,rfl⟩;rcases hS with⟨rfl,rfl⟩|⟨rfl,rfl⟩
  rotate_left
  ·refine⟨rfl,.inr ⟨bR hlt ?_,rfl⟩,eC.bel⟩
   have h:=jk.Z;rw[ID.Z] at h;unfold Im.qy;rw[show Im.pS (bt (x.L (x.st k))) 0 x.own=false from h.symm];rfl
  have HS:=ah eC;clear eC;have eC:=HS.Z;clear HS;go_wp2_with fail;refine aG (zS w p (XC b off cap x ds ino ay own sl un) b off x) 14 (by kernel_rfl) (by kernel_rfl) (by kernel_rfl) (by kernel_rfl) (by kernel_rfl) (by decide) ⟨eC.a,eC.i,eC.bel.drew⟩ ?_;clear eC;simp only[List.take,List.drop];intro hne;have hc:∀y:a9 (zS w p (XC b off cap x ds ino ay own sl un) b off x),y.W.cell? ⟨p,0,none⟩=some (.slice (some ⟨b,off,none⟩) x.n cap):=λy=>y.h.a.cell (i:=0) rfl
  have WI:∀y:a9 (zS w p (XC b off cap x ds ino ay own sl un) b off x),y.W.cell? ⟨p,7,none⟩=some (.int .i64 (x.s:Int)):=λy=>y.h.a.cell (i:=7) rfl
  iterate 6 go_big_quiet_step (fail)
  refine aO rfl 32 (.tmp 32) rfl b (off+q*256) rfl (dR x.L q) _ (λW h=>aM.range h.i q (by omega)) Tryz.underlying32 rfl (by rw[aZ];exact aA) ?_;refine aj ?_;iterate 5 go_big_quiet_step (fail)
  go_big_quiet_want
  go_big_quiet_op
  refine⟨_,λs=>aN s (λW hW=>(mU (HX.Z.jx q) _ 2048 x.s (2048-x.s) rfl (by omega) (by omega) W).mono λe w' h=>⟨h.1,hW.below hn0 h.2⟩),?_⟩
  go_big_quiet_on
  go_big_quiet_step (fail)
  refine wpQuiet_nil ?_;intro w6 h6;have eQ:=h6.Z;clear h6 hne hc WI;have e1:=oU (bt (x.L q)) x.s (2048-x.s);rw[show x.s+(2048-x.s)=2048 by omega] at e1;obtain⟨c2,hc2⟩:=aa (decide (fg (bt (x.L q)) x.s (2048-x.s)<0));rw[<-hc2];rw[<-hc2] at e1;have gY:=ah e1;clear e1 hc2;go_wp2_with fail;refine(bJ 3 c2 _).mono ?_;rintro e w7 ⟨hS,rfl⟩;rcases hS with⟨rfl,rfl⟩|⟨rfl,rfl⟩
  rotate_left
  ·refine⟨rfl,.inr ⟨bR hlt ?_,rfl⟩,eQ.bel⟩
   have h:=gY.Z;rw[ID.Z] at h;unfold Im.qy;rw[show Im.pS (bt (x.L (x.st k))) x.s 2048=false from h.symm,Bool.false_and,Bool.and_false]
  have HS:=ah eQ;clear eQ;have eQ:=HS.Z;clear HS;go_wp2_with fail;refine aG (zS w p (XC b off cap x ds ino ay own sl un) b off x) 15 (by kernel_rfl) (by kernel_rfl) (by kernel_rfl) (by kernel_rfl) (by kernel_rfl) (by decide) ⟨eQ.a,eQ.i,eQ.bel.drew⟩ ?_;clear eQ;simp only[List.take,List.drop];intro hne;have hc:∀y:a9 (zS w p (XC b off cap x ds ino ay own sl un) b off x),y.W.cell? ⟨p,0,none⟩=some (.slice (some ⟨b,off,none⟩) x.n cap):=λy=>y.h.a.cell (i:=0) rfl
  have WH:∀y:a9 (zS w p (XC b off cap x ds ino ay own sl un) b off x),y.W.cell? ⟨p,8,none⟩=some (.int .i64 (x.i:Int)):=λy=>y.h.a.cell (i:=8) rfl
  iterate 7 go_big_quiet_step (fail)
  refine aO rfl 32 (.tmp 48) rfl b (off+(q+1)*256) rfl (dR x.L (q+1)) _ (λW h=>aM.range h.i (q+1) lh) Tryz.underlying32 rfl (by rw[aZ];exact aA) ?_;refine aj ?_;iterate 5 go_big_quiet_step (fail)
  go_big_quiet_want
  go_big_quiet_op
  refine⟨_,λs=>aN s (λW hW=>(mU (HX.Z.jx (q+1)) _ 2048 x.i (2048-x.i) rfl (by omega) (by omega) W).mono λe w' h=>⟨h.1,hW.below hn0 h.2⟩),?_⟩
  go_big_quiet_on
  go_big_quiet_step (fail)
  refine wpQuiet_nil ?_;intro w7 h7;have jl:=h7.Z;clear h7 hne hc WH;have e1:=oU (bt (x.L (q+1))) x.i (2048-x.i);rw[show x.i+(2048-x.i)=2048 by omega] at e1;obtain⟨c3,hc3⟩:=aa (decide (fg (bt (x.L (q+1))) x.i (2048-x.i)<0));rw[<-hc3];rw[<-hc3] at e1;have uV:=ah e1;clear e1 hc3;go_wp2_with fail;refine(bJ 3 c3 _).mono ?_;rintro e w8 ⟨hS,rfl⟩;rcases hS with⟨rfl,rfl⟩|⟨rfl,rfl⟩
  rotate_left
  ·refine⟨rfl,.inr ⟨bR hlt ?_,rfl⟩,jl.bel⟩
   have h:=uV.Z;rw[ID.Z] at h;unfold Im.qy;rw[show Im.pS (bt (x.L (x.st k+1))) x.i 2048=false from h.symm,Bool.and_false,Bool.and_false]
  have m7:Hd (x.qy k=true):=by
   show _=_;have g1:=jk.Z;have g2:=gY.Z;have g3:=uV.Z;rw[ID.Z] at g1 g2 g3;unfold Im.qy;rw[show Im.pS (bt (x.L (x.st k))) 0 x.own=true from g1.symm,show Im.pS (bt (x.L (x.st k))) x.s 2048=true from g2.symm,show Im.pS (bt (x.L (x.st k+1))) x.i 2048=true from g3.symm];rfl
  clear jk gY uV ID lh q0 q1;go_wp2_with fail;go_roundw
  case rel=>exact⟨k+1,by omega,by first|rfl|go_num,λr hr=>by
   by_cases e:r=k
   ·rw[e];exact m7.Z
   exact lW.Z r (by omega),jl⟩
  simp[intOf];omega
 obtain rfl:k=x.g:=by omega
 go_wp2_with fail;refine bodyPost_end (results_none rfl _ _ _) rfl ⟨.inl ⟨(aY _ _).2 lW.Z,rfl⟩,st.bel⟩
end Go.Proofs.YtphamecphmbipaaGreatDoor
