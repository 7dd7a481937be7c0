/- Texts of this claim, merged. -/
import Derived.Test.YtphamecphmbipaaGreatDoorZ05
import Derived.Deep.OwnRows
import Derived.ProofKit
import Derived.Deep.DeepAppendRoom
set_option linter.unusedVariables false
set_option maxRecDepth 100000
set_option maxHeartbeats 16000000

namespace Go.Proofs.YtphamecphmbipaaGreatDoor
open Go.RowKit
variable {w w':World} {off g base k j i:Nat} {m:Nat->Int} {a:Act} {P:Program} {ops:Array Oper} {rest:List Oper} {o oi:Oper} {Q:Exit->Act->World->Prop} {f:Nat->List Value} {T:TypeId} {listed:Array Bool}
def jq(s t:Int):Bool:=seqB s&&decide (0<=t/\t<=255)
def lj(s t:Int):Nat->Int:=if jq s t then wz (jw 4 s t nz) elseλ_=>0
def RW(b:Bool)(e:Int):Int:=if b then 0 else e
def bit(b:Bool):Int:=if b then 1 else 0
def iR(w:World)(b off n:Nat)(m:Nat->Int):Prop:=∀i,i<n->w.cell? ⟨b,off+i,none⟩=some (.int .u32 (m i))
def lE(w:World)(a:Option Addr)(n:Nat)(m:Nat->Int):Prop:=n=0\/∃b off,a=some ⟨b,off,none⟩/\iR w b off n m
theorem iR.below{b n:Nat}(h:iR w b off n m){B:Nat}(hb:Below B w w')(hB:b<B):iR w' b off n m:=
 λi hi=>(hb.cell (p:=⟨b,off+i,none⟩) hB).trans (h i hi)
theorem iR.lt{b n:Nat}(h:iR w b off n m)(hn:0<n):b<w.heap.size:=World.block_lt_of_cell? w _ (h 0 hn)
theorem iR.only{b n:Nat}(h:iR w b off n m)(hb:az g w w')(hg:b≠g):iR w' b off n m:=
 λi hi=>(hb.cell (p:=⟨b,off+i,none⟩) hg).trans (h i hi)
theorem lE.below{a:Option Addr}{n:Nat}(h:lE w a n m)(hb:Below w.heap.size w w'):lE w' a n m:=by
 rcases h with h|⟨b,off,rfl,h⟩
 ·exact .inl h
 by_cases h0:n=0
 ·exact .inl h0
 exact .inr ⟨b,off,rfl,h.below hb (h.lt (by omega))⟩
def pP(m:Nat->Int)(k:Nat)(j:Nat):Int:=if j<k then m j else 0
theorem rC{W:World}{e:TypeId}{size:Nat}{v:Value}{xs:List Value}(h:W.ownsRow base e size v (k+1) xs):∃g cap,v= .slice (some ⟨g,0,none⟩) (k+1) cap:=by
 rcases h.2 with⟨_,h0⟩|⟨g',cap',cur,hv,_⟩
 ·omega
 exact⟨g',cap',hv⟩
theorem lE.block{a:Option Addr}{n:Nat}(h:lE w a n m)(hn:0<n):∀x,a=some x->x.block<w.heap.size:=by
 rcases h with h|⟨b,off,rfl,h⟩
 ·omega
 intro x hx;cases hx;exact h.lt hn
structure aE(W:World)(g:Nat)(T:TypeId)(m n:Nat)(f:Nat->List Value):Prop where
 blk:∃cs,W.heap[g]? =some (.cells cs T (0,0))/\cs.size=n*m
 bQ:aM W g 0 m n f
section
variable {W W':World} {g:Nat} {T:TypeId} {m n:Nat} {f:Nat->List Value}
theorem aE.lt(h:aE W g T m n f):g<W.heap.size:=by obtain⟨cs,h,_⟩:=h.blk;exact(Array.getElem?_eq_some_iff.1 h).1
theorem aE.of_block(h:aE W g T m n f)(e:W'.heap[g]? =W.heap[g]?):aE W' g T m n f:=
 ⟨by obtain⟨cs,h1,h2⟩:=h.blk;exact⟨cs,e.trans h1,h2⟩,λi hi j v hv=>(World.cell?_of_block (w:=W) e).trans (h.bQ i hi j v hv)⟩
theorem aE.below(h:aE W g T m n f)(hb:Below W.heap.size W W'):aE W' g T m n f:=h.of_block (hb.block g h.lt)
theorem aE.grown(h:aE W g T m n f){row:Option Nat}(hb:W.grownBy W' row)(hg:some g≠row):aE W' g T m n f:=h.of_block (hb.block g h.lt hg)
theorem aE.only(h:aE W g T m n f){b:Nat}(hb:az b W W')(hg:g≠b):aE W' g T m n f:=h.of_block (hb.block g hg)
theorem aE.congr{f':Nat->List Value}(h:aE W g T m n f)(e:∀i,i<n->f i=f' i):aE W g T m n f':=⟨h.blk,λi hi j v hv=>h.bQ i hi j v (by rw[e i hi];exact hv)⟩
theorem aE.there(h:aE W g T m n f)(hk:k<n):W.there g (k*m) m:=λj hj=>by
 obtain⟨cs,h1,h2⟩:=h.blk;have hlt:k*m+j<cs.size:=by
  rw[h2];have:(k+1)*m<=n*m:=Nat.mul_le_mul_right m hk;rw[Nat.succ_mul] at this;omega
 exact⟨by rw[aF h1 (Array.getElem?_eq_getElem hlt)];rfl,an h1 _⟩
theorem aE.set(h:aE W g T m n f)(hk:k<n){vs:List Value}(hv:vs.length=m)(hf:∀i,(f i).length=m):aE (W.setCells g (k*m) vs) g T m n (λj=>if j=k then vs else f j)/\az g W (W.setCells g (k*m) vs):=by
 have ho:=ev g vs (k*m) W;have gG:=h.there hk;obtain⟨cs,h1,h2⟩:=h.blk;obtain⟨c',hc1,hc2⟩:=ho.shape _ _ _ h1;refine⟨⟨⟨c',hc2,by rw[hc1,h2]⟩,λi hi j v hj=> ?_⟩,ho⟩;rw[Nat.zero_add]
 by_cases e:i=k
 ·subst e
  rw[if_pos rfl] at hj;exact World.rangeAt_setCells_same W g (i*m) vs (by rw[hv];exact gG) j v hj
 rw[if_neg e] at hj;have hr:W.rangeAt g (i*m) (f i):=by have:=h.bQ.range i hi;rwa[Nat.zero_add] at this
 refine World.rangeAt_setCells_apart hr g (k*m) vs ?_ j v hj;rw[hf,hv];rcases Nat.lt_or_gt_of_ne e with h'|h'
 ·have:(i+1)*m<=k*m:=Nat.mul_le_mul_right m h'
  rw[Nat.succ_mul] at this;omega
 have:(k+1)*m<=i*m:=Nat.mul_le_mul_right m h';rw[Nat.succ_mul] at this;omega
theorem aE.QA(h:aE W g T m n f)(hf:∀i,(f i).length=m)(hb:base<=g)(hn:n<=maxLen):au W base T m (.slice (some ⟨g,0,none⟩) n n) n f:=by
 obtain⟨cs,h1,h2⟩:=h.blk;refine⟨di hf n,.inr ⟨g,n,cs,rfl,hb,h1,Nat.le_refl _,hn,h2,?_⟩⟩;rw[List.take_of_length_le (by rw[Array.length_toList,h2];exact Nat.le_refl _)];apply List.ext_getElem?;intro p
 by_cases hp:p<n*m
 ·have hm:0<m:=by
   rcases Nat.eq_zero_or_pos m with e|e
   ·rw[e,Nat.mul_zero] at hp;omega
   exact e
  have hq:p/m<n:=(Nat.div_lt_iff_lt_mul hm).2 hp;have hr:p%m<m:=Nat.mod_lt _ hm;have he:p/m*m+p%m=p:=by rw[Nat.mul_comm];exact Nat.div_add_mod p m
  obtain⟨v,hv⟩:∃v,(f (p/m))[p%m]? =some v:=⟨_,List.getElem?_eq_getElem (by rw[hf];exact hr)⟩;have h3:=h.bQ (p/m) hq (p%m) v hv;rw[Nat.zero_add,he] at h3;have h4:=xf hf hq hr;rw[he] at h4;rw[h4,hv,Array.getElem?_toList,Array.getElem?_eq_getElem (by rw[h2];exact hp)];have h5:=aF h1 (Array.getElem?_eq_getElem (show p<cs.size by rw[h2];exact hp));rw[h3] at h5;exact h5.symm
 rw[List.getElem?_eq_none (by rw[Array.length_toList,h2];omega),List.getElem?_eq_none (by rw[di hf];omega)]
theorem aE.made(w:World)(z:Array Value)(hz:z.size=m)(hm:0<m)(n:Nat)(T:TypeId):aE (w.alloc (.cells (madeCells z (n*m)) T)) w.heap.size T m n (λ_=>z.toList):=
 ⟨⟨_,heap_alloc_new w _,size_madeCells _ _⟩,λi hi j v hj=>by
  rw[Nat.zero_add];have hj':j<m:=by have:=(List.getElem?_eq_some_iff.1 hj).1;rw[Array.length_toList,hz] at this;exact this
  have hlt:i*m+j<n*m:=by
   have:(i+1)*m<=n*m:=Nat.mul_le_mul_right m hi;rw[Nat.succ_mul] at this;omega
  refine aF (heap_alloc_new w _) ?_;have NJ:(i*m+j)%m=j:=by rw[Nat.mul_comm,Nat.mul_add_mod,Nat.mod_eq_of_lt hj']
  have hz':z[j]? =some v:=by rw[<-hj,Array.getElem?_toList]
  simp only[madeCells,Array.getElem?_map,Array.getElem?_range,hlt,if_true,Option.map_some,hz,NJ];rw[getElem!_def,hz']⟩
theorem dx(t e:TypeId)(z:Value)(m bytes:Nat)(ht:P.underlying t=some (.slice e))(hinfo:(P.info? e).map (λi=>(i.zero,i.size,i.bytes))=some (some z,m,bytes))
  (kl kc:IntKind) (n:Nat) (hbytes:bytes*n<=281474976710656) (h63:n<=9223372036854775807) (w:World):
  (Instr.makeSlice t (.int kl (n:Int)) (.int kc (n:Int))).run P w= .ok (.slice (some ⟨w.heap.size,0,none⟩) n n) (w.alloc (.cells (madeCells z.cells (n*m)) e)):=by
 obtain⟨i,hi,hzz⟩:=Option.map_eq_some_iff.1 hinfo;simp only[Prod.mk.injEq] at hzz;obtain⟨hz,hs,hb⟩:=hzz;have hb':(i.bytes:Int)*(n:Int)<=281474976710656:=by
  have h:((i.bytes*n:Nat):Int)<=281474976710656:=by rw[hb];omega
  rwa[Int.natCast_mul] at h
 have hr:=run_make (P:=P) w t e i z ht hi hz kl kc n n (by omega) (Int.le_refl _) hb' (by omega);simp only[Int.toNat_natCast,hs] at hr;exact hr
end
theorem aH(hw:Region.wanted o (yielded ops a.tmps)=true)(T:TypeId)(p:Operand)(ho:o.op= .load T p)
  (g off:Nat) (cs:List Value) (d:TypeDesc) (hx:a.eval p= .pointer (some ⟨g,off,none⟩)) (hI:w.rangeAt g off cs) (hu:P.underlying T=some d) (hd:d.isRow=true) (hi:(P.info? T).map (·.size)=some cs.length)
  (h:wpList P ops Q rest (a.put o.dst (.agg cs.toArray)) w):wpList P ops Q (o::rest) a w:=
 BigFrame.wpList_want hw λ_ hK=>wp_load_mid T p ho g off hx cs d hI hu hd hi (hK _ _ h)
def MJ(c r:Int):Int:=
 if c<0\/r<0\/2048<c\/2048<r\/(c=0/\r=0) then 0 else c+(c+29)/30+(r+59)/60+1
structure Tr where
 s:Int
 n:Nat
 cb:Nat->Int
 cd:Nat->Nat->Int
 m:Nat
 rv:Nat->Int
structure Tr.Ok(t:Tr):Prop where
 s:0<=t.s/\t.s<4294967296
 cb:∀i,-9223372036854775808<=t.cb i/\t.cb i<=9223372036854775807
 cd:∀i,bu (t.cd i)
 rv:∀i,-9223372036854775808<=t.rv i/\t.rv i<=9223372036854775807
 n:(t.n:Int)<=9223372036854775807
 m:(t.m:Int)<=9223372036854775807
 cb0:∀i,t.n<=i->t.cb i=0
 YF:∀i,t.m<=i->t.rv i=0
def Fq(b:Nat->Int):Nat->Bool
 |0=>true
 |i+1=>Fq b i&&(decide ((if i=0 then -1 else b (i-1))<b i)&&decide (b i<2048))
def Vb(s:Int)(n:Nat)(cb:Nat->Int)(m:Nat)(rv:Nat->Int):Bool:=seqB s&&(decide (0<n+m)&&(Fq cb n&&Fq rv m))
def Tr.may(t:Tr):Bool:=Vb t.s t.n t.cb t.m t.rv
def dN(n:Nat):Nat:=n+(n+29)/30
def rN(m:Nat):Nat:=(m+59)/60
def Tr.c(t:Tr):Nat:=dN t.n+rN t.m
def Tr.size(t:Tr):Int:=MJ t.n t.m
abbrev Xv(b:Int)(z:Nat->Int):List Value:=.int .i64 b::Ks .u8 256 z
def L7(cb:Nat->Int)(cd:Nat->Nat->Int)(i:Nat):List Value:=Xv (cb i) (cd i)
def dR(B:Nat->Nat->Int)(i:Nat):List Value:=Ks .u8 256 (B i)
def Tw(b:Nat->Int)(i:Nat):List Value:=[.int .i64 (b i)]
theorem Kt(b:Int)(z:Nat->Int):(Xv b z).length=257:=by simp[Ks]
theorem aZ(B:Nat->Nat->Int)(i:Nat):(dR B i).length=256:=by simp[dR,Ks]
theorem Cm(k:IntKind)(n:Nat)(z:Nat->Int):∀v∈Ks k n z,v.oneCell'=true:=by
 intro v hv;unfold Ks at hv;obtain⟨i,_,rfl⟩:=List.mem_map.1 hv
 rfl
theorem Cg(B:Nat->Nat->Int)(i:Nat):∀v∈dR B i,v.oneCell'=true:=Cm _ _ _
theorem aM.alloc{b m n:Nat}(h:aM w b off m n f)(o:Obj):aM (w.alloc o) b off m n f:=λi hi j v hv=>by
 have h1:=h i hi j v hv;have:=World.block_lt_of_cell? w _ h1;rw[World.cell?_of_block (w:=w) (Below.heap_alloc w o b this)];exact h1
theorem cU.alloc{a:Option Addr}{m n:Nat}(h:cU w a m n f)(o:Obj):cU (w.alloc o) a m n f:=by
 rcases h with h|⟨b,off,rfl,h⟩
 ·exact .inl h
 exact .inr ⟨b,off,rfl,h.alloc o⟩
theorem aE.dO{W:World}{m n:Nat}(h:aE W g T m n f)(hk:k<n)(hj:j<m)(hf:∀i,(f i).length=m)(v:Value):aE (W.setCell ⟨g,k*m+j,none⟩ v) g T m n (λi=>if i=k then(f i).set j v else f i):=by
 have ho:=az.setCell W ⟨g,k*m+j,none⟩ v;obtain⟨cs,h1,h2⟩:=h.blk;obtain⟨c',hc1,hc2⟩:=ho.shape _ _ _ h1;refine⟨⟨c',hc2,by rw[hc1,h2]⟩,λi hi p u hp=> ?_⟩;rw[Nat.zero_add];obtain⟨x,hx⟩:∃x,W.cell? ⟨g,k*m+j,none⟩=some x:=by
  have:=h.bQ k hk j _ (List.getElem?_eq_getElem (by rw[hf];exact hj));rw[Nat.zero_add] at this;exact⟨_,this⟩
 have hpm:p<m:=by
  have:=(List.getElem?_eq_some_iff.1 hp).1
  by_cases e:i=k
  ·rw[if_pos e,List.length_set,hf] at this;exact this
  rw[if_neg e,hf] at this;exact this
 by_cases e:i=k
 ·subst e
  rw[if_pos rfl] at hp
  by_cases e2:p=j
  ·subst e2
   rw[List.getElem?_set_self (by rw[hf];exact hpm)] at hp;cases hp
   exact World.cell?_setCell_same _ _ _ hx
  rw[List.getElem?_set_ne (λh=>e2 h.symm)] at hp;rw[World.cell?_setCell_other _ _ _ _ (by intro h;injection h with _ h _;omega)];have:=h.bQ i hi p u hp;rwa[Nat.zero_add] at this
 rw[if_neg e] at hp;have hne:k*m+j≠i*m+p:=by
  rcases Nat.lt_or_gt_of_ne e with h'|h'
  ·have:(i+1)*m<=k*m:=Nat.mul_le_mul_right m h'
   rw[Nat.succ_mul] at this;omega
  have:(k+1)*m<=i*m:=Nat.mul_le_mul_right m h';rw[Nat.succ_mul] at this;omega
 rw[World.cell?_setCell_other _ _ _ _ (by intro h;injection h with _ h _;exact hne h)];have:=h.bQ i hi p u hp;rwa[Nat.zero_add] at this
theorem az.grown{b:Nat}(h:az b w w'):w.grownBy w' (some b):=⟨h.os,h.tape,h.output,by rw[h.size];exact Nat.le_refl _,λk _ hk=>h.block k (λe=>hk (by rw[e]))⟩
theorem iY{op:Oper}(hgd:op.guard=none)(ty:TypeId)(x y:Operand)(ho:op.op= .store ty x y)
  (b o:Nat) (cs:List Value) (hx:a.eval x= .pointer (some ⟨b,o,none⟩)) (hy:a.eval y= .agg cs.toArray)
  (ht:w.there b o cs.length) (hi:(P.info? ty).map (·.size)=some cs.length) (h1:∀v∈cs,v.oneCell'=true)
  (h:∀w',Hd (w'=w.setCells b o cs)->wpList P ops Q rest (a.put op.dst undef) w'):wpList P ops Q (op::rest) a w:=
 wpList_store_mid hgd ty x y ho b o cs.toArray hx hy (by simpa using ht) (by simpa using hi) (by rw[List.all_toArray,List.all_eq_true];exact h1) (h _ (ah rfl))
theorem er(hgd:o.guard=none)(t:TypeId)(n i:Nat)(x:Operand)(ho:o.op= .buildSlice t n #[(i,x)])
  (u:Value) (hx:a.eval x=u) (v:Value) (w':World) (hr:(Instr.buildSlice t n #[(i,u)]).run P w= .ok v w') (h:wpList P ops Q rest (a.put o.dst v) w'):wpList P ops Q (o::rest) a w:=
 wpList_plain hgd λ_ hK=>by
  unfold Oper.wp execOp;subst hx;simp only[ho,Sem.run_bind,List.map_toArray,List.map_cons,List.map_nil,hr,Result.andThen_ok,Sem.run_pure];exact hK _ _ h
theorem um:(Tryz.prog.info? 32).map (λi=>(i.zero,i.size,i.bytes))=some (some (aR λ_=>0),256,256):=by kernel_rfl
theorem cU.only{W W':World}{a:Option Addr}{m n p:Nat}(h:cU W a m n f)(ho:az p W W')(hne:∀b off,a=some ⟨b,off,none⟩->b≠p):cU W' a m n f:=by
 rcases h with h|⟨b,off,rfl,h⟩
 ·exact .inl h
 exact .inr ⟨b,off,rfl,λi hi j v hj=>(ho.cell (p:=⟨b,off+i*m+j,none⟩) (hne b off rfl)).trans (h i hi j v hj)⟩
section
variable {F:Fence} {n:Nat} {P:Program}
end
section
open Go.Shelf
attribute [local go_sem] Oper.semAt_some
end
theorem CA:bu (λ_=>0):=λ_=>⟨Int.le_refl 0,(by decide:(0:Int)<256)⟩
section
open Go.Shelf
attribute [local go_sem] Oper.semAt_some
section
variable {w:World} {t:Tr} {ca:Option Addr} {cc:Nat} {ra:Option Addr} {rc q p5 p6 cnt cap:Nat} {W W':World}
end
theorem At.fX{W W1:World}{q:Nat}{cs:Array Value}(h:At W g T cs)(hg:W.grownBy W1 (some q))(hne:g≠q):At W1 g T cs:=(hg.block _ h.lt (by intro e;injection e with e;exact hne e)).trans h
end
namespace Mv
def kU(md:Region.Mode)(ops:Array Oper):Nat->Nat->Nat->Bool
 |0,_,_=>false
 |fuel+1,j,i=>match ops[j]? with
  |none=>false
  |some oj=>oj.after.any λe=>Region.binds md e&&(e.on==i||kU md ops fuel e.on i)
def kj(md:Region.Mode)(ops:Array Oper):Bool:=
 (List.range ops.size).all λj=>(List.range j).all λi=>match ops[j]?,ops[i]? with
  |some oj,some oi=> !(mv oi&&mv oj)||kU md ops ops.size j i
  |_,_=>true
section
variable {P:Program} {ops:Array Oper} {md:Region.Mode} {σ:Type} {C:σ->World->Prop}
theorem zh(h:kj md ops=true){oj:Oper}(hi:ops[i]? =some oi)(hj:ops[j]? =some oj)(ci:mv oi=true)(cj:mv oj=true)(hij:i<j):kU md ops ops.size j i=true:=by
 unfold kj at h;rw[List.all_eq_true] at h;have h1:=h j (List.mem_range.2 (Array.getElem?_eq_some_iff.1 hj).1);rw[List.all_eq_true] at h1;have h2:=h1 i (List.mem_range.2 hij);rw[hi,hj] at h2;simpa only[ci,cj,Bool.and_true,Bool.not_true,Bool.false_or] using h2
def Cl(md:Region.Mode)(ops:Array Oper)(listed:Array Bool):Prop:=∀j oj,ops[j]? =some oj->listed.getD j false=true->∀e∈oj.after,Region.binds md e=true->listed.getD e.on false=true
theorem Cl.next(h:Cl md ops listed)(hj:j∈Region.ready md ops listed):Cl md ops (listed.setIfInBounds j true):=by
 intro k ok hk hl e he hb;obtain⟨hun,oj,DK,hall⟩:=mem_ready.1 hj;refine getD_set_true ?_
 by_cases hjk:j=k
 ·subst hjk
  rw[DK] at hk;cases hk;exact hall e he hb
 rw[getD_set_ne false hjk] at hl;exact h k ok hk hl e he hb
theorem Cl.reach(h:Cl md ops listed):∀{fuel j i:Nat} {oj:Oper},(∀e∈oj.after,Region.binds md e=true->listed.getD e.on false=true)->ops[j]? =some oj->kU md ops fuel j i=true->listed.getD i false=true
 |0,_,_,_,_,_,hr=>by cases hr
 |fuel+1,j,i,oj,hall,hj,hr=>by
  unfold kU at hr;rw[hj] at hr;simp only[Array.any_eq_true',Bool.and_eq_true,Bool.or_eq_true,beq_iff_eq] at hr;obtain⟨e,he,hb,hr⟩:=hr;have h1:=hall e he hb;rcases hr with rfl|hr
  ·exact h1
  cases ho:ops[e.on]? with
  |none=>
   cases fuel with
   |zero=>cases hr
   |succ f=>unfold kU at hr;rw[ho] at hr;cases hr
  |some oe=>exact Cl.reach h (h _ oe ho h1) ho hr
theorem sZ(hex:∀f args w (R':Ending->World->Prop),Calls P f args w R'->∃e w',R' e w')(hch:kj md ops=true){Q:σ->Act->Prop}(hi:ops[i]? =some oi)(QT:∀(j:Nat) (o:Oper) cs b,ops[j]? =some o->o.op≠ .select cs b):
  ∀(fuel:Nat) (listed:Array Bool) (s:σ) (a:Act),NE C s->Cl md ops listed->(∀j,j<i->listed.getD j true=true)->
   (∀j oj,ops[j]? =some oj->j≠i->listed.getD j true=false->(∀e∈oj.after,Region.binds md e=true->e.on≠i)->oi.apart ops oj=true)->
   i∈Region.ready md ops listed->LX P ops C oi a s (wpAnyL P md ops C Q fuel (listed.setIfInBounds i true))->wpAnyL P md ops C Q (fuel+1) listed s a:=by
 intro fuel
 induction fuel with
 |zero=>
  intro listed s a hne _ _ _ hr H;refine⟨λh=>(by rw[h] at hr;cases hr),λj hj=> ?_⟩
  by_cases rZ:j=i
  ·subst rZ;exact H.dS hi
  have h1:=ready_mono hj rZ;have h2:Region.ready md ops (listed.setIfInBounds i true)=[]:=by
   obtain⟨w0,Og⟩:=hne;rcases H with⟨_,⟨_,hk⟩|⟨_,v,_,hk⟩⟩|⟨_,hk⟩
   ·obtain⟨_,_,s',_,hL⟩:=kZ (hk w0 Og) hex
    exact hL.1
   ·exact hk.1
   exact hk.1
  rw[h2] at h1;cases h1
 |succ fuel ih=>
  intro listed s a hne hpre Gp hfree hr H;refine⟨λh=>(by rw[h] at hr;cases hr),λj hj=> ?_⟩
  by_cases rZ:j=i
  ·subst rZ;exact H.dS hi
  have H1:LX P ops C oi a s (λs1 a1=>Mv.dS P ops C j (wpAnyL P md ops C Q fuel ((listed.setIfInBounds i true).setIfInBounds j true)) s1 a1):=
   H.mono hne λs1 a1 _ h=>h.2 j (ready_mono hj rZ)
  obtain⟨JX,oj,DK,hall⟩:=mem_ready.1 hj;have VT:∀e∈oj.after,Region.binds md e=true->e.on≠i:=λe he hb heq=>by
   have h1:=hall e he hb;have h0:=getD_both (mem_ready.1 hr).1;rw[heq,h0] at h1;cases h1
  have hij:i<j:=by
   rcases Nat.lt_or_ge j i with h'|h'
   ·rw[Gp j h'] at JX;cases JX
   omega
  have hcc:mv oi=false\/mv oj=false:=by
   cases ci:mv oi with
   |false=>exact .inl rfl
   |true=>
    refine .inr ?_;cases cj:mv oj with
    |false=>rfl
    |true=>
     have h0:=getD_both (mem_ready.1 hr).1;have:=hpre.reach hall DK (zh hch hi DK ci cj hij);rw[h0] at this;cases this
  have h2:=Ds hex DK (hfree j oj DK rZ JX VT) (λcs b=>QT i oi cs b hi) (λcs b=>QT j oj cs b DK) hcc hne H1;have NQ:∀k ok,ops[k]? =some ok->k≠i->(listed.setIfInBounds j true).getD k true=false->
    (∀e∈ok.after,Region.binds md e=true->e.on≠i)->oi.apart ops ok=true:=λk ok hk Wd hun hno=>by
   refine hfree k ok hk Wd ?_ hno
   by_cases hjk:j=k
   ·subst hjk;exact JX
   rw[getD_set_ne true hjk] at hun;exact hun
  have Rc:∀m,m<i->(listed.setIfInBounds j true).getD m true=true:=λm hm=>by rw[getD_set_ne true (by omega)];exact Gp m hm
  refine Aw hne (λs' a' NH h3=> ?_) h2;refine ih (listed.setIfInBounds j true) s' a' NH (hpre.next hj) Rc NQ (ready_mono hr (Ne.symm rZ)) ?_;rw[Array.setIfInBounds_comm _ _ rZ];exact h3
theorem fH(hex:∀f args w (R':Ending->World->Prop),Calls P f args w R'->∃e w',R' e w')(hch:kj md ops=true){Q:σ->Act->Prop}(hs:Region.noSelect ops=true):∀(l:List Oper) (n:Nat) (listed:Array Bool) (s:σ) (a:Act),NE C s->Cl md ops listed->(∀j,j<n->listed.getD j true=true)->(∀j,l[j]? =ops[n+j]?)->
  Region.lexFrom md ops l.length n listed=true->du P ops C Q l s a->wpAnyL P md ops C Q l.length listed s a
 |[],_,_,_,_,_,_,_,_,hB,h=>⟨by simpa[Region.lexFrom] using hB,h⟩
 |o::l,n,listed,s,a,hne,hpre,Gp,hl,hB,h=>by
  have h0:ops[n]? =some o:=by simpa using(hl 0).symm
  simp only[List.length_cons,Region.lexFrom,Bool.and_eq_true] at hB;obtain⟨⟨hr,hf⟩,hB'⟩:=hB;have hr':n∈Region.ready md ops listed:=by simpa using hr
  refine sZ hex hch h0 (Region.noSelect_spec hs) l.length listed s a hne hpre Gp (Region.free_spec h0 hf) hr' ?_;refine LX.mono hne (λs' a' NH h'=> ?_) h;refine fH hex hch hs l (n+1) _ _ _ NH (hpre.next hr') (λj hj=> ?_) (λj=>by have:=hl (j+1);simpa[Nat.add_assoc,Nat.add_comm 1 j] using this) hB' h'
  by_cases hjn:n=j
  ·subst hjn
   rcases Nat.lt_or_ge n listed.size with h'|h'
   ·simp[h']
   simp[h']
  rw[getD_set_ne true hjn];exact Gp j (by omega)
theorem bH(C:σ->World->Prop)(s:σ){id:Nat}{l:List Oper}(hm:P.follows .mixedOrders=true)(hB:Region.lexB .any l.toArray=true)(hch:kj .any l.toArray=true)(hC:C s {w with drawn:=w.drawn+1})
  (h:Nonempty (a9 λw=>∃s,C s w)->du P l.toArray C (λs a'=>∀w',C s w'->Q .normal a' w') l s a):(Code.region id l.toArray true).wp P Q a w:=by
 simp only[Region.lexB,Bool.and_eq_true] at hB;refine wp_region_any hm (nu (Q:=λs a'=>∀w',C s w'->Q .normal a' w') (λ_ _ w' hw' h=>h w' hw') _ _ s _ _ hC ?_);have:=fH (C:=C) (md:=.any) iN hch hB.1 l 0 (Array.replicate l.toArray.size false) s a ⟨_,hC⟩ (λj oj hj hl=>by
   rcases Nat.lt_or_ge j l.toArray.size with h'|h'
   ·rw[List.size_toArray] at h';simp[h'] at hl
   rw[List.size_toArray] at h';simp[h'] at hl) (λj hj=>by omega) (by simp) (by simpa using hB.2) (h ⟨⟨_,s,hC⟩⟩)
 simpa using this
theorem cf{Q:σ->Act->Prop}{s:σ}(hw:Region.wanted o (yielded ops a.tmps)=true)(hm:mv o=true)(f:FuncId)(args:Array Value)(u:Value)(s':σ)
  (hrun:∀W,(execOp a.eval o).run P W= .ok (.enter f args) W) (hcall:∀W,C s W->Calls P f args W λe w'=>e= .returned u/\C s' w') (hk:du P ops C Q rest s' (a.put o.dst u)):du P ops C Q (o::rest) s a:=
 rP hw hm λw hC=>by
  rw[hrun];exact(hcall w hC).mono λe w' h=>⟨u,h.1,s',h.2,hk⟩
end
end Mv
theorem Qj(g:Nat)(l:Nat->Int)(k:Nat)(K v:Int)(hK:K=4*(k:Int))(hk:k<64)(hv:0<=v)(hv2:v<4294967296)(w:World)(hB:aU w g T 256 (wz l)):
  Calls Tryz.prog 71 #[.slice (some ⟨g,0,none⟩) 256 256,.int .i64 K,.int .u32 v] w λe w'=>e= .returned (.bool true)/\aU w' g T 256 (wz (upd l k v))/\az g w w':=by
 refine(dm g 0 256 256 K v (wz l) w (by omega) (by omega) (by omega) hv hv2 hB.bQ (EK l) (hB.soft 0 256)).mono λe w' ⟨he,hp⟩=>⟨he,?_,hp.only⟩
 rw[show 0+K.toNat=4*k by omega] at hp;exact(hB.kD hp).congr λi _=>Mz l k v i
theorem FO(m:Nat->Int)(k j:Nat):upd (pP m k) k (m k) j=pP m (k+1) j:=by
 unfold upd pP
 by_cases h:j=k
 ·rw[if_pos h,if_pos (by omega),h]
 rw[if_neg h]
 by_cases c:j<k
 ·rw[if_pos c,if_pos (by omega)]
 rw[if_neg c,if_neg (by omega)]
structure BkC(w:World)(G b off n:Nat)(m:Nat->Int)(k j:Nat)(W:World):Prop where
 r:aU W w.heap.size 32 256 (λ_=>0)
 g:aU W G 32 256 (wz (if j=0 then pP m k else pP m (k+1)))
 t:iR W b off n m
 bel:Below w.heap.size w W
theorem Am(a:Option Addr)(n cap:Nat)(m:Nat->Int)(hm:TZ m)(hn:n<=64)(w:World)(hT:lE w a n m):
  Calls Tryz.prog 101 #[.slice a n cap] w λe w'=>e= .returned (aR (wz (pP m n)))/\Below w.heap.size w w':=by
 have hal:=cW;have hR:aU ((w.alloc (.cells (Ks .u8 256 (λ_=>0)).toArray 32)).alloc (.cells (Ks .u8 256 (λ_=>0)).toArray 32)) w.heap.size 32 256 (λ_=>0):=(aU.new _ _ _ _).alloc _;have hB:aU ((w.alloc (.cells (Ks .u8 256 (λ_=>0)).toArray 32)).alloc (.cells (Ks .u8 256 (λ_=>0)).toArray 32)) (w.heap.size+1) 32 256 (wz (pP m 0)):=by
  have:=aU.new (w.alloc (.cells (Ks .u8 256 (λ_=>0)).toArray 32)) 32 256 (λ_=>0);simp only[World.size_alloc] at this;exact this.congr λi _=>(zj _).symm
 have hL:Below w.heap.size w ((w.alloc (.cells (Ks .u8 256 (λ_=>0)).toArray 32)).alloc (.cells (Ks .u8 256 (λ_=>0)).toArray 32)):=(ag.alloc af _).alloc (by simp) _;have WT:=hT.below hL;have hblk:∀x,a=some x->0<n->x.block<w.heap.size:=λx hx h0=>hT.block h0 x hx
 have Yq:=ah hblk;have HM:=ah hm;clear hT hblk hm;go_enter Tryz.func101,Tryz.ntmps101;go_wp2_with fail;generalize ((w.alloc (.cells (Ks .u8 256 (λ_=>0)).toArray 32)).alloc (.cells (Ks .u8 256 (λ_=>0)).toArray 32))=w1 at hR hB hL WT ⊢;go_loopw [4] (λu wr=>∃k:Nat,k<=n/\u= .int .i64 (k:Int)/\aU wr w.heap.size 32 256 (λ_=>0)/\aU wr (w.heap.size+1) 32 256 (wz (pP m k))/\lE wr a n m/\Below w.heap.size w wr) (λu _=>n-(intOf u).toNat)
 case atStart=>exact⟨0,by omega,rfl,hR,hB,WT,hL⟩
 clear hR hB hL WT;obtain⟨k,hk,rfl,hR,hB,hT,hL⟩:=hrel
 by_cases hlt:k<n
 ·obtain⟨b,off,rfl,hseg⟩:∃b off,a=some ⟨b,off,none⟩/\iR wr b off n m:=by
   rcases hT with h|h
   ·omega
   exact h
  have hblt:=Yq.Z _ rfl (by omega);simp only at hblt;obtain⟨hm0,BU⟩:=HM.Z k;have hc0:∀x:a9 (λW=>∃j,BkC w (w.heap.size+1) b off n m k j W),x.W.cell? ⟨b,off+k,none⟩=some (.int .u32 (m k)):=λx=>by obtain⟨j,h⟩:=x.h;exact h.t k hlt
  have e1:IntKind.i64.wrap (4*(k:Int))=4*(k:Int):=IntWalk.i64_in _ (by omega);have hsa:=λW=>bw (w.heap.size+1) 0 W
  have l0:(0:Int)<=(k:Int):=by omega
  have l1:(k:Int)<(n:Int):=by omega
  go_wp2_with fail;refine Mv.bH (BkC w (w.heap.size+1) b off n m k) 0 (by kernel_rfl) (by kernel_rfl) (by kernel_rfl) ⟨hR,hB,hseg,hL.drew⟩ ?_;intro hne
  (refine Mv.aX 7 (by kernel_rfl) ?_;simp only[List.take,List.drop])
  iterate 7 go_big_quiet_step (fail)
  refine wpQuiet_nil ?_;refine Mv.cf rfl rfl 71 #[.slice (some ⟨w.heap.size+1,0,none⟩) 256 256,.int .i64 (4*(k:Int)),.int .u32 (m k)] (.bool true) 1 (λW=>by kernel_rfl) (λW h=> ?c1) ?_
  case c1=>
   refine(Qj (w.heap.size+1) (pP m k) k (4*(k:Int)) (m k) rfl (by omega) hm0 BU W h.g).mono ?_;rintro e w6 ⟨rfl,lr,jo⟩;exact⟨rfl,h.r.only jo (by omega),lr.congr λi hi=>xy 64 (λj _=>FO m k j) i hi,h.t.only jo (by omega),h.bel.trans (jo.below (by omega))⟩
  refine Mv.frame ?_;refine Mv.bI ?_;rintro w6 ⟨Ka,lr,ZG,TO⟩;rw[if_neg (by decide)] at lr;clear hne hR hB hT hL hseg hc0 e1 hsa;go_wp2_with fail;go_roundw
  case rel=>(try((repeat apply Exists.intro);refine⟨?_,rfl⟩));exact⟨k+1,by omega,by go_num,Ka,lr,.inr ⟨b,off,rfl,ZG⟩,TO⟩
  simp[intOf];omega
 obtain rfl:k=n:=by omega
 go_wp2_with (first|(refine gm rfl (.tmp 3) rfl (w.heap.size+1) (wz (pP m k)) rfl hB ?_)|(refine bm rfl (.tmp 2) (.tmp 19) rfl w.heap.size (wz (pP m k)) _ rfl rfl hR ?_))
 intro w6 Ka jo;go_wp2_with fail;exact bodyPost_ret (fI rfl _ _ w.heap.size _ rfl Ka) rfl ⟨rfl,hL.trans (jo.below af)⟩
theorem CU(a b c d:Int)(w:World):(Instr.buildSlice 180 4 #[(0,.int .u32 a),(1,.int .u32 b),(2,.int .u32 c),(3,.int .u32 d)]).run Tryz.prog w= .ok (.slice (some ⟨w.heap.size,0,none⟩) 4 4) (w.alloc (.cells #[.int .u32 a,.int .u32 b,.int .u32 c,.int .u32 d] 45)):=by kernel_rfl
theorem Qr(w:World)(k s f:Int)(r:Nat->Int):lE (w.alloc (.cells #[.int .u32 1280199249,.int .u32 k,.int .u32 s,.int .u32 f] 45)) (some ⟨w.heap.size,0,none⟩) 4 (jw k s f r):=by
 refine .inr ⟨_,_,rfl,λi hi=> ?_⟩;have h:=heap_alloc_new w (.cells #[.int .u32 1280199249,.int .u32 k,.int .u32 s,.int .u32 f] 45);obtain rfl|rfl|rfl|rfl:i=0\/i=1\/i=2\/i=3:=by omega
 all_goals exact aF h rfl
theorem IQ{l:Nat->Int}{n:Nat}(h:∀k,k<64->(if k<n then m k else 0)=l k):aR (wz (pP m n))=aR (wz l):=Ba λi hi=>xy 64 h i hi
theorem Jr:TZ nz:=λ_=>by unfold nz;decide
theorem rq(s t:Int)(w:World)(hs:0<=s/\s<4294967296)(ht:-9223372036854775808<=t/\t<=9223372036854775807):
  Calls Tryz.prog 62 #[.agg #[.int .u32 s,.int .i64 t]] w λe w'=>e= .returned (.tuple #[aR (lj s t),.int .i64 (RW (jq s t) 2)])/\Below w.heap.size w w':=by
 obtain⟨hs0,hs1⟩:=hs;obtain⟨ht0,ht1⟩:=ht;have hal:=cW;obtain⟨W,hW⟩:=aa ((w.alloc (.cells #[.int .u32 s,.int .i64 t] 141)).alloc (.cells (Ks .u8 256 (λ_=>0)).toArray 32));have c0:W.cell? ⟨w.heap.size,0,none⟩=some (.int .u32 s):=by rw[hW];exact aF (eh (heap_alloc_new w _) _) rfl
 have c1:W.cell? ⟨w.heap.size,1,none⟩=some (.int .i64 t):=by rw[hW];exact aF (eh (heap_alloc_new w _) _) rfl
 have hR:aU W (w.heap.size+1) 32 256 (λ_=>0):=by
  rw[hW];have:=aU.new (w.alloc (.cells #[.int .u32 s,.int .i64 t] 141)) 32 256 (λ_=>0);simp only[World.size_alloc] at this;exact this
 have hL:Below w.heap.size w W:=by rw[hW];exact(ag.alloc af _).alloc (by simp) _
 have HW:=ah hW;have O1:=ah c0;have jk:=ah c1;clear hW c0 c1;go_enter Tryz.func62,Tryz.ntmps62;go_wp2_with fail;rw[<-HW.Z];refine(Fw s _).mono ?_;rintro e w1 ⟨rfl,rfl⟩;have c0:=O1.Z;have c1:=jk.Z;clear O1 jk HW
 by_cases hq:seqB s=true
 rotate_left
 ·rw[Bool.not_eq_true] at hq
  have HO:Hd (jq s t=false):=by show _=_;unfold jq;rw[hq];rfl
  rw[hq];clear hq;go_wp2_with (first|(refine bm rfl (.tmp 2) (.tmp 18) rfl (w.heap.size+1) (λ_=>0) _ rfl rfl hR ?_))
  intro w2 lq eI;go_wp2_with fail;exact bodyPost_ret (cw rfl _ _ (w.heap.size+1) _ rfl lq) rfl ⟨by rw[lj,HO.Z];rfl,hL.trans (eI.below (by omega))⟩
 by_cases h1:0<=t
 rotate_left
 ·have HO:Hd (jq s t=false):=by show _=_;unfold jq;simp[h1]
  rw[hq];clear hq;go_wp2_with (first|(refine bm rfl (.tmp 2) (.tmp 18) rfl (w.heap.size+1) (λ_=>0) _ rfl rfl hR ?_))
  intro w2 lq eI;go_wp2_with fail;exact bodyPost_ret (cw rfl _ _ (w.heap.size+1) _ rfl lq) rfl ⟨by rw[lj,HO.Z];rfl,hL.trans (eI.below (by omega))⟩
 by_cases h2:t<=255
 rotate_left
 ·have HO:Hd (jq s t=false):=by show _=_;unfold jq;simp[h2]
  rw[hq];clear hq;go_wp2_with (first|(refine bm rfl (.tmp 2) (.tmp 18) rfl (w.heap.size+1) (λ_=>0) _ rfl rfl hR ?_))
  intro w2 lq eI;go_wp2_with fail;exact bodyPost_ret (cw rfl _ _ (w.heap.size+1) _ rfl lq) rfl ⟨by rw[lj,HO.Z];rfl,hL.trans (eI.below (by omega))⟩
 have HO:Hd (jq s t=true):=by show _=_;unfold jq;rw[hq];simp[h1,h2]
 rw[hq];clear hq;have hbs:=CU;have hrow:=Qr W 4 s t nz;have Ee:=ah hrow;clear hrow;go_wp2_with fail;refine(Am _ 4 4 (jw 4 s t nz) (Nh (by decide) (by omega) (by omega) Jr) (by decide) _ Ee.Z).mono ?_;rintro e w2 ⟨rfl,hb2⟩;rw[IQ (l:=jw 4 s t nz) (λk _=>by
  split
  ·rfl
  unfold jw nz;rw[if_neg (by omega),if_neg (by omega),if_neg (by omega),if_neg (by omega)])]
 have lq:=(hR.alloc _).below hb2 (hR.alloc _).lt;have hL2:Below w.heap.size w w2:=(hL.alloc hL.size _).trans (hb2.mono (hL.alloc hL.size _).size);clear hR hL hb2 c0 c1 hbs Ee;go_wp2_with (first|(refine bm rfl (.tmp 2) (.tmp 25) rfl (w.heap.size+1) (wz (jw 4 s t nz)) _ rfl rfl lq ?_))
 intro w3 yO lS;go_wp2_with fail;exact bodyPost_ret (cw rfl _ _ (w.heap.size+1) _ rfl yO) rfl ⟨by rw[lj,HO.Z];rfl,hL2.trans (lS.below (by omega))⟩
end Go.Proofs.YtphamecphmbipaaGreatDoor
