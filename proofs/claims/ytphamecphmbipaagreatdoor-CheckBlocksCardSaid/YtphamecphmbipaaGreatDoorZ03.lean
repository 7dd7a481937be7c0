/- Texts of this claim, merged. -/
import Derived.Test.YtphamecphmbipaaGreatDoorZ02
import Derived.Lib.SliceRun
import Derived.RangeFuncNested
import Derived.RangeFuncBound
import Derived.RangeFuncCalls
import Derived.RangeFuncLeaves
import Derived.RangeFuncWrites
import Derived.OwnWalkIn
import Derived.RangeFuncBox
import Derived.Shelf.Abstract
import Derived.TacticsInMore
import Derived.LoopNIn
import Derived.LoopIn
import Derived.Lib.LazyBuf
import Derived.Laws.OwnMore
set_option linter.unusedVariables false
set_option maxRecDepth 100000
set_option maxHeartbeats 16000000

namespace Go.Proofs.YtphamecphmbipaaGreatDoor
open Go.RowKit
variable {w A C W' w':World} {ops:Array Oper} {rest:List Oper} {o:Oper} {a:Act} {Q:Exit->Act->World->Prop} {g B D:Nat} {ps:Array Tmp} {X:World->Prop} {v:Value} {P:Program} {fn:Func} {R:Ending->World->Prop} {tmps:Array Value} {T:TypeId}
theorem BQ:(Tryz.prog.info? 5).map (λi=>(i.zero,i.size,i.bytes))=some (some (.int .u8 0),1,1):=by kernel_rfl
theorem zY(hgd:o.guard=none)(s x:Operand)
  (ho:o.op= .call {callee:=.builtin .append,args:=#[s,x],argTypes:=#[119,119]}) (base:Nat)
  (sa:Option Addr) (n cap:Nat) (z:Nat->Int) (hs:a.eval s= .slice sa n cap) (hown:gP w base 5 sa n cap z)
  (xa:Option Addr) (m c:Nat) (y:Nat->Int) (hx:a.eval x= .slice xa m c) (hc:xa=none->c=0) (hr:Row w xa m y)
  (hm:n+m<=140737488355328) (hbase:base<=w.heap.size)
  (h:∀MO cap' w',gP w' base 5 MO (n+m) cap' (cat z n y)->w.grownBy w' (Value.slice sa n cap).ownBlock->(MO=none->n+m=0)->wpList Tryz.prog ops Q rest (a.put o.dst (.slice MO (n+m) cap')) w'):
  wpList Tryz.prog ops Q (o::rest) a w:=by
 obtain⟨i0,hi,hz0,hz1,hz2⟩:=info_parts BQ;exact lX hgd s x _ ho base _ i0 Tryz.underlying119 hi hz0 hz1 hz2 sa n cap z hs hown xa m c y hx hc hr hm hbase h
theorem bA(g o k:Nat):(⟨g,o,none⟩:Addr).add k=⟨g,o+k,none⟩:=by
 unfold Addr.add;split
 ·next h=>subst h;rfl
 rfl
theorem ct(g o lo hi:Nat)(L H:Int)(hL:L=(lo:Int))(hH:H=(hi:Int))(h1:lo<=hi)(h2:hi<=256)(h3:lo<256)(W:World):
  (Instr.sliceAt 32 (.pointer (some ⟨g,o,none⟩)) (some (.int .i64 L)) (some (.int .i64 H)) none).run Tryz.prog W= .ok (.slice (some ⟨g,o+lo,none⟩) (hi-lo) (256-lo)) W:=by
 subst hL hH;have hal:Tryz.prog.arrayLen 32=256:=by kernel_rfl
 have hsz:∀W,(Go.sizeOf (Tryz.prog.elem 32)).run Tryz.prog W= .ok 1 W:=λW=>by kernel_rfl
 rw[run_sliceAt_array_lh W 32 _ (by kernel_rfl) .i64 .i64 (lo:Int) (hi:Int) (by omega) (by omega) (by rw[hal];omega),hsz,hal];simp only[Result.andThen,slicedAt,Int.toNat_natCast,Nat.mul_one];rw[if_neg (by omega),bA]
theorem bw(g o:Nat)(W:World):
  (Instr.sliceAt 32 (.pointer (some ⟨g,o,none⟩)) none none none).run Tryz.prog W= .ok (.slice (some ⟨g,o,none⟩) 256 256) W:=by
 have hal:Tryz.prog.arrayLen 32=256:=by kernel_rfl
 have hsz:∀W,(Go.sizeOf (Tryz.prog.elem 32)).run Tryz.prog W= .ok 1 W:=λW=>by kernel_rfl
 rw[run_sliceAt_array_all W 32 _ (by kernel_rfl),hsz,hal];simp only[Result.andThen,slicedAt]
 rfl
theorem ev(b:Nat):∀(vs:List Value) (o:Nat) (w:World),az b w (w.setCells b o vs)
 |[],_,w=>az.refl _ _
 |v::r,o,w=>(az.setCell w ⟨b,o,none⟩ v).trans (ev b r (o+1) _)
theorem dC{a b c:World}{row:Option Nat}(h:a.grownBy b row)(k:b.grownBy c row):a.grownBy c row:=
 ⟨k.os.trans h.os,k.tape.trans h.tape,k.output.trans h.output,Nat.le_trans h.size k.size,λj hj hne=>(k.block j (Nat.lt_of_lt_of_le hj h.size) hne).trans (h.block j hj hne)⟩
theorem fD{a b:World}(h:az g a b):a.grownBy b (some g):=
 ⟨h.os,h.tape,h.output,Nat.le_of_eq h.size.symm,λj _ hne=>h.block j (λe=>hne (by rw[e]))⟩
theorem bB{a b:World}{row:Option Nat}(h:Below a.heap.size a b):a.grownBy b row:=⟨h.os,h.tape,h.output,h.size,λj hj _=>h.block j hj⟩
theorem sd{a b:World}{row:Option Nat}(h:a.grownBy b row)(hB:B<=a.heap.size)(hr:∀k,row=some k->B<=k):Below B a b:=(Below.refl B a).grown h hB hr
def z9(a:Option Addr)(k cap:Nat):Option Addr:=if cap=k then a else a.map (·.add k)
theorem Row.slice{a:Option Addr}{len cap k:Nat}{z:Nat->Int}(h:Row w a len z)(hk:k<=len)(hc:len<=cap):Row w (z9 a k cap) (len-k) (λi=>z (k+i)):=by
 by_cases h0:len-k=0
 ·exact .inl h0
 rcases h with h|⟨b,off,rfl,hs⟩
 ·omega
 unfold z9;rw[if_neg (by omega)];refine .inr ⟨b,off+k,?_,hs.sub k _ (by omega)⟩;simp only[Option.map_some,Addr.add]
 by_cases ku:k=0
 ·subst ku;rw[if_pos rfl,Nat.add_zero]
 rw[if_neg ku]
theorem q8(a:Option Addr)(len cap k:Nat)(K:Int)(hK:K=(k:Int))(hk:k<=len)(w:World):
  (Instr.slice 119 (.slice a len cap) (some (.int .i64 K)) none none).run Tryz.prog w= .ok (.slice (z9 a k cap) (len-k) (cap-k)) w:=by
 subst hK;have hsz:(Go.sizeOf 5).run Tryz.prog w= .ok 1 w:=by kernel_rfl
 rw[run_slice_l w 119 a len cap (by kernel_rfl) .i64 (k:Int) (by omega) (by omega),show Tryz.prog.elem 119=5 from by kernel_rfl,hsz];simp only[Result.andThen,sliced,z9,Int.toNat_natCast,Nat.mul_one]
section
variable {F:Fence} {n:Nat} {P:Program}
def sG(own:Nat->Prop)(A B:World):Prop:=∃row,A.grownBy B row/\∀r,row=some r->own r
def lF(F:Fence)(n:Nat)(P:Program)(g:Nat)(lb:Array Value)(iV:Nat->Array Value)(N:Nat)(own:Nat->Prop)(eA:Nat->World->Prop):Prop:=
 ∀(l:Nat) (J Jx:Nat->World->Prop) (W:World),
  (∀k A B,J k A->sG own A B->J k B)->(∀k A B,Jx k A->sG own A B->Jx k B)->
  (∀k A,k<N->J k A->eA k A->YieldAt F (n-1) P l (iV k) A λe B=>(e= .returned (.bool true)/\J (k+1) B/\eA k B)\/(e= .returned (.bool false)/\Jx k B))->
  J 0 W->eA 0 W->
  CallsIn F n P g (#[.func (.yield l) #[] #[]]++lb) W λe B=>(∃v,e= .returned v)/\(J N B\/∃k,k<N/\Jx k B)
def nH(B:Nat)(J:Nat->World->Prop)(Jx:Code->Nat->World->Prop)(eA:Nat->World->Prop)(k:Nat)(W:World):Exit->Act->World->Prop
 | .normal,_,W'=>KeepsFrom B W W'/\J (k+1) W'/\eA k W'
 | .ret,_,W'=>KeepsFrom B W W'/\Jx .ret k W'
 | .exit id,_,W'=>KeepsFrom B W W'/\Jx (.exit id) k W'
 | .goto t,_,W'=>KeepsFrom B W W'/\Jx (.goto t) k W'
 | .panic _,_,_=>False
 | .outgrown,_,_=>False
theorem jT{g:Operand}{assign body:Code}
  (hro:F.round=none) (h1:1<=n) {gf:Nat} {lb:Array Value} (hg:a.eval g= .func (.func gf) #[] lb) (hFg:F.fn gf) (eg:∀args w,(callFunc gf args).run P w= .ok (.enter gf args) w)
  {iV:Nat->Array Value} {N:Nat} {own:Nat->Prop} {eA:Nat->World->Prop} (hit:lF F (n-1) P gf lb iV N own eA)
  (hown:∀r,own r->r<w.heap.size) (hps:∀k,(iV k).size=ps.size)
  (J:Nat->World->Prop) (Jx:Code->Nat->World->Prop) (Ax:Nat->Act->World->Prop)
  (hJ:OwnFrom w.heap.size J) (AV:∀c,OwnFrom w.heap.size (Jx c)) (hN:OwnFrom w.heap.size eA) (hAx:∀a',OwnFrom w.heap.size (λk W=>Ax k a' W))
  (TQ:∀k A B,J k A->sG own A B->J k B) (Oe:∀c k A B,Jx c k A->sG own A B->Jx c k B)
  (h0:J 0 w) (hn0:eA 0 w)
  (wD:∀(l k:Nat) (W:World) (K:Act->World->Prop),k<N->J k W->eA k W->
   (∀a' W',KeepsFrom w.heap.size W W'->J k W'->eA k W'->Ax k a' W'->K a' W')->
   assign.wpIn (F.inRound l) (n-1-1) P (Exit.then K (λ_ _ _=>False)) {tmps:=(ps.zip (iV k)).foldl (λt (p,v)=>t.setIfInBounds p v) a.tmps,defers:=[]} W)
  (hbody:∀(l k:Nat) (a':Act) (W:World),k<N->J k W->eA k W->Ax k a' W->body.wpIn (F.inRound l) (n-1-1) P (nH w.heap.size J Jx eA k W) a' W)
  (hdone:∀(D:Nat) (W:World),w.heap.size<=D->J N W->W.heap[D]? =some (.deferred (some []))->Q .normal {a with defers:={target:=.collected D,args:=#[]}::a.defers} W)
  (Gh:∀(D:Nat) (c:Code) (k:Nat) (W:World),w.heap.size<=D->k<N->Jx c k W->W.heap[D]? =some (.deferred (some []))->c.wpIn F n P Q {a with defers:={target:=.collected D,args:=#[]}::a.defers} W):
  (Code.rangeFunc g ps assign body).wpIn F n P Q a w:=by
 refine wpIn_rangeFunc ?_;intro fn hfn;rw[hro];generalize hrc:(λ(st:LoopState) (pe:Option Code)=>({state:=st,pending:=pe,fn:=fn,tmps:=a.tmps,params:=ps,assign:=assign,body:=body,defers:=w.heap.size}:Loop))=rc;have tj:∀st pe,rc st pe={state:=st,pending:=pe,fn:=fn,tmps:=a.tmps,params:=ps,assign:=assign,body:=body,defers:=w.heap.size}:=λst pe=>by rw[<-hrc]
 clear hrc
 let W1:=(w.alloc (.deferred (some []))).alloc (.loop (rc .ready none))
 have fW:W1.heap[w.heap.size+1]? =some (.loop (rc .ready none)):=by
  have:=World.alloc_heap_new (w.alloc (.deferred (some []))) (.loop (rc .ready none));rwa[World.size_alloc] at this
 have ZS:W1.heap[w.heap.size]? =some (.deferred (some [])):=(Below.heap_alloc _ _ _ (by simp)).trans (World.alloc_heap_new w _);have RR:w.grownBy W1 none:=⟨rfl,rfl,rfl,by simp[W1];omega,λk hk _=>by
  show((w.alloc _).alloc _).heap[k]? =_;rw[Below.heap_alloc _ _ _ (by simp;omega),Below.heap_alloc _ _ _ hk]⟩
 have iU:∀{X:Nat->World->Prop},OwnFrom w.heap.size X->∀k,X k w->X k W1:=λh k hx=>h k w W1 none hx RR (λr e=>by cases e)
 have book:∀{A B:World} {k:Nat} {o:Obj},sG own A B->w.heap.size<=k->A.heap[k]? =some o->B.heap[k]? =some o:=by
  rintro A B k o ⟨row,hgr,hr⟩ hk ho;refine(hgr.block k (Array.getElem?_eq_some_iff.1 ho).1 (λe=> ?_)).trans ho;have:=hown k (hr k e.symm);omega
 refine⟨w.heap.size+1,[{target:=.collected w.heap.size,args:=#[]}],W1,{target:=.fn (.func gf) lb,args:=#[.func (.yield (w.heap.size+1)) #[] #[]]},W1,gf,
  #[.func (.yield (w.heap.size+1)) #[] #[]]++lb,W1,?_,?_,?_,?_,λ_=>h1,?_⟩
 ·show _=Result.ok (_,_) ((w.alloc (.deferred (some []))).alloc (.loop (rc .ready none)))
  rw[tj];exact run_enterLoop_outer _ _ _ _ _
 ·simp only[resolve,hg]
  simp[go_sem]
 ·intro f' hf';simp[Target.leads] at hf';subst hf';exact hFg
 ·simp[invoke,go_sem,eg]
 refine(hit (w.heap.size+1)
  (λk W=>J k W/\W.heap[w.heap.size+1]? =some (.loop (rc .ready none))/\W.heap[w.heap.size]? =some (.deferred (some [])))
  (λk W=>∃c,Jx c k W/\W.heap[w.heap.size+1]? =some (.loop (rc .done (some c)))/\W.heap[w.heap.size]? =some (.deferred (some [])))
  W1
  (λk A B hs ht=>⟨TQ k A B hs.1 ht,book ht (by omega) hs.2.1,book ht af hs.2.2⟩)
  (λk A B hs ht=>by
   obtain⟨c,hc,hl,hk⟩:=hs;exact⟨c,Oe c k A B hc ht,book ht (by omega) hl,book ht af hk⟩)
  ?_ ⟨iU hJ 0 h0,fW,ZS⟩ (iU hN 0 hn0)).mono ?_
 ·
  rintro k W Rg ⟨hj,hl,hd⟩ hnd;have hy:=run_yield (P:=P) (args:=iV k) hl (by rw[tj];exact hps k);rw[tj] at hy;refine⟨fn,_,assign,body,hy,roundIn_of_wpIn hfn (wD _ k W _ Rg hj hnd ?_)⟩;intro a' V DM hjV VU hax;have Re:=DM.same _ _ (by omega) hl rfl;have hdV:=DM.same _ _ af hd rfl;have V9:w.heap.size+1<V.heap.size:=(Array.getElem?_eq_some_iff.1 Re).1;refine⟨_,run_beginRound Re (by rw[tj]),?_⟩;generalize hbz:({rc .ready none with state:=.busy}:Loop)=bz;have hl2:(V.putObj (w.heap.size+1) (.loop bz)).heap[w.heap.size+1]? =some (.loop bz):=World.putObj_heap_same V9;have hd2:(V.putObj (w.heap.size+1) (.loop bz)).heap[w.heap.size]? =some (.deferred (some [])):=(World.putObj_heap_other (by omega)).trans hdV;refine wpIn_mono (hbody _ k a' _ Rg (hJ.putObj _ hjV (by omega) Re rfl) (hN.putObj _ VU (by omega) Re rfl) ((hAx a').putObj _ hax (by omega) Re rfl)) ?_;have fin:∀(jump:Option Code) (U:World),KeepsFrom w.heap.size (V.putObj (w.heap.size+1) (.loop bz)) U->
    (Instr.endRound (w.heap.size+1) jump).run P U= .ok (.bool jump.isNone) (U.putObj (w.heap.size+1) (.loop (rc (if jump.isNone then .ready else .done) jump)))/\
    U.heap[w.heap.size+1]? =some (.loop bz)/\
    (U.putObj (w.heap.size+1) (.loop (rc (if jump.isNone then .ready else .done) jump))).heap[w.heap.size+1]? =some (.loop (rc (if jump.isNone then .ready else .done) jump))/\
    (U.putObj (w.heap.size+1) (.loop (rc (if jump.isNone then .ready else .done) jump))).heap[w.heap.size]? =some (.deferred (some [])):=by
   intro jump U Ij;have Eu:=Ij.same _ _ (by omega) hl2 rfl;have he:=run_endRound (P:=P) jump Eu;refine⟨?_,Eu,World.putObj_heap_same (Array.getElem?_eq_some_iff.1 Eu).1,(World.putObj_heap_other (by omega)).trans (Ij.same _ _ af hd2 rfl)⟩;rw[he,<-hbz,tj,tj]
  rintro e a3 U hp;cases e with
  |normal=>
   obtain⟨Ij,NO,VV⟩:=hp;obtain⟨hr,Eu,hl4,AT⟩:=fin none U Ij;exact⟨_,_,hr,.inl ⟨rfl,⟨hJ.putObj _ NO (by omega) Eu rfl,hl4,AT⟩,hN.putObj _ VV (by omega) Eu rfl⟩⟩
  |ret=>
   obtain⟨Ij,NO⟩:=hp;obtain⟨hr,Eu,hl4,AT⟩:=fin (some .ret) U Ij;exact⟨_,_,hr,.inr ⟨rfl,.ret,(AV _).putObj _ NO (by omega) Eu rfl,hl4,AT⟩⟩
  |exit id=>
   obtain⟨Ij,NO⟩:=hp;obtain⟨hr,Eu,hl4,AT⟩:=fin (some (.exit id)) U Ij;exact⟨_,_,hr,.inr ⟨rfl,.exit id,(AV _).putObj _ NO (by omega) Eu rfl,hl4,AT⟩⟩
  |goto t=>
   obtain⟨Ij,NO⟩:=hp;obtain⟨hr,Eu,hl4,AT⟩:=fin (some (.goto t)) U Ij;exact⟨_,_,hr,.inr ⟨rfl,.goto t,(AV _).putObj _ NO (by omega) Eu rfl,hl4,AT⟩⟩
  |panic ch=>exact hp.elim
  |outgrown=>exact hp.elim
 
 rintro e W2 ⟨⟨v,rfl⟩,(⟨hj,hl,hd⟩|⟨k,Rg,c,hj,hl,hd⟩)⟩
 ·exact⟨none,_,by have:=run_endLoop (P:=P) hl (by rw[tj];simp);rw[tj] at this;exact this,hdone _ _ af (hJ.putObj _ hj (by omega) hl rfl) ((World.putObj_heap_other (by omega)).trans hd)⟩
 exact⟨some c,_,by have:=run_endLoop (P:=P) hl (by rw[tj];simp);rw[tj] at this;exact this,Gh _ c k _ af Rg ((AV c).putObj _ hj (by omega) hl rfl) ((World.putObj_heap_other (by omega)).trans hd)⟩
end
section
variable {P:Program}
structure Still(B:Nat)(A C:World):Prop where
 os:C.os=A.os
 tape:C.tape=A.tape
 output:C.output=A.output
 size:A.heap.size<=C.heap.size
 block:∀k,k<B->k<A.heap.size->C.heap[k]? =A.heap[k]?
def aC(B:Nat)(X:World->Prop):Prop:=∀A C,X A->Still B A C->X C
theorem Still.jK{row:Option Nat}(h:A.grownBy C row)(hr:∀r,row=some r->B<=r):Still B A C:=
 ⟨h.os,h.tape,h.output,h.size,λk hk hl=>h.block k hl (λe=>by have:=hr k e.symm;omega)⟩
theorem aC.own{J:Nat->World->Prop}(h:∀k,aC B (J k)):OwnFrom B J:=
 λs A C row hs hg hr=>h s A C hs (Still.jK hg (λr e=>(hr r e).1))
theorem aC.turns(h:aC B X)(hs:X A)(ht:sG (λ_=>False) A C):X C:=by
 obtain⟨row,hg,hr⟩:=ht;exact h A C hs (Still.jK hg (λr e=>(hr r e).elim))
theorem aC.and{Y:World->Prop}(h:aC B X)(k:aC B Y):aC B (λW=>X W/\Y W):=λA C hs hg=>⟨h A C hs.1 hg,k A C hs.2 hg⟩
theorem aC.pure(B:Nat)(p:Prop):aC B (λ_=>p):=λ_ _ h _=>h
theorem aC.ex{α:Type}{X:α->World->Prop}(h:∀x,aC B (X x)):aC B (λW=>∃x,X x W):=λA C hs hg=>let ⟨x,hx⟩:=hs;⟨x,h x A C hx hg⟩
theorem aC.below{n:Nat}(w:World)(hn:n<=B)(hw:n<=w.heap.size):aC B (λW=>Below n w W):=λA C hs hg=>
 ⟨hg.os.trans hs.os,hg.tape.trans hs.tape,hg.output.trans hs.output,Nat.le_trans hs.size hg.size,λk hk=>(hg.block k (by omega) (by have:=hs.size;omega)).trans (hs.block k hk)⟩
theorem aC.cell(p:Addr)(v:Value)(hb:p.block<B):aC B (λW=>W.cell? p=some v):=λA C hs hg=>
 (World.cell?_of_block (w:=A) (hg.block p.block hb (World.block_lt_of_cell? A _ hs))).trans hs
theorem aC.bQ{b:Nat}(off n:Nat)(z:Nat->Int)(hb:b<B):aC B (λW=>Seg W b off n z):=λA C hs hg i hi=>aC.cell ⟨b,off+i,none⟩ _ hb A C (hs i hi) hg
theorem aC.row{a:Option Addr}(n:Nat)(z:Nat->Int)(hb:∀x,a=some x->x.block<B):aC B (λW=>Row W a n z):=λA C hs hg=>by
 rcases hs with h0|⟨b,off,rfl,hs⟩
 ·exact .inl h0
 exact .inr ⟨b,off,rfl,aC.bQ off n z (hb _ rfl) A C hs hg⟩
theorem aC.heap{b:Nat}(o:Obj)(hb:b<B):aC B (λW=>W.heap[b]? =some o):=λA C hs hg=>(hg.block b hb (Array.getElem?_eq_some_iff.1 hs).1).trans hs
theorem Below.keeps{W:World}(h:Below W.heap.size W W'):KeepsFrom B W W':=
 ⟨h.size,λk o _ hk _=>(h.block k (Array.getElem?_eq_some_iff.1 hk).1).trans hk⟩
theorem az.keeps{b:Nat}{W:World}(h:az b W W'){off:Nat}(hc:W.cell? ⟨b,off,none⟩=some v):KeepsFrom B W W':=
 ⟨Nat.le_of_eq h.size.symm,λk o _ hk ho=>by
  by_cases hkb:k=b
  ·subst hkb
   simp only[World.cell?,hk] at hc;cases o with
   |cells c e f=>cases ho
   |_=>cases hc
  exact(h.block k hkb).trans hk⟩
theorem y9(W:World)(m:Nat):KeepsFrom B W (W.drewN m):=⟨Nat.le_refl _,λ_ _ _ hk _=>hk⟩
theorem zX{g:Operand}{assign body:Code}{gf:Nat}{lb:Array Value}
  (hg:a.eval g= .func (.func gf) #[] lb) (eg:∀args w,(callFunc gf args).run P w= .ok (.enter gf args) w)
  {iV:Nat->Array Value} {N:Nat} {eA:Nat->World->Prop} (hit:lF Fence.wide 4 P gf lb iV N (λ_=>False) eA) (hps:∀k,(iV k).size=ps.size)
  (J:Nat->World->Prop) (Jx:Code->Nat->World->Prop) (A1:Nat->Act)
  (hJ:∀k,aC w.heap.size (J k)) (AV:∀c k,aC w.heap.size (Jx c k)) (hN:∀k,aC w.heap.size (eA k)) (h0:J 0 w) (hn0:eA 0 w)
  (wD:∀(l k:Nat) (W:World) (K:Act->World->Prop),k<N->K (A1 k) W->
   assign.wpIn (Fence.wide.inRound l) 3 P (Exit.then K (λ_ _ _=>False)) {tmps:=(ps.zip (iV k)).foldl (λt (p,v)=>t.setIfInBounds p v) a.tmps,defers:=[]} W)
  (hbody:∀(l k:Nat) (W:World),k<N->J k W->eA k W->body.wpIn (Fence.wide.inRound l) 3 P (nH w.heap.size J Jx eA k W) (A1 k) W)
  (hdone:∀(D:Nat) (W:World),w.heap.size<=D->J N W->W.heap[D]? =some (.deferred (some []))->Q .normal {a with defers:={target:=.collected D,args:=#[]}::a.defers} W)
  (Gh:∀(D:Nat) (c:Code) (k:Nat) (W:World),w.heap.size<=D->k<N->Jx c k W->W.heap[D]? =some (.deferred (some []))->c.wp P Q {a with defers:={target:=.collected D,args:=#[]}::a.defers} W):
  (Code.rangeFunc g ps assign body).wp P Q a w:=by
 refine(wpIn_wide (n:=5)).1 ?_;exact jT rfl (by decide) hg trivial eg hit (λr h=>h.elim) hps J Jx (λk a' _=>a'=A1 k)
  (aC.own hJ) (λc=>aC.own (AV c)) (aC.own hN) (λa'=>aC.own (λk=>aC.pure _ _))
  (λk A C hs ht=>(hJ k).turns hs ht) (λc k A C hs ht=>(AV c k).turns hs ht) h0 hn0
  (λl k W K hk hj hn hK=>wD l k W K hk (hK _ _ (KeepsFrom.refl _ _) hj hn rfl))
  (λl k a' W hk hj hn ha=>by subst ha;exact hbody l k W hk hj hn)
  hdone (λD c k W h1 h2 h3 h4=>wpIn_wide.2 (Gh D c k W h1 h2 h3 h4))
theorem dQ{n:Nat}{W:World}(hD:W.heap[D]? =some (.deferred (some [])))
  (hres:(results fn tmps).run P (W.putObj D (.deferred none))= .ok v (W.putObj D (.deferred none))) (hR:R (.returned v) (W.putObj D (.deferred none))):
  bodyPostM Fence.wide n P fn R .ret {tmps:=tmps,defers:=[{target:=.collected D,args:=#[]}]} W:=
 ⟨by simp,.inl ⟨_,_,rfl,run_takeDeferred hD,⟨_,hres,hR⟩⟩⟩
theorem eo{n:Nat}{W:World}
  (hres:(results fn tmps).run P W= .ok v W) (hR:R (.returned v) W):
  bodyPostM Fence.wide n P fn R .ret {tmps:=tmps,defers:=[]} W:=⟨_,hres,hR⟩
theorem dD{W:World}{o o':Obj}{p:Addr}(hD:W.heap[D]? =some o)(ho:o.isCells=false)(hc:W.cell? p=some v):(W.putObj D o').cell? p=some v:=by
 have hne:p.block≠D:=by
  intro e;simp only[World.cell?,e,hD] at hc;cases o with
  |cells c e f=>cases ho
  |_=>cases hc
 rw[World.cell?_of_block (w:=W) (World.putObj_heap_other hne)];exact hc
theorem eU{W:World}{n:Nat}(h:Below n w W)(o':Obj)(hn:n<=w.heap.size)(hD:n<=D):Below n w (W.putObj D o'):=
 h.grown (grownBy_putObj' W D o') (Nat.le_trans hn h.size) (λk e=>by cases e;exact hD)
end
structure aS where
 kind:Int
 aQ:Int
 gen:Int
 size:Int
 p:Nat->Int
 next:Int
abbrev aS.val(x:aS):Value:=.agg #[.int .u8 x.kind,.int .i64 x.aQ,.int .u32 x.gen,.int .i64 x.size,.int .u32 (x.p 0),.int .u32 (x.p 1),.int .u32 (x.p 2),.int .u32 (x.p 3),.int .u32 (x.p 4),.int .u32 (x.p 5),.int .u32 (x.p 6),.int .u32 (x.p 7),.int .u32 (x.p 8),.int .u32 (x.p 9),.int .u32 (x.p 10),.int .u32 x.next]
structure aS.Ok(x:aS):Prop where
 kind:0<=x.kind/\x.kind<256
 aQ:-9223372036854775808<=x.aQ/\x.aQ<=9223372036854775807
 gen:0<=x.gen/\x.gen<4294967296
 size:-9223372036854775808<=x.size/\x.size<=9223372036854775807
 p:∀i,0<=x.p i/\x.p i<4294967296
 next:0<=x.next/\x.next<4294967296
def aS.kz(x:aS):Prop:=
 (x.kind=0/\x.aQ=0/\x.size=0/\x.next=0/\dw x.p 11=true)\/
 (x.kind=1/\0<=x.aQ/\x.aQ<=1000/\0<=x.size/\x.size<=16777216)\/
 (x.kind=2/\x.aQ=1/\0<=x.size/\x.size<=16777216/\x.size%256=0/\x.next=0)
instance (x:aS):Decidable x.kz:=by unfold aS.kz;infer_instance
def yx(x y:aS):Bool:=x.kind==y.kind&&(x.aQ==y.aQ&&(x.gen==y.gen&&(x.size==y.size&&(mr x.p y.p 11&&x.next==y.next))))
theorem Dv(x y:aS):yx x y=true↔x.kind=y.kind/\x.aQ=y.aQ/\x.gen=y.gen/\x.size=y.size/\(∀i,i<11->x.p i=y.p i)/\x.next=y.next:=by
 unfold yx;simp only[Bool.and_eq_true,beq_iff_eq,jg]
theorem xT(x y:aS)(w:World):(binOp .eql 63 x.val y.val).run Tryz.prog w= .ok (.bool (yx x y)) w:=by
 obtain⟨i,hi,_⟩:=info_parts (show(Tryz.prog.info? 45).map (λi=>(i.zero,i.size,i.bytes))=some (some (.int .u32 0),1,4) by kernel_rfl);have hS:Tryz.prog.underlying 63=some (.struct (Tryz.prog.fieldsOf 63)):=by kernel_rfl
 have hp:Tryz.prog.stoodInHeld 63=false:=by kernel_rfl
 have ha:=λw=>gn (P:=Tryz.prog) w 9997 (t:=61) (e:=45) (n:=11) (k:=.u32) Tryz.underlying61 hi Tryz.underlying45 (by kernel_rfl) x.p y.p
 have ex:∀u:Nat->Int,(Ks .u32 11 u).toArray= #[.int .u32 (u 0),.int .u32 (u 1),.int .u32 (u 2),.int .u32 (u 3),.int .u32 (u 4),.int .u32 (u 5),.int .u32 (u 6),.int .u32 (u 7),.int .u32 (u 8),.int .u32 (u 9),.int .u32 (u 10)]:=λu=>rfl
 rw[ex,ex] at ha;rw[run_eql_struct,show(10000:Nat)=9999+1 from rfl,run_equalIn_agg w 9999 _ _ _ hS hp];simp only[Program.fieldsOf,Tryz.underlying63];clear hi hS hp ex
 go_simp
 clear ha;unfold yx
 by_cases h1:x.kind=y.kind
 rotate_left
 ·simp[*]
 by_cases h2:x.aQ=y.aQ
 rotate_left
 ·simp[*]
 by_cases h3:x.gen=y.gen
 rotate_left
 ·simp[*]
 by_cases h4:x.size=y.size
 rotate_left
 ·simp[*]
 cases h5:mr x.p y.p 11 with
 |false=>simp[h1,h2,h3,h4]
 |true=>
  by_cases h6:x.next=y.next
  ·simp[h1,h2,h3,h4,h6]
  have h7:(x.next==y.next)=false:=by simp[h6]
  simp[h1,h2,h3,h4,h6]
def cH(a:Int):Bool:=decide (a=0\/a=64\/a=128\/a=192)
theorem eG(a:Int):cH a=true↔a=0\/a=64\/a=128\/a=192:=by simp[cH]
theorem lL{a:Int}(h:¬(a=0\/a=64\/a=128\/a=192)):cH a=false:=by simp only[cH,decide_eq_false_iff_not];exact h
theorem Dh(a:Int)(w:World)(h0:-9223372036854775808<=a)(h1:a<=9223372036854775807):
  Calls Tryz.prog 48 #[.int .i64 a] w λe w'=>e= .returned (.bool (cH a))/\w=w':=by
 by_cases c1:0<=a
 ·by_cases c2:a<256
  ·by_cases c3:a%64=0
   ·have q:(a%64==0)=true:=by simp[c3]
    have hd:Hd (cH a=true):=(eG a).2 (by omega);clear c3;go_enter Tryz.func48,Tryz.ntmps48
    go_wp2
    go_ret;exact⟨aI hd.Z.symm,rfl⟩
   have q:(a%64==0)=false:=by simp[c3]
   have hd:Hd (cH a=false):=lL (by omega);clear c3;go_enter Tryz.func48,Tryz.ntmps48
   go_wp2
   go_ret;exact⟨aI hd.Z.symm,rfl⟩
  have hd:Hd (cH a=false):=lL (by omega);go_enter Tryz.func48,Tryz.ntmps48
  go_wp2
  go_ret;exact⟨aI hd.Z.symm,rfl⟩
 have hd:Hd (cH a=false):=lL (by omega);go_enter Tryz.func48,Tryz.ntmps48
 go_wp2
 go_ret;exact⟨aI hd.Z.symm,rfl⟩
theorem QB(l g s n:Int)(p:Nat->Int):decide (aS.kz ⟨0,l,g,s,p,n⟩)=yx ⟨0,l,g,s,p,n⟩ ⟨0,0,g,0,λ_=>0,0⟩:=by
 rw[Bool.eq_iff_iff,Dv,decide_eq_true_eq];unfold aS.kz;simp only[jO];constructor
 ·rintro(⟨_,h1,h2,h3,h4⟩|⟨h,_⟩|⟨h,_⟩)
  ·exact⟨trivial,h1,trivial,h2,h4,h3⟩
  ·omega
  omega
 rintro⟨_,h1,_,h2,h4,h3⟩;exact .inl ⟨trivial,h1,h2,h3,h4⟩
theorem ml(l g s n:Int)(p:Nat->Int):decide (aS.kz ⟨1,l,g,s,p,n⟩)=decide (0<=l/\l<=1000/\0<=s/\s<=16777216):=by
 rw[decide_eq_decide];unfold aS.kz;simp
theorem je(l g s n:Int)(p:Nat->Int):decide (aS.kz ⟨2,l,g,s,p,n⟩)=decide (l=1/\0<=s/\s<=16777216/\s%256=0/\n=0):=by
 rw[decide_eq_decide];unfold aS.kz;simp
theorem LC(k l g s n:Int)(p:Nat->Int)(h:k≠0/\k≠1/\k≠2):decide (aS.kz ⟨k,l,g,s,p,n⟩)=false:=by
 rw[decide_eq_false_iff_not];unfold aS.kz;simp only;omega
theorem Jy(x:aS)(hx:x.Ok)(w:World):
  Calls Tryz.prog 53 #[x.val] w λe w'=>e= .returned (.bool (decide x.kz))/\Below w.heap.size w w':=by
 obtain⟨k,l,g,s,p,n⟩:=x;obtain⟨⟨ku,hk1⟩,⟨hl0,hl1⟩,_,⟨hs0,hs1⟩,_,_⟩:=hx;dsimp only at ku hk1 hl0 hl1 hs0 hs1;dsimp only[aS.val];have fin:∀t,Hd (Below w.heap.size w (w.alloc t)):=λt=>ag.alloc af _
 generalize hD':decide (aS.kz ⟨k,l,g,s,p,n⟩)=D;have hD:=ah hD';clear hD'
 by_cases k0:k=0
 ·subst k0
  have hq:=λw=>xT ⟨0,l,g,s,p,n⟩ ⟨0,0,g,0,λ_=>0,0⟩ w
  dsimp only[aS.val] at hq;have HD:=hD.Z;rw[QB] at HD;rw[HD] at hq;clear HD;go_enter Tryz.func53,Tryz.ntmps53
  go_wp2
  go_ret;exact⟨rfl,(fin _).Z⟩
 have q0:(k==0)=false:=by simp[k0]
 by_cases k2:k=2
 ·subst k2
  by_cases c1:l=1
  ·subst c1
   by_cases c4:0<=s
   ·by_cases c2:s%256=0
    ·have d2:(s%256 !=0)=false:=by simp[c2]
     by_cases c3:n=0
     ·subst c3
      by_cases c5:s<=16777216
      ·have HD:Hd (D=true):=by show D=true;rw[<-hD.Z,je];simp;omega
       clear c2;go_enter Tryz.func53,Tryz.ntmps53
       go_wp2
       go_ret;exact⟨aI HD.Z.symm,(fin _).Z⟩
      have HD:Hd (D=false):=by show D=false;rw[<-hD.Z,je];simp;omega
      clear c2;go_enter Tryz.func53,Tryz.ntmps53
      go_wp2
      go_ret;exact⟨aI HD.Z.symm,(fin _).Z⟩
     have HD:Hd (D=false):=by show D=false;rw[<-hD.Z,je];simp;omega
     have d3:(n !=0)=true:=by simp[c3]
     clear c2 c3;go_enter Tryz.func53,Tryz.ntmps53
     go_wp2
     go_ret;exact⟨aI HD.Z.symm,(fin _).Z⟩
    have HD:Hd (D=false):=by show D=false;rw[<-hD.Z,je];simp;omega
    have d2:(s%256 !=0)=true:=by simp[c2]
    clear c2;go_enter Tryz.func53,Tryz.ntmps53
    go_wp2
    go_ret;exact⟨aI HD.Z.symm,(fin _).Z⟩
   by_cases c2:s.tmod 256=0
   ·have d2:(s.tmod 256 !=0)=false:=by simp[c2]
    by_cases c3:n=0
    ·subst c3
     have HD:Hd (D=false):=by show D=false;rw[<-hD.Z,je];simp;omega
     clear c2;go_enter Tryz.func53,Tryz.ntmps53
     go_wp2
     go_ret;exact⟨aI HD.Z.symm,(fin _).Z⟩
    have HD:Hd (D=false):=by show D=false;rw[<-hD.Z,je];simp;omega
    have d3:(n !=0)=true:=by simp[c3]
    clear c2 c3;go_enter Tryz.func53,Tryz.ntmps53
    go_wp2
    go_ret;exact⟨aI HD.Z.symm,(fin _).Z⟩
   have HD:Hd (D=false):=by show D=false;rw[<-hD.Z,je];simp;omega
   have d2:(s.tmod 256 !=0)=true:=by simp[c2]
   clear c2;go_enter Tryz.func53,Tryz.ntmps53
   go_wp2
   go_ret;exact⟨aI HD.Z.symm,(fin _).Z⟩
  have HD:Hd (D=false):=by show D=false;rw[<-hD.Z,je];simp;omega
  have d1:(l !=1)=true:=by simp[c1]
  clear c1;go_enter Tryz.func53,Tryz.ntmps53
  go_wp2
  go_ret;exact⟨aI HD.Z.symm,(fin _).Z⟩
 have q2:(k==2)=false:=by simp[k2]
 by_cases k1:k=1
 ·subst k1
  by_cases c1:0<=l
  ·by_cases c2:l<=1000
   ·by_cases c3:0<=s
    ·by_cases c4:s<=16777216
     ·have HD:Hd (D=true):=by show D=true;rw[<-hD.Z,ml];simp;omega
      go_enter Tryz.func53,Tryz.ntmps53
      go_wp2
      go_ret;exact⟨aI HD.Z.symm,(fin _).Z⟩
     have HD:Hd (D=false):=by show D=false;rw[<-hD.Z,ml];simp;omega
     go_enter Tryz.func53,Tryz.ntmps53
     go_wp2
     go_ret;exact⟨aI HD.Z.symm,(fin _).Z⟩
    have HD:Hd (D=false):=by show D=false;rw[<-hD.Z,ml];simp;omega
    go_enter Tryz.func53,Tryz.ntmps53
    go_wp2
    go_ret;exact⟨aI HD.Z.symm,(fin _).Z⟩
   have HD:Hd (D=false):=by show D=false;rw[<-hD.Z,ml];simp;omega
   go_enter Tryz.func53,Tryz.ntmps53
   go_wp2
   go_ret;exact⟨aI HD.Z.symm,(fin _).Z⟩
  have HD:Hd (D=false):=by show D=false;rw[<-hD.Z,ml];simp;omega
  go_enter Tryz.func53,Tryz.ntmps53
  go_wp2
  go_ret;exact⟨aI HD.Z.symm,(fin _).Z⟩
 have q1:(k==1)=false:=by simp[k1]
 have HD:Hd (D=false):=by show D=false;rw[<-hD.Z];exact LC _ _ _ _ _ _ (by omega)
 go_enter Tryz.func53,Tryz.ntmps53
 go_wp2
 go_ret;exact⟨aI HD.Z.symm,(fin _).Z⟩
def aS.word(x:aS)(k:Nat):Int:=if k=0 then x.gen else if k=1 then x.size else if k<13 then x.p (k-2) else x.next
def aS.byte(x:aS)(i:Nat):Int:=
 if i=0 then x.kind else if i=1 then 0 else if i<4 then byteOf x.aQ (i-2) else if i<60 then byteOf (x.word ((i-4)/4)) ((i-4)%4) else 0
def aS.jA(x:aS)(m:Nat)(i:Nat):Int:=if i<4+4*m then x.byte i else 0
theorem aS.tR(x:aS)(i:Nat):x.jA 14 i=x.byte i:=by
 unfold aS.jA;split
 ·rfl
 unfold aS.byte;rw[if_neg (by omega),if_neg (by omega),if_neg (by omega),if_neg (by omega)]
theorem aS.jU(x:aS)(z:Nat->Int)(at' m:Nat)(hm:m<14)(i:Nat):
  over (over z at' 64 (x.jA m)) (at'+(4+4*m)) 4 (byteOf (x.word m)) i=over z at' 64 (x.jA (m+1)) i:=by
 by_cases h1:at'<=i/\i<at'+64
 ·rw[gC z _ _ _ _ h1]
  by_cases h2:at'+(4+4*m)<=i/\i<at'+(4+4*m)+4
  ·rw[gC _ _ _ _ _ h2]
   unfold aS.jA;rw[if_pos (by omega)];unfold aS.byte;rw[if_neg (by omega),if_neg (by omega),if_neg (by omega),if_pos (by omega),show(i-at'-4)/4=m by omega]
   congr 1;omega
  rw[cJ _ _ _ _ _ (by omega),gC z _ _ _ _ h1];unfold aS.jA
  by_cases h3:i-at'<4+4*m
  ·rw[if_pos h3,if_pos (by omega)]
  rw[if_neg h3,if_neg (by omega)]
 rw[cJ z _ _ _ _ (by omega),cJ _ _ _ _ _ (by omega),cJ z _ _ _ _ (by omega)]
theorem aS.z6(x:aS)(z:Nat->Int)(at':Nat)(i:Nat):
  over (over (over z at' 64 (λ_=>0)) at' 1 (λ_=>x.kind)) (at'+2) 2 (byteOf x.aQ) i=over z at' 64 (x.jA 0) i:=by
 by_cases h1:at'<=i/\i<at'+64
 ·rw[gC z at' 64 i (x.jA 0) h1]
  unfold aS.jA aS.byte
  by_cases h2:at'+2<=i/\i<at'+2+2
  ·rw[gC _ _ _ _ _ h2,if_pos (by omega),if_neg (by omega),if_neg (by omega),if_pos (by omega),show i-(at'+2)=i-at'-2 by omega]
  rw[cJ _ _ _ _ _ (by omega)]
  by_cases h3:i=at'
  ·rw[gC _ _ _ _ _ ⟨by omega,by omega⟩,if_pos (by omega),if_pos (by omega)]
  rw[cJ _ _ _ _ _ (by omega),gC z _ _ _ _ h1]
  by_cases h4:i-at'<4+4*0
  ·rw[if_pos h4,if_neg (by omega),if_pos (by omega)]
  rw[if_neg h4]
 rw[cJ _ _ _ _ _ (by omega),cJ _ _ _ _ _ (by omega),cJ z _ _ _ _ (by omega),cJ z _ _ _ _ (by omega)]
theorem aS.mK{x:aS}(h:x.kz):(0<=x.size/\x.size<=16777216)/\(0<=x.aQ/\x.aQ<=1000)/\(x.kind=0\/x.kind=1\/x.kind=2):=by
 rcases h with⟨h1,h2,h3,_⟩|⟨h1,h2,h3,h4,h5⟩|⟨h1,h2,h3,h4,_⟩<;>omega
theorem aS.uN{x:aS}(hx:x.Ok)(hk:x.kind=0\/x.kind=1\/x.kind=2)(m:Nat):bu (x.jA m):=by
 intro i;unfold aS.jA;split
 ·unfold aS.byte
  split
  ·omega
  split
  ·omega
  split
  ·exact gx _ _
  split
  ·exact gx _ _
  omega
 omega
abbrev aS.arr(x:aS):Array Value:=#[.int .u8 x.kind,.int .i64 x.aQ,.int .u32 x.gen,.int .i64 x.size,.int .u32 (x.p 0),.int .u32 (x.p 1),.int .u32 (x.p 2),.int .u32 (x.p 3),.int .u32 (x.p 4),.int .u32 (x.p 5),.int .u32 (x.p 6),.int .u32 (x.p 7),.int .u32 (x.p 8),.int .u32 (x.p 9),.int .u32 (x.p 10),.int .u32 x.next]
def bs(w:World)(g:Nat)(T:TypeId)(x:aS):Prop:=w.heap[g]? =some (.cells x.arr T (0,0))
theorem bs.lt{x:aS}(h:bs w g T x):g<w.heap.size:=(Array.getElem?_eq_some_iff.1 h).1
theorem bs.cell{x:aS}(h:bs w g T x){i:Nat}(hi:x.arr[i]? =some v):w.cell? ⟨g,i,none⟩=some v:=aF h hi
theorem bs.below{x:aS}(h:bs w g T x)(hb:Below B w w')(hg:g<B):bs w' g T x:=(hb.block g hg).trans h
theorem bs.only{x:aS}(h:bs w g T x){b:Nat}(hb:az b w w')(hg:g≠b):bs w' g T x:=(hb.block g hg).trans h
theorem bs.ptr{x:aS}(h:bs w g T x)(i:Nat)(hi:i<11):w.cell? ⟨g,4+i,none⟩=some (.int .u32 (x.p i)):=by
 refine h.cell ?_;obtain rfl|rfl|rfl|rfl|rfl|rfl|rfl|rfl|rfl|rfl|rfl:i=0\/i=1\/i=2\/i=3\/i=4\/i=5\/i=6\/i=7\/i=8\/i=9\/i=10:=by omega
 all_goals rfl
section
open Go.Shelf
attribute [local go_sem] Oper.semAt_some
end
section
open Go.Shelf
attribute [local go_sem] Oper.semAt_some
def nM(a:Int)(x:aS):Bool:=cH a&&decide x.kz
def j3(a:Int)(x:aS):Int:=if cH a then(if decide x.kz then 0 else 70) else 2
def yf(z:Nat->Int)(a:Int)(x:aS):Nat->Int:=if nM a x then over z a.toNat 64 x.byte else z
end
section
open Go.Shelf
attribute [local go_sem] Oper.semAt_some
end
section
open Go.Shelf
attribute [local go_sem] Oper.semAt_some
theorem A8(w:World)(v:Value)(t:TypeId):(w.alloc (.cells #[v] t)).cell? ⟨w.heap.size,0,none⟩=some v:=by
 simp only[World.cell?,heap_alloc_new];rfl
theorem D1(a:Option Addr)(len cap:Nat)(z:Nat->Int)(w:World)(hr:Row w a len z)(hc:a=none->cap=0/\len=0)(hl:len<=140737488355328)(base:Nat)(hb:base<=w.heap.size):
  Calls Tryz.prog 93 #[.slice a len cap] w λe w'=>∃sa cap',e= .returned (.slice sa len cap')/\gP w' base 5 sa len cap' z/\Below w.heap.size w w':=by
 have hq:=λw=>run_eql_slice_nil (P:=Tryz.prog) w 119 5 a len cap Tryz.underlying119
 have hcz:Hd (cat (λ_=>0) 0 z=z):=by show _=_;funext i;simp[cat]
 cases a with
 |none=>
  obtain⟨rfl,rfl⟩:=hc rfl;go_enter Tryz.func93,Tryz.ntmps93;go_wp2_with fail;go_ret;exact⟨none,0,rfl,gP.nil _ _ _ _,Below.refl _ _⟩
 |some x=>
  go_enter Tryz.func93,Tryz.ntmps93;go_wp2_with (at_builtin;refine zY rfl (.tmp 5) (.tmp 6) rfl base _ 0 0 (λ_=>0) rfl (gP.made w base _ _ hb) (some x) len cap z rfl (λh=>by cases h) (hr.alloc _) (by omega) (by simp;omega) ?_)
  intro sa cap' w1 hm hg _;rw[hcz.Z] at hm;go_wp2_with fail;go_ret;exact⟨sa,cap',rfl,hm,(ag.alloc af _).grown hg (by simp) (λk hk=>by cases hk;exact Nat.le_refl _)⟩
def sH(B:Nat)(sa:Option Addr)(len cap:Nat)(z:Nat->Int):Nat->World->Prop:=λ_ W=>W.cell? ⟨B,0,none⟩=some (.slice sa len cap)/\Row W sa len z
def vf(z:Nat->Int)(k:Nat):Array Value:=#[.int .i64 (4*(k:Int)),.int .u32 (cR z (4*k))]
theorem sW(l:Nat)(W:World):(binOp .eql 171 (.func (.yield l) #[] #[]) .nilFunc).run Tryz.prog W= .ok (.bool false) W:=by kernel_rfl
theorem CL(n:Nat)(hn:1<=n)(B:Nat)(sa:Option Addr)(len cap:Nat)(z:Nat->Int)(hz:bu z)(hl:(len:Int)<=140737488355328):
  lF Fence.wide n Tryz.prog 94 #[.pointer (some ⟨B,0,none⟩)] (vf z) (len/4) (λ_=>False) (sH B sa len cap z):=by
 intro l J Jx W _ _ hY h0 hN;have HY:=ah hY;clear hY;have hnil:=λW=>sW l W
 refine callsIn_of_wp Tryz.func94 rfl trivial ?_ rfl;simp only[Tryz.ntmps94,List.size_toArray,List.length_cons,List.length_nil,Nat.reduceAdd,Nat.reduceSub,Array.replicate_succ,Array.replicate_zero,List.push_toArray,List.append_toArray,List.nil_append,List.cons_append]
 gi_wp2
 gi_loopw [3] (λi wr=>∃k:Nat,k<=len/4/\i= .int .i64 (4*(k:Int))/\J k wr/\sH B sa len cap z k wr) (λi _=>len+4-(intOf i).toNat)
 case atStart=>exact⟨0,Nat.zero_le _,rfl,h0,hN⟩
 obtain⟨k,hk,rfl,hJ,hnd⟩:=hrel;have hcB:=hnd.1;have hrow:=hnd.2;have HND:=ah hnd;clear hnd
 by_cases hlt:k<len/4
 ·have f4:Hd (fits 4 len (4*(k:Int))=true):=yW ⟨by omega,by omega⟩
  have e4:Hd ((4*(k:Int)).toNat=4*k):=by show _=_;omega
  obtain⟨fn,tmps,assign,body,hy,hR⟩:=HY.Z k wr hlt hJ HND.Z;dsimp only[vf] at hy;have HHY:=ah hy;clear hy
  gi_wp2_with (refine⟨trivial,?_⟩;gi_at_call 51;refine(callsIn_wide.2 (ux _ _ _ _ z _ (by omega) (by exact hrow) hz)).mono ?_;rintro e w' ⟨rfl,rfl⟩;rw[Qq,f4.Z,if_pos rfl,e4.Z];have hy:=HHY.Z)
  refine hR.mono ?_;rintro e W3 (⟨rfl,hJ3,Py⟩|⟨rfl,AU⟩)
  ·gi_wp2
   go_roundw
   case rel=>exact⟨k+1,by omega,int_eq (by omega),hJ3,Py⟩
   simp[intOf];omega
  gi_wp2
  refine bodyPost_ret (results_none rfl _ _ _) rfl ?_;exact⟨⟨_,rfl⟩,.inr ⟨k,hlt,AU⟩⟩
 have HK:Hd (k=len/4):=by show _=_;omega
 have f4:Hd (fits 4 len (4*(k:Int))=false):=BZ (by omega)
 gi_wp2_with (refine⟨trivial,?_⟩;gi_at_call 51;refine(callsIn_wide.2 (ux _ _ _ _ z _ (by omega) (by exact hrow) hz)).mono ?_;rintro e w' ⟨rfl,rfl⟩;rw[Qq,f4.Z,if_neg (by decide)])
 refine⟨λ_ h=>(by cases h),?_⟩
 gi_wp2
 refine bodyPost_ret (results_none rfl _ _ _) rfl ?_;exact⟨⟨_,rfl⟩,.inl (by rw[<-HK.Z];exact hJ)⟩
theorem ES(a:Option Addr)(len cap:Nat)(z:Nat->Int)(w:World)(hr:Row w a len z)(hc:a=none->cap=0/\len=0)(hl:len<=140737488355328):
  Calls Tryz.prog 52 #[.slice a len cap] w λe w'=>∃B sa cap',e= .returned (.func (.func 94) #[] #[.pointer (some ⟨B,0,none⟩)])/\sH B sa len cap' z 0 w'/\Below w.heap.size w w'
   /\w.heap.size<=B/\B<w'.heap.size/\(∀x,sa=some x->w.heap.size<=x.block/\x.block<w'.heap.size):=by
 go_enter Tryz.func52,Tryz.ntmps52;go_wp2_with fail;refine(D1 a len cap z w hr hc hl w.heap.size af).mono ?_;rintro e w1 ⟨sa,cap',rfl,hm,hb⟩;have hsz:=hb.size;go_wp2_with fail;go_ret;exact⟨w1.heap.size,sa,cap',rfl,⟨A8 _ _ _,hm.row.alloc _⟩,hb.alloc hsz _,hsz,by simp,λx hx=>by have:=hm.le x hx;simp;omega⟩
end
theorem JA(n:Nat):(madeCells (Value.int .u8 0).cells (n*1)).toList=Bs n (λ_=>0):=by
 rw[show(Value.int .u8 0).cells= #[.int .u8 0] from rfl,Nat.mul_one,toList_madeCells_one];apply List.ext_getElem?;intro i
 by_cases h:i<n
 ·rw[mY _ _ _ h];simp[h]
 rw[List.getElem?_eq_none (by simp;omega),List.getElem?_eq_none (by rw[fL];omega)]
theorem EN(hgd:o.guard=none)(l c:Operand)
  (ho:o.op=Op.makeSlice 119 l c) (base:Nat) (L:Int) (n:Nat) (hl:a.eval l= .int .i64 L) (hc:a.eval c= .int .i64 L) (hL:L=(n:Int)) (hn:n<=140737488355328) (hbase:base<=w.heap.size)
  (h:∀w',gP w' base 5 (some ⟨w.heap.size,0,none⟩) n n (λ_=>0)->w.grownBy w' none->wpList Tryz.prog ops Q rest (a.put o.dst (.slice (some ⟨w.heap.size,0,none⟩) n n)) w'):
  wpList Tryz.prog ops Q (o::rest) a w:=by
 obtain⟨i0,hi,hz0,hz1,hz2⟩:=info_parts BQ;refine wpList_make_full w hgd l c _ ho base _ i0 (.int .u8 0) 1 Tryz.underlying119 hi hz0 hz1 _ _ L L n hl hc hL hL (by rw[hz2];omega) (by unfold maxLen;omega) hbase ?_;intro w' h1 h2;rw[JA] at h1;exact h w' h1 h2
end Go.Proofs.YtphamecphmbipaaGreatDoor
