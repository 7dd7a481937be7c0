/- Texts of this claim, merged. -/
import Derived.Test.YtphamecphmbipaaGreatDoorK12
import Derived.RegionIn
set_option linter.unusedVariables false
set_option maxRecDepth 100000
set_option maxHeartbeats 16000000

namespace Go.Proofs.YtphamecphmbipaaGreatDoor
open Go.RowKit
open Lib (hid)
variable {B k b id i s t j p:Nat} {X:World->Prop} {Q Q':Exit->Act->World->Prop} {a:Act} {w:World} {L:List Oper} {K':Act->World->Prop}
namespace Mv
section
variable {P:Program} {ops:Array Oper} {σ:Type} {C:σ->World->Prop}
end
end Mv
section
variable {w:World} {G S I J:Int} {p1 p2 px q n:Nat} {zx zx':Nat->Int} {im im':Nat->Nat->Int} {W W':World}
end
structure RV(w:World)(g s i j q:Nat)(w':World):Prop where
 le:w.heap.size<=q
 a:az w' q 32 256 (2+j+g*s) (λb=>Ks .u8 256 (iw g s i j b))
 bel:Below w.heap.size w w'
section
variable {F:Fence} {n:Nat} {P:Program}
def Kept(B:Nat)(X:World->Prop):Prop:=∀W W' row,X W->W.grownBy W' row->(∀r,row=some r->B<=r/\∃o:Obj,W.heap[r]? =some o/\o.isCells=false)->X W'
theorem Kept.from{J:Nat->World->Prop}(h:∀k,Kept B (J k)):OwnFrom B J:=λs W W' row hs hg hr=>h s W W' row hs hg hr
theorem Kept.turns(h:Kept B X){A C:World}(hs:X A)(ht:sg (λ_=>False) A C):X C:=by
 obtain⟨row,hg,hr⟩:=ht;exact h A C row hs hg (λr e=>(hr r e).elim)
theorem Kept.and{Y:World->Prop}(h:Kept B X)(k:Kept B Y):Kept B (λW=>X W/\Y W):=λW W' row hs hg hr=>⟨h W W' row hs.1 hg hr,k W W' row hs.2 hg hr⟩
theorem Kept.pure(B:Nat)(p:Prop):Kept B (λ_=>p):=λ_ _ _ h _ _=>h
theorem Kept.ex{α:Type}{X:α->World->Prop}(h:∀x,Kept B (X x)):Kept B (λW=>∃x,X x W):=λW W' row hs hg hr=>let ⟨x,hx⟩:=hs;⟨x,h x W W' row hx hg hr⟩
theorem Kept.all{α:Type}{X:α->World->Prop}(h:∀x,Kept B (X x)):Kept B (λW=>∀x,X x W):=λW W' row hs hg hr x=>h x W W' row (hs x) hg hr
theorem Kept.IY(h:aw B X):Kept B X:=λW W' row hs hg hr=>h W W' hs (Still.ju hg λr e=>(hr r e).1)
theorem Kept.cell(B:Nat)(p:Addr)(v:Value):Kept B (λW=>W.cell? p=some v):=λW W' row hs hg hr=>by
 have hl:=World.block_lt_of_cell? W _ hs;refine(World.cell?_of_block (w:=W) (hg.block p.block hl λe=> ?_)).trans hs;obtain⟨_,o,ho,hc⟩:=hr _ e.symm;simp only[World.cell?,ho] at hs;cases o with
 |cells c e f=>cases hc
 |_=>cases hs
theorem Kept.own{base:Nat}{e:TypeId}{size:Nat}{v:Value}{xs:List Value}:Kept B (λW=>W.ownsRow base e size v k xs):=λW W' row hs hg hr=>by
 refine World.ownsRow.kept hs hg ?_;cases row with
 |none=>cases h1:v.ownBlock with
  |none=>exact .inl rfl
  |some g=>exact .inr (λe=>by cases e)
 |some r=>
  obtain⟨_,o,ho,hc⟩:=hr r rfl;cases h1:v.ownBlock with
  |none=>exact .inl rfl
  |some g=>
   refine .inr λe=> ?_
   injection e with e
   subst e;rcases hs.2 with⟨hv,_⟩|⟨g',cap',cur,hv,hbg,hg',h⟩
   ·subst hv;cases h1
   ·subst hv
    have:g'=g:=by simpa[Value.ownBlock] using h1
    subst this;rw[ho] at hg';injection hg' with hg'
    subst hg';cases hc
end
section
variable {P:Program}
theorem Kept.at(T:TypeId)(cs:Array Value):Kept B (λW=>At W b T cs):=λW W' row hs hg hr=>by
 refine(hg.block b hs.lt λe=> ?_).trans hs;obtain⟨_,o,ho,hc⟩:=hr b e.symm;have:some (Obj.cells cs T (0,0))=some o:=Eq.trans (Eq.symm hs) ho;injection this with this
 subst this;cases hc
theorem Kept.below{n:Nat}(w:World)(hn:n<=B)(hw:n<=w.heap.size):Kept B (λW=>Below n w W):=Kept.IY (aw.below w hn hw)
end
section
variable {P:Program}
theorem xe{g:Operand}{ps:Array Tmp}{LG LC:Code}{gf:Nat}{lb:Array Value}
  (hg:a.eval g= .func (.func gf) #[] lb) (eg:∀args w,(callFunc gf args).run P w= .ok (.enter gf args) w)
  {iH:Nat->Array Value} {N:Nat} {ed:Nat->World->Prop} (hit:ll Fence.wide 4 P gf lb iH N (λ_=>False) ed) (hps:∀k,(iH k).size=ps.size)
  (J:Nat->World->Prop) (Jx:Code->Nat->World->Prop)
  (hJ:∀k,Kept w.heap.size (J k)) (AG:∀c k,Kept w.heap.size (Jx c k)) (hN:∀k,Kept w.heap.size (ed k)) (h0:J 0 w) (hn0:ed 0 w) (A1:Nat->Act)
  (assign:∀(l k:Nat) (W:World) (K:Act->World->Prop),k<N->K (A1 k) W->
   LG.wpIn (Fence.wide.inRound l) 3 P (Exit.then K (λ_ _ _=>False)) {tmps:=(ps.zip (iH k)).foldl (λt (p,v)=>t.setIfInBounds p v) a.tmps,defers:=[]} W)
  (body:∀(l k:Nat) (W:World),k<N->J k W->ed k W->LC.wpIn (Fence.wide.inRound l) 3 P (nk w.heap.size J Jx ed k W) (A1 k) W)
  (done:∀(D:Nat) (W:World),w.heap.size<=D->J N W->W.heap[D]? =some (.deferred (some []))->Q .normal {a with defers:={target:=.collected D,args:=#[]}::a.defers} W)
  (stop:∀(D:Nat) (c:Code) (k:Nat) (W:World),w.heap.size<=D->k<N->Jx c k W->W.heap[D]? =some (.deferred (some []))->c.wp P Q {a with defers:={target:=.collected D,args:=#[]}::a.defers} W):
  (Code.rangeFunc g ps LG LC).wp P Q a w:=by
 refine(wpIn_wide (n:=5)).1 ?_;exact jG rfl (by decide) hg trivial eg hit (λr h=>h.elim) hps J Jx (λk a' _=>a'=A1 k)
  (Kept.from hJ) (λc=>Kept.from (AG c)) (Kept.from hN) (λa'=>Kept.from (λk=>Kept.pure _ _))
  (λk A C hs ht=>(hJ k).turns hs ht) (λc k A C hs ht=>(AG c k).turns hs ht) h0 hn0
  (λl k W K hk hj hn hK=>assign l k W K hk (hK _ _ (KeepsFrom.refl _ _) hj hn rfl))
  (λl k a' W hk hj hn ha=>by subst ha;exact body l k W hk hj hn)
  done (λD c k W h1 h2 h3 h4=>wpIn_wide.2 (stop D c k W h1 h2 h3 h4))
end
section
variable {P:Program} {md:Region.Mode} {ops:Array Oper}
theorem uC{σ:Type}{n:Nat}{ops1:Array Oper}{l2:List Oper}{C:σ->World->Prop}(hb:mf md n ops=true)(hd:eX md ops=true)(hd1:eX md ops1=true)(tW:ops1.size=n)(h1:∀i,i<n->ops1[i]? =ops[i]?)(hl:∀j,l2[j]? =ops[n+j]?)
  {Q:Exit->Act->World->Prop} {Q1:σ->Act->Prop} (hQ:∀s a w,C s w->Q1 s a->wpList P ops Q l2 a w):∀(fuel:Nat) (aU listed:Array Bool) (s:σ) (a:Act) (w:World),C s w->Mv.Cl md ops listed->aU.size=n->listed.size=ops.size->
   (∀i,i<n->aU[i]? =listed[i]?)->(∀i,n<=i->i<ops.size->listed.getD i true=false)->Mv.wpAnyL P md ops1 C Q1 fuel aU s a->wpAny P md ops Q (l2.length+fuel) listed a w:=by
 have hnn:n<=ops.size:=by
  rcases Nat.lt_or_ge ops.size n with h|h
  ·have:=h1 ops.size h
   rw[Array.getElem?_eq_none (Nat.le_refl _),Array.getElem?_eq_none_iff] at this;omega
  ·exact h
 have done:∀(fuel:Nat) (aU listed:Array Bool) (s:σ) (a:Act) (w:World),C s w->aU.size=n->listed.size=ops.size->(∀i,i<n->aU[i]? =listed[i]?)->(∀i,n<=i->i<ops.size->listed.getD i true=false)->
   Region.ready md ops1 aU=[]->Q1 s a->wpAny P md ops Q (l2.length+fuel) listed a w:=λfuel aU listed s a w hw hs1 hs hll h0 hr hq=>by
  refine oK hb hd l2 n fuel listed a w (Nat.le_refl _) hl hs (λi hi=> ?_) h0 (hQ s a w hw hq);have:=om hd1 (by omega) hr i (by omega);rw[Array.getD_eq_getD_getElem?,hll i hi,<-Array.getD_eq_getD_getElem?] at this;exact this
 intro fuel
 induction fuel with
 |zero=>intro aU listed s a w hw hcl hs1 hs hll h0 h;exact done 0 aU listed s a w hw hs1 hs hll h0 h.1 h.2
 |succ fuel ih=>
  intro aU listed s a w hw hcl hs1 hs hll h0 h
  by_cases hr:Region.ready md ops1 aU=[]
  ·exact done _ aU listed s a w hw hs1 hs hll h0 hr (h.1 hr)
  ·obtain⟨i0,hi0⟩:=List.exists_mem_of_ne_nil _ hr
   obtain⟨hu0,o0,ho0,Gd⟩:=mem_ready.1 hi0;have AA:i0<n:=by rw[<-tW];exact(Array.getElem?_eq_some_iff.1 ho0).1
   have get:∀i,i<n->∀d,aU.getD i d=listed.getD i d:=λi hi d=>by rw[Array.getD_eq_getD_getElem?,Array.getD_eq_getD_getElem?,hll i hi]
   have up:i0∈Region.ready md ops listed:=mem_ready.2 ⟨by rw[<-get i0 AA];exact hu0,o0,by rw[<-h1 i0 AA];exact ho0,λe he o4=>by
    have hlt:=cw hd1 ho0 he o4;rw[<-get e.on (by omega)];exact Gd e he o4⟩
   rw[show l2.length+(fuel+1)=(l2.length+fuel)+1 by omega];refine⟨λM8=>(by rw[M8] at up;cases up),λi hi=> ?_⟩;obtain⟨hu,o,ho,hall⟩:=mem_ready.1 hi;have hin:i<n:=by
    rcases Nat.lt_or_ge i n with hh|hh
    ·exact hh
    ·have hx:=hcl.reach hall ho (mL hb ho hh (i:=i0) (by omega))
     rw[<-get i0 AA] at hx;rw[Array.getD_eq_getD_getElem?,Array.getElem?_eq_getElem (by omega)] at hx hu0;simp at hx hu0;rw[hx] at hu0;cases hu0
   have vQ:ops1[i]? =some o:=by rw[h1 i hin];exact ho
   have hi1:i∈Region.ready md ops1 aU:=mem_ready.2 ⟨by rw[get i hin];exact hu,o,vQ,λe he o4=>by
    have hlt:=cw hd1 vQ he o4;rw[get e.on (by omega)];exact hall e he o4⟩
   have hq:=h.2 i hi1;have hwant:∀a:Act,Region.wanted o (yielded ops1 a.tmps)=Region.wanted o (yielded ops a.tmps):=λa=>by
    unfold Region.wanted;cases hg:o.guard with
    |none=>rfl
    |some p=>
     obtain⟨g,b⟩:=p;have:=ph hb ho hin hg;simp only[yielded,h1 g this]
   have hq':Mv.dE P ops C i (Mv.wpAnyL P md ops1 C Q1 fuel (aU.setIfInBounds i true)) s a:=by
    unfold Mv.dE at hq ⊢;simp only[vQ] at hq;simp only[ho];unfold Mv.LX at hq ⊢;rw[<-hwant];exact hq
   refine Mv.oN hw (λs' a' w' hw' h'=>ih (aU.setIfInBounds i true) (listed.setIfInBounds i true) s' a' w' hw' (hcl.next hi) (by simpa using hs1) (by simpa using hs) (λj hj=> ?_) (λj hj hjs=> ?_) h') hq'
   ·by_cases rH:i=j
    ·subst rH;simp[hs1,hs,hj,show i<ops.size by omega]
    ·rw[Array.getElem?_setIfInBounds_ne rH,Array.getElem?_setIfInBounds_ne rH];exact hll j hj
   ·rw[Array.getD_eq_getD_getElem?,Array.getElem?_setIfInBounds_ne (by omega),<-Array.getD_eq_getD_getElem?];exact h0 j hj hjs
theorem uO{σ:Type}(C:σ->World->Prop)(s:σ)(n:Nat)(hm:P.follows .mixedOrders=true)(hB:Region.lexB .any (L.take n).toArray=true)(hch:Mv.j3 .any (L.take n).toArray=true)
  (hb:mf .any n L.toArray=true) (hd:eX .any L.toArray=true) (hd1:eX .any (L.take n).toArray=true) (hn:n<=L.length) (hC:C s {w with drawn:=w.drawn+1})
  (h:Nonempty (aT λw=>∃s,C s w)->Mv.cZ P (L.take n).toArray C (λs a'=>∀w',C s w'->wpList P L.toArray Q (L.drop n) a' w') (L.take n) s a):(Code.region id L.toArray true).wp P Q a w:=by
 simp only[Region.lexB,Bool.and_eq_true] at hB;have hlen:(L.take n).length=n:=by simp[Nat.min_eq_left hn]
 have hq:=Mv.ft (P:=P) (C:=C) (md:=.any) Mv.iy hch (Q:=λs a'=>∀w',C s w'->wpList P L.toArray Q (L.drop n) a' w') hB.1 (L.take n) 0 (Array.replicate n false) s a ⟨_,hC⟩ (λj oj hj hl=>by
   rcases Nat.lt_or_ge j n with h'|h'
   ·simp[h'] at hl
   ·simp[h'] at hl) (λj hj=>by omega) (by simp) (by have:=hB.2;simpa[Nat.min_eq_left hn] using this) (h ⟨⟨_,s,hC⟩⟩)
 rw[hlen] at hq;have:=uC (P:=P) (md:=.any) (ops:=L.toArray) (ops1:=(L.take n).toArray) (l2:=L.drop n) (n:=n) (C:=C) hb hd hd1 (by simp[Nat.min_eq_left hn]) (λi hi=>by simp[hi]) (λj=>by simp)
  (Q:=Q) (Q1:=λs a'=>∀w',C s w'->wpList P L.toArray Q (L.drop n) a' w') (λs a w hw h=>h w hw) n (Array.replicate n false) (Array.replicate L.length false) s a {w with drawn:=w.drawn+1} hC (λj oj hj hl e he o4=>by
   rcases Nat.lt_or_ge j L.length with h'|h'
   ·simp[h'] at hl
   ·simp[h'] at hl) (by simp) (by simp)
  (λi hi=>by simp[hi,show i<L.length by omega]) (λi hi hs=>by simp at hs;simp[hs]) hq
 rw[show(L.drop n).length+n=L.length by simp;omega] at this;refine wp_region_any hm ?_;simpa using this
end
namespace Mv
def gm(o:Oper):Bool:=match o.op with| .defer _=>false|_=>true
section
variable {m:Nat} {P:Program} {ops:Array Oper} {md:Region.Mode} {σ:Type} {C:σ->World->Prop} {lp:Nat}
theorem xZ{o:Oper}(ho:gm o=true)(c):o.op≠ .defer c:=by
 intro h;unfold gm at ho;rw[h] at ho;cases ho
theorem qp(ht:ops.all gm=true){s:σ}{K:σ->Act->Prop}(hC:C s w)(h:∀s a w',C s w'->K s a->K' a w')(hh:dE P ops C i K s a):
  wpOpIn (Fence.wide.inRound lp) m P ops Q' i K' a w:=by
 unfold dE at hh;unfold wpOpIn;split
 ·rename_i ho;simp only[ho] at hh;exact h _ _ _ hC hh
 ·rename_i o ho
  simp only[ho] at hh;have Lg:gm o=true:=by
   rw[Array.all_eq_true_iff_forall_mem] at ht;exact ht o (Array.mem_of_getElem? ho)
  have hab:∀f,o.about P w a.eval=some f->(Fence.wide.inRound lp).fn f:=λf _=>trivial
  rcases hh with⟨hw,hy⟩|⟨hw,hk⟩
  ·simp only[hw,if_true]
   unfold Oper.wpIn;refine⟨hab,?_⟩;rw[Oper.semAt_plain _ _ _ (xZ Lg)];rcases hy with⟨_,hk⟩|⟨_,v,hs,hk⟩
   ·have h3:=hk w hC
    generalize (execOp a.eval o).run P w=r at*;cases r with
    |ok n w'=>
     cases n<;>simp only[cH] at h3<;>simp only[Oper.uponIn]
     ·obtain⟨s',h4,h5⟩:=h3;exact h _ _ _ h4 h5
     ·obtain⟨s',h4,h5⟩:=h3;exact h _ _ _ h4 h5
     ·refine⟨λe=>by simp[Fence.wide] at e,CallsIn.inRound lp (callsIn_wide.2 (h3.mono ?_))⟩
      rintro e w2 ⟨v,rfl,s',h4,h5⟩;exact h _ _ _ h4 h5
    |halt x w'=>simp only[cH] at h3
   ·have h3:=hs w ⟨_,hC⟩
    generalize (execOp a.eval o).run P w=r at*;cases r with
    |ok n w'=>
     cases n<;>simp only[stillUpon] at h3<;>simp only[Oper.uponIn]
     ·obtain⟨rfl,rfl⟩:=h3;exact h _ _ _ hC hk
     ·obtain⟨rfl,rfl⟩:=h3;exact h _ _ _ hC hk
    |halt x w'=>simp only[stillUpon] at h3
  ·rw[if_neg (by rw[hw];decide)]
   exact⟨hab,h _ _ _ hC hk⟩
theorem j8(ht:ops.all gm=true){Q:σ->Act->Prop}(hQ:∀s a w,C s w->Q s a->Q' .normal a w):∀(fuel:Nat) (listed:Array Bool) (s:σ) (a:Act) (w:World),C s w->
  wpAnyL P md ops C Q fuel listed s a->wpAnyIn (Fence.wide.inRound lp) m P md ops Q' fuel listed a w
 |0,_,_,_,_,hw,h=>⟨h.1,hQ _ _ _ hw h.2⟩
 |fuel+1,_,_,_,_,hw,h=>⟨λh0=>hQ _ _ _ hw (h.1 h0),λi hi=>qp ht hw (λs' a' w' hw'=>j8 ht hQ fuel _ s' a' w' hw') (h.2 i hi)⟩
theorem kA(C:σ->World->Prop)(s:σ){l:List Oper}(hm:P.follows .mixedOrders=true)(hB:Region.lexB .any l.toArray=true)(hch:j3 .any l.toArray=true)(ht:l.toArray.all gm=true)(hC:C s {w with drawn:=w.drawn+1})
  (h:Nonempty (aT λw=>∃s,C s w)->cZ P l.toArray C (λs a'=>∀w',C s w'->Q .normal a' w') l s a):(Code.region id l.toArray true).wpIn (Fence.wide.inRound lp) m P Q a w:=by
 simp only[Region.lexB,Bool.and_eq_true] at hB;refine wpIn_region_any hm (j8 ht (Q:=λs a'=>∀w',C s w'->Q .normal a' w') (λ_ _ w' hw' h=>h w' hw') _ _ s _ _ hC ?_);have:=ft (C:=C) (md:=.any) iy hch hB.1 l 0 (Array.replicate l.toArray.size false) s a ⟨_,hC⟩ (λj oj hj hl=>by
   rcases Nat.lt_or_ge j l.toArray.size with h'|h'
   ·rw[List.size_toArray] at h';simp[h'] at hl
   ·rw[List.size_toArray] at h';simp[h'] at hl) (λj hj=>by omega) (by simp) (by simpa using hB.2) (h ⟨⟨_,s,hC⟩⟩)
 simpa using this
def Nm(Q:Exit->Act->World->Prop):Exit->Act->World->Prop
 | .normal,a,w=>Q .normal a w
 |_,_,_=>False
theorem Nm.mk(h:Q .normal a w):Nm Q .normal a w:=h
theorem Nm.no(Q:Exit->Act->World->Prop):¬LetsOut (Nm Q):=λ⟨_,_,h⟩=>h
theorem uP{K:Act->World->Prop}(ht:ops.all gm=true)(hK:∀a w,K a w->K' a w)(h:wpOp P ops (Nm Q) i K a w):
  wpOpIn (Fence.wide.inRound lp) m P ops Q i K' a w:=by
 unfold wpOp at h;unfold wpOpIn;split
 ·rename_i ho;simp only[ho] at h;exact hK _ _ h
 ·rename_i o ho
  simp only[ho] at h;have hmem:=Array.mem_of_getElem? ho;have Lg:gm o=true:=by
   rw[Array.all_eq_true_iff_forall_mem] at ht;exact ht o hmem
  by_cases hw:Region.wanted o (yielded ops a.tmps)=true
  ·simp only[hw,if_true] at h ⊢
   rcases h with h|⟨_,h⟩
   rotate_left
   ·exact absurd h (Nm.no Q)
   unfold Oper.wpIn;refine⟨λf _=>trivial,?_⟩;rw[Oper.semAt_plain _ _ _ (xZ Lg)];unfold Oper.wp at h;generalize (execOp a.eval o).run P w=r at*;cases r with
   |ok n w'=>
    cases n with
    |value v=>exact hK _ _ h
    |skip=>exact hK _ _ h
    |«defer»d=>exact hK _ _ h
    |enter f args=>
     refine⟨λe=>by simp[Fence.wide] at e,CallsIn.inRound lp (callsIn_wide.2 (Calls.mono h ?_))⟩;intro e w2 h2;cases e with
     |returned v=>exact hK _ _ h2
     |panicked ch=>exact h2.elim
     |outgrown=>exact absurd h2 (Nm.no Q)
    |row r args=>
     refine⟨λe=>by simp[Fence.wide] at e,λc cs _=> ?_⟩;obtain⟨v,w2,hR,hs⟩:=h c cs;exact⟨v,w2,hK _ _ hR,stepsIn_wide.2 hs⟩
    |_=>exact h.elim
   |halt x w'=>
    cases x with
    |panic v=>exact h.elim
    |_=>exact h.elim
  ·simp only[hw] at h ⊢
   exact⟨λf _=>trivial,hK _ _ h⟩
theorem kD(ht:ops.all gm=true):∀(fuel:Nat) (listed:Array Bool) (a:Act) (w:World),wpAny P md ops (Nm Q) fuel listed a w->wpAnyIn (Fence.wide.inRound lp) m P md ops Q fuel listed a w
 |0,_,_,_,h=>h
 |fuel+1,_,_,_,h=>⟨h.1,λi hi=>uP ht (λa' w' h'=>kD ht fuel _ a' w' h') (h.2 i hi)⟩
theorem kB(C:σ->World->Prop)(s:σ)(n:Nat)(hm:P.follows .mixedOrders=true)(hB:Region.lexB .any (L.take n).toArray=true)(hch:j3 .any (L.take n).toArray=true)
  (hb:mf .any n L.toArray=true) (hd:eX .any L.toArray=true) (hd1:eX .any (L.take n).toArray=true) (ht:L.toArray.all gm=true) (hn:n<=L.length) (hC:C s {w with drawn:=w.drawn+1})
  (h:Nonempty (aT λw=>∃s,C s w)->cZ P (L.take n).toArray C (λs a'=>∀w',C s w'->wpList P L.toArray (Nm Q) (L.drop n) a' w') (L.take n) s a):(Code.region id L.toArray true).wpIn (Fence.wide.inRound lp) m P Q a w:=by
 simp only[Region.lexB,Bool.and_eq_true] at hB;have hlen:(L.take n).length=n:=by simp[Nat.min_eq_left hn]
 have hq:=ft (P:=P) (C:=C) (md:=.any) iy hch (Q:=λs a'=>∀w',C s w'->wpList P L.toArray (Nm Q) (L.drop n) a' w') hB.1 (L.take n) 0 (Array.replicate n false) s a ⟨_,hC⟩ (λj oj hj hl=>by
   rcases Nat.lt_or_ge j n with h'|h'
   ·simp[h'] at hl
   ·simp[h'] at hl) (λj hj=>by omega) (by simp) (by have:=hB.2;simpa[Nat.min_eq_left hn] using this) (h ⟨⟨_,s,hC⟩⟩)
 rw[hlen] at hq;have:=uC (P:=P) (md:=.any) (ops:=L.toArray) (ops1:=(L.take n).toArray) (l2:=L.drop n) (n:=n) (C:=C) hb hd hd1 (by simp[Nat.min_eq_left hn]) (λi hi=>by simp[hi]) (λj=>by simp)
  (Q:=Nm Q) (Q1:=λs a'=>∀w',C s w'->wpList P L.toArray (Nm Q) (L.drop n) a' w') (λs a w hw h=>h w hw) n (Array.replicate n false) (Array.replicate L.length false) s a {w with drawn:=w.drawn+1} hC (λj oj hj hl e he o4=>by
   rcases Nat.lt_or_ge j L.length with h'|h'
   ·simp[h'] at hl
   ·simp[h'] at hl) (by simp) (by simp)
  (λi hi=>by simp[hi,show i<L.length by omega]) (λi hi hs=>by simp at hs;simp[hs]) hq
 rw[show(L.drop n).length+n=L.length by simp;omega] at this;refine wpIn_region_any hm (kD ht _ _ _ _ ?_);simpa using this
end
end Mv
section
variable {w:World} {G S I J:Int} {la:Option Addr} {N:Nat} {L:Nat->Nat->Int} {hs ht:Int} {av:Value} {nn E:Int} {W W':World}
end
theorem vr(g s i j:Nat)(hm:aM g s i j=true)(BI:g*i<=256)(w:World):Calls Tryz.prog 28 #[bN g s i j] w λe w'=>e= .returned (.int .i64 ((g*i:Nat):Int))/\Below w.heap.size w w':=by
 have hA:=At.new w 23 (aa g s i j);have HL:Hid (Below w.heap.size w (w.alloc (.cells (aa g s i j) 23))):=(Below.refl _ _).alloc (Nat.le_refl _) _;have HM:=hid hm;obtain⟨N,hN⟩:∃N:Int,N=(g:Int)*(i:Int):=⟨_,rfl⟩;have e:((g*i:Nat):Int)=(g:Int)*(i:Int):=Int.natCast_mul _ _;have O1:0<=(g:Int)*(i:Int)/\(g:Int)*(i:Int)<=256:=by omega
 have HE:=hid e;clear hm e BI hN;go_enter Tryz.func28,Tryz.ntmps28;go_wp2_with (first|(refine ar rfl 23 (.tmp 1) rfl _ _ _ rfl hA Tryz.underlying23 rfl (by kernel_rfl) ?_))
 refine(dY g s i j _).mono ?_;rintro e w1 ⟨rfl,hb1⟩;rw[HM.out];have gJ:=hA.below hb1 hA.lt;have lq:=hid (HL.out.trans (hb1.mono HL.out.size));have c0:w1.cell? ⟨w.heap.size,0,none⟩=some (.int .i64 (g:Int)):=gJ.cell (i:=0) rfl;have c2:w1.cell? ⟨w.heap.size,2,none⟩=some (.int .i64 (i:Int)):=gJ.cell (i:=2) rfl;clear hA HL hb1 gJ;go_wp2_with fail;go_ret;exact⟨by rw[HE.out];rfl,lq.out⟩
theorem jN(g s i j γ b:Nat)(hm:aM g s i j=true)(hγ:γ<g)(hb:b<i)(hg4:g<=4)(zm:i<=64)(w:World):Calls Tryz.prog 108 #[bN g s i j,.int .i64 (γ:Int),.int .i64 (b:Int)] w λe w'=>e= .returned (.int .i64 ((1+γ*i+b:Nat):Int))/\Below w.heap.size w w':=by
 have hA:=At.new w 23 (aa g s i j);have HL:Hid (Below w.heap.size w (w.alloc (.cells (aa g s i j) 23))):=(Below.refl _ _).alloc (Nat.le_refl _) _;have HM:=hid hm;have e:((1+γ*i+b:Nat):Int)=1+(γ:Int)*(i:Int)+(b:Int):=by rw[Int.natCast_add,Int.natCast_add,Int.natCast_mul];rfl
 have h1:γ*i<=4*64:=Nat.mul_le_mul (by omega) zm;have h2:((γ*i:Nat):Int)=(γ:Int)*(i:Int):=Int.natCast_mul _ _;have O1:0<=(γ:Int)*(i:Int)/\(γ:Int)*(i:Int)<=256:=by omega
 have HE:=hid e;have d1:decide ((γ:Int)<0)=false:=decide_eq_false (by omega);have d2:decide ((g:Int)<=(γ:Int))=false:=decide_eq_false (by omega);have d3:decide ((b:Int)<0)=false:=decide_eq_false (by omega);have d4:decide ((i:Int)<=(b:Int))=false:=decide_eq_false (by omega);have Tx:decide (g<=γ)=false:=decide_eq_false (by omega);have d4':decide (i<=b)=false:=decide_eq_false (by omega);clear hm e h1 h2;go_enter Tryz.func108,Tryz.ntmps108;go_wp2_with (first|(refine ar rfl 23 (.tmp 3) rfl _ _ _ rfl hA Tryz.underlying23 rfl (by kernel_rfl) ?_))
 refine(dY g s i j _).mono ?_;rintro e w1 ⟨rfl,hb1⟩;rw[HM.out];have gJ:=hA.below hb1 hA.lt;have lq:=hid (HL.out.trans (hb1.mono HL.out.size));have c0:w1.cell? ⟨w.heap.size,0,none⟩=some (.int .i64 (g:Int)):=gJ.cell (i:=0) rfl;have c2:w1.cell? ⟨w.heap.size,2,none⟩=some (.int .i64 (i:Int)):=gJ.cell (i:=2) rfl;clear hA HL hb1 gJ;go_wp2_with fail;go_ret;exact⟨by rw[HE.out];rfl,lq.out⟩
structure Ej(W:World)(s t j n b:Nat):Prop where
 l:aF W b 0 4 n (gN s t j)
 lt:b<W.heap.size
theorem Ej.below{W W':World}{n:Nat}(h:Ej W s t j n b)(hb:Below W.heap.size W W'):Ej W' s t j n b:=⟨aF.below h.l hb h.lt,Nat.lt_of_lt_of_le h.lt hb.size⟩
theorem Ej.cells{W:World}{n:Nat}(h:Ej W s t j n b)(hp:p<n){K A B C:Int}(he:gN s t j p=tv K A B C):
  W.cell? ⟨b,p*4,none⟩=some (.int .u8 K)/\W.cell? ⟨b,p*4+1,none⟩=some (.int .i64 A)/\W.cell? ⟨b,p*4+2,none⟩=some (.int .i64 B)/\W.cell? ⟨b,p*4+3,none⟩=some (.int .i64 C):=by
 have h0:=h.l p hp 0 _ (by rw[he];rfl);have h1:=h.l p hp 1 _ (by rw[he];rfl);have h2:=h.l p hp 2 _ (by rw[he];rfl);have h3:=h.l p hp 3 _ (by rw[he];rfl);rw[Nat.zero_add] at h0 h1 h2 h3;exact⟨h0,h1,h2,h3⟩
theorem nt(g s i j:Nat)(hm:aM g s i j=true)(w:World):Calls Tryz.prog 57 #[bN g s i j] w λe w'=>Below w.heap.size w w'/\∃b cap,e= .returned (.slice (some ⟨b,0,none⟩) (2+j+g*s) cap)/\Ej w' s (i/4) j (2+j+g*s) b/\2+j+g*s<=cap/\cap<=maxLen:=by
 refine(nu g s i j w).mono ?_;rintro e w' ⟨hb,h⟩;refine⟨hb,?_⟩;rcases h with⟨h,_⟩|⟨_,v,rfl,hv⟩
 ·rw[hm] at h;cases h
 simp only[Int.toNat_natCast] at hv;obtain⟨b,cap,rfl,h1,h2,h3,h4⟩:=ah.nM hv (by omega);exact⟨b,cap,rfl,⟨ah.bI hv (pL _ _ _),h2⟩,h3,h4⟩
theorem Cw(hs:1<=s)(hp:p<2+j+k*s):∃K A B C:Int,gN s t j p=tv K A B C/\((K==4)=false\/((K==4)=true/\(A==(k:Int))=false)):=by
 unfold gN;split
 ·exact⟨_,_,_,_,rfl,.inl rfl⟩
 split
 ·exact⟨_,_,_,_,rfl,.inl rfl⟩
 split
 ·exact⟨_,_,_,_,rfl,.inl rfl⟩
 have hlt:(p-(2+j))/s<k:=(Nat.div_lt_iff_lt_mul (by omega)).2 (by omega);split
 ·exact⟨_,_,_,_,rfl,.inr ⟨rfl,by rw[beq_eq_false_iff_ne];omega⟩⟩
 split
 ·exact⟨_,_,_,_,rfl,.inl rfl⟩
 split
 ·exact⟨_,_,_,_,rfl,.inl rfl⟩
 ·exact⟨_,_,_,_,rfl,.inl rfl⟩
theorem kM(g s i j k:Nat)(hm:aM g s i j=true)(hk:k<g)(w:World):Calls Tryz.prog 69 #[bN g s i j,.int .i64 (k:Int)] w λe w'=>e= .returned (.tuple #[.int .i64 ((2+j+k*s:Nat):Int),.bool true])/\Below w.heap.size w w':=by
 obtain⟨h1,h2,h3,h4,h5,h6,h7,h8,h9,h10,h11⟩:=dL hm;have hA:=At.new w 23 (aa g s i j);have HL:Hid (Below w.heap.size w (w.alloc (.cells (aa g s i j) 23))):=(Below.refl _ _).alloc (Nat.le_refl _) _;have hks:(k+1)*s<=g*s:=Nat.mul_le_mul_right _ hk;rw[Nat.succ_mul] at hks;have HST:Hid (∀p,p<2+j+k*s->∃K A B C:Int,gN s (i/4) j p=tv K A B C/\((K==4)=false\/((K==4)=true/\(A==(k:Int))=false))):=λp hp=>Cw (by omega) hp
 have G3:Hid (gN s (i/4) j (2+j+k*s)=tv 4 (k:Int) 0 0):=by
  have:=zI s (i/4) j k (a:=0) (by omega);rw[Nat.add_zero,if_pos rfl] at this;exact this
 have HM:=hid hm;obtain⟨T,hT⟩:∃T,T=2+j+k*s:=⟨_,rfl⟩;obtain⟨n,hn⟩:∃n,n=2+j+g*s:=⟨_,rfl⟩;have Th:T<n:=by omega
 have fY:n<=2048:=by omega
 rw[<-hT] at HST G3 ⊢;have ky:=hid hn;clear hm hks hT hn h11;go_enter Tryz.func69,Tryz.ntmps69;go_wp2_with (first|(refine ar rfl 23 (.tmp 2) rfl _ _ _ rfl hA Tryz.underlying23 rfl (by kernel_rfl) ?_))
 refine(nt g s i j HM.out _).mono ?_;rintro e w1 ⟨hb1,b,cap,rfl,gn,hcap,hcm⟩;have lq:=hid (HL.out.trans (hb1.mono HL.out.size));have A4:=hid gn;rw[<-ky.out] at A4 ⊢;clear hA HL hb1 gn hcap hcm;go_wp2_with fail
 go_loop [7] (λu=>∃p:Nat,p<=T/\u= .int .i64 (p:Int)) (λu=>n-(intOf u).toNat)
 case atStart=>exact⟨0,by omega,rfl⟩
 case round=>
  obtain⟨p,hp,rfl⟩:=hrel;have hpn:(p:Int)<(n:Int):=by omega
  by_cases QB:p<T
  ·obtain⟨K,A,B,C,he,hc⟩:=HST.out p QB
   obtain⟨c0,c1,_,_⟩:=A4.out.cells (by omega) he;rcases hc with q0|⟨q0,q1⟩
   ·clear he
    go_wp2_with fail
    go_round
    case rel=>exact⟨p+1,by omega,by go_num⟩
    case measure=>simp[intOf];omega
   ·clear he
    go_wp2_with fail
    go_round
    case rel=>exact⟨p+1,by omega,by go_num⟩
    case measure=>simp[intOf];omega
  ·obtain rfl:p=T:=by omega
   obtain⟨c0,c1,_,_⟩:=A4.out.cells Th G3.out;clear QB;go_wp2_with fail;refine bodyPost_ret (results_tmp2 rfl _ _ _) rfl ?_;exact⟨rfl,lq.out⟩
theorem mr(g s i j b:Nat)(hm:aM g s i j=true)(hb:b<2+j+g*s)(K A B C:Int)(he:gN s (i/4) j b=tv K A B C)(w:World):Calls Tryz.prog 144 #[bN g s i j,.int .i64 (b:Int)] w λe w'=>e= .returned (.tuple #[.int .u8 K,.int .i64 A,.int .i64 B])/\Below w.heap.size w w':=by
 obtain⟨h1,h2,h3,h4,h5,h6,h7,h8,h9,h10,h11⟩:=dL hm;have hA:=At.new w 23 (aa g s i j);have HL:Hid (Below w.heap.size w (w.alloc (.cells (aa g s i j) 23))):=(Below.refl _ _).alloc (Nat.le_refl _) _;have HM:=hid hm;have HE:=hid he;clear hm he;go_enter Tryz.func144,Tryz.ntmps144;go_wp2_with (first|(refine ar rfl 23 (.tmp 2) rfl _ _ _ rfl hA Tryz.underlying23 rfl (by kernel_rfl) ?_))
 refine(nt g s i j HM.out _).mono ?_;rintro e w1 ⟨hb1,q,cap,rfl,gn,hcap,hcm⟩;have lq:=hid (HL.out.trans (hb1.mono HL.out.size));obtain⟨n,hn⟩:∃n,n=2+j+g*s:=⟨_,rfl⟩;have fY:n<=2048:=by omega
 rw[<-hn] at gn hb ⊢;have d1:decide ((b:Int)<0)=false:=decide_eq_false (by omega);have d2:decide ((n:Int)<=(b:Int))=false:=decide_eq_false (by omega);have Tx:decide (n<=b)=false:=decide_eq_false (by omega);have kU:(b:Int)<(n:Int):=by omega
 have A4:=hid gn;clear hA HL hb1 gn hn h11 hcap hcm;go_wp2_with fail;refine ai (λW=>Ej W s (i/4) j n q/\Below w.heap.size w W) (by kernel_rfl) (by kernel_rfl) ⟨A4.out.below ⟨rfl,rfl,rfl,Nat.le_refl _,λ_ _=>rfl⟩,lq.out.drew⟩ ?_;clear A4 lq;intro hne;have c0:∀y:aT (λW=>Ej W s (i/4) j n q/\Below w.heap.size w W),y.W.cell? ⟨q,b*4,none⟩=some (.int .u8 K):=λy=>(y.h.1.cells hb HE.out).1
 have c1:∀y:aT (λW=>Ej W s (i/4) j n q/\Below w.heap.size w W),y.W.cell? ⟨q,b*4+1,none⟩=some (.int .i64 A):=λy=>(y.h.1.cells hb HE.out).2.1
 have c2:∀y:aT (λW=>Ej W s (i/4) j n q/\Below w.heap.size w W),y.W.cell? ⟨q,b*4+2,none⟩=some (.int .i64 B):=λy=>(y.h.1.cells hb HE.out).2.2.1
 repeat go_big_quiet_step (fail)
 refine wpQuiet_nil ?_;intro w5 h5;have HB:=hid h5.out.2;clear h5 hne c0 c1 c2;go_wp2_with fail;refine bodyPost_ret (results_tmp3 rfl _ _ _) rfl ?_;exact⟨rfl,HB.out⟩
theorem Is{γ r T:Nat}(hs:1<=s)(hi:i=4*t)(hr:r<i)(hT:T=1+γ*i+r)(hp:p<2+j+γ*s+(2+r/4))(hrs:2+r/4<s)(hγ:γ<=4)(zm:i<=64):∃K A B C:Int,gN s t j p=tv K A B C/\((K==6)=false\/((K==6)=true/\C+4<=(T:Int)/\0<=C)):=by
 unfold gN;split
 ·exact⟨_,_,_,_,rfl,.inl rfl⟩
 split
 ·exact⟨_,_,_,_,rfl,.inl rfl⟩
 split
 ·exact⟨_,_,_,_,rfl,.inl rfl⟩
 split
 ·exact⟨_,_,_,_,rfl,.inl rfl⟩
 split
 ·exact⟨_,_,_,_,rfl,.inl rfl⟩
 split
 ·rename_i h1 h2 h3 h4 h5 h6
  refine⟨_,_,_,_,rfl,.inr ⟨rfl,?_,?_⟩⟩
  ·have yq:=Nat.div_add_mod (p-(2+j)) s
   have OQ:=Nat.mod_lt (p-(2+j)) (show 0<s by omega);generalize (p-(2+j))%s=a at*;generalize (p-(2+j))/s=q at*;have hq:q<=γ:=by
    rcases Nat.lt_or_ge γ q with h|h
    ·have:(γ+1)*s<=q*s:=Nat.mul_le_mul_right _ h
     rw[Nat.succ_mul] at this;rw[Nat.mul_comm] at yq;omega
    ·exact h
   have e1:(q:Int)*(4*(t:Int))=((q*i:Nat):Int):=by rw[hi,Int.natCast_mul,Int.natCast_mul];rfl
   rw[e1]
   by_cases hqe:q=γ
   ·subst hqe
    rw[Nat.mul_comm] at yq;omega
   ·have:(q+1)*i<=γ*i:=Nat.mul_le_mul_right _ (by omega)
    rw[Nat.succ_mul] at this;omega
  ·have e1:(0:Int)<=(((p-(2+j))/s:Nat):Int)*(4*(t:Int)):=Int.mul_nonneg (Int.natCast_nonneg _) (by omega)
   generalize (((p-(2+j))/s:Nat):Int)*(4*(t:Int))=Q at*;have h7:2<=(p-(2+j))%s:=by omega
   generalize (p-(2+j))%s=a at*;omega
 ·exact⟨_,_,_,_,rfl,.inl rfl⟩
theorem oS(g s i j γ r:Nat)(hm:aM g s i j=true)(hγ:γ<g)(hr:r<i)(w:World):Calls Tryz.prog 67 #[bN g s i j,.int .i64 ((1+γ*i+r:Nat):Int)] w λe w'=>e= .returned (.tuple #[.int .i64 ((2+j+γ*s+(2+r/4):Nat):Int),.int .i64 ((64*(r%4):Nat):Int),.bool true])/\Below w.heap.size w w':=by
 obtain⟨h1,h2,h3,h4,h5,h6,h7,h8,h9,h10,h11⟩:=dL hm;have hA:=At.new w 23 (aa g s i j);have HL:Hid (Below w.heap.size w (w.alloc (.cells (aa g s i j) 23))):=(Below.refl _ _).alloc (Nat.le_refl _) _;have hks:(γ+1)*s<=g*s:=Nat.mul_le_mul_right _ hγ;rw[Nat.succ_mul] at hks;have BI:γ*i<=4*64:=Nat.mul_le_mul (by omega) h6;have HST:Hid (∀p,p<2+j+γ*s+(2+r/4)->∃K A B C:Int,gN s (i/4) j p=tv K A B C/\((K==6)=false\/((K==6)=true/\C+4<=((1+γ*i+r:Nat):Int)/\0<=C))):=λp hp=>Is (by omega) (by omega) hr rfl hp (by omega) (by omega) h6
 have G3:Hid (gN s (i/4) j (2+j+γ*s+(2+r/4))=tv 6 (γ:Int) ((2+r/4:Nat):Int) ((1+γ*i+4*(r/4):Nat):Int)):=by
  have:=zI s (i/4) j γ (a:=2+r/4) (by omega);rw[if_neg (by omega),if_neg (by omega),if_pos (by omega)] at this;show _=_;rw[this];have e1:(γ:Int)*(4*((i/4:Nat):Int))=((γ*i:Nat):Int):=by rw[Int.natCast_mul];congr 1;omega
  rw[e1];have e2:(1:Int)+((γ*i:Nat):Int)+4*(((2+r/4:Nat):Int)-2)=((1+γ*i+4*(r/4):Nat):Int):=by omega
  rw[e2]
 have HR:Hid (64*(((1+γ*i+r:Nat):Int)-((1+γ*i+4*(r/4):Nat):Int))=((64*(r%4):Nat):Int)):=by show _=_;omega
 have HM:=hid hm;clear hm;obtain⟨Z,hZ⟩:∃Z,Z=1+γ*i+r:=⟨_,rfl⟩;obtain⟨D,hD⟩:∃D,D=1+γ*i+4*(r/4):=⟨_,rfl⟩;have hDZ:D<=Z/\Z<D+4/\Z<=1000:=by omega
 obtain⟨T,hT⟩:∃T,T=2+j+γ*s+(2+r/4):=⟨_,rfl⟩;obtain⟨n,hn⟩:∃n,n=2+j+g*s:=⟨_,rfl⟩;have Th:T<n:=by omega
 have fY:n<=2048:=by omega
 rw[<-hZ,<-hT] at HST;rw[<-hT,<-hD] at G3;rw[<-hZ,<-hD] at HR;rw[<-hT,<-hZ];have ky:=hid hn;clear hks hT hn h11 hZ hD BI;go_enter Tryz.func67,Tryz.ntmps67;go_wp2_with (first|(refine ar rfl 23 (.tmp 2) rfl _ _ _ rfl hA Tryz.underlying23 rfl (by kernel_rfl) ?_))
 refine(nt g s i j HM.out _).mono ?_;rintro e w1 ⟨hb1,b,cap,rfl,gn,hcap,hcm⟩;have lq:=hid (HL.out.trans (hb1.mono HL.out.size));have A4:=hid gn;rw[<-ky.out] at A4 ⊢;clear hA HL hb1 gn hcap hcm;go_wp2_with fail
 go_loop [8] (λu=>∃p:Nat,p<=T/\u= .int .i64 (p:Int)) (λu=>n-(intOf u).toNat)
 case atStart=>exact⟨0,by omega,rfl⟩
 case round=>
  obtain⟨p,hp,rfl⟩:=hrel;have hpn:(p:Int)<(n:Int):=by omega
  by_cases QB:p<T
  ·obtain⟨K,A,B,C,he,hc⟩:=HST.out p QB
   obtain⟨c0,_,_,c3⟩:=A4.out.cells (by omega) he;rcases hc with q0|⟨q0,q1,q2⟩
   ·clear he
    go_wp2_with fail
    go_round
    case rel=>exact⟨p+1,by omega,by go_num⟩
    case measure=>simp[intOf];omega
   ·have d1:decide (C<=(Z:Int))=true:=decide_eq_true (by omega)
    have d2:decide ((Z:Int)<C+4)=false:=decide_eq_false (by omega);clear he;go_wp2_with fail
    go_round
    case rel=>exact⟨p+1,by omega,by go_num⟩
    case measure=>simp[intOf];omega
  ·obtain rfl:p=T:=by omega
   obtain⟨c0,_,_,c3⟩:=A4.out.cells Th G3.out;have d1:decide ((D:Int)<=(Z:Int))=true:=decide_eq_true (by omega);have d2:decide ((Z:Int)<(D:Int)+4)=true:=decide_eq_true (by omega);have d1':decide (D<=Z)=true:=decide_eq_true (by omega);have Tx:decide (Z<D+4)=true:=decide_eq_true (by omega);clear QB;go_wp2_with fail;refine ai (λW=>Ej W s (i/4) j n b/\Below w.heap.size w W) (by kernel_rfl) (by kernel_rfl) ⟨A4.out.below ⟨rfl,rfl,rfl,Nat.le_refl _,λ_ _=>rfl⟩,lq.out.drew⟩ ?_;clear A4 lq c0 c3;intro hne;have c3:∀y:aT (λW=>Ej W s (i/4) j n b/\Below w.heap.size w W),y.W.cell? ⟨b,p*4+3,none⟩=some (.int .i64 (D:Int)):=λy=>(y.h.1.cells Th G3.out).2.2.2
   repeat go_big_quiet_step (fail)
   refine wpQuiet_nil ?_;intro w5 h5;have HB:=hid h5.out.2;clear h5 hne c3;go_wp2_with fail;refine bodyPost_ret (results_tmp3 rfl _ _ _) rfl ?_;exact⟨by rw[<-HR.out];rfl,HB.out⟩
theorem z7(g s i j γ r:Nat)(hm:aM g s i j=true)(hγ:γ<g)(hr:r<i)(w:World):Calls Tryz.prog 66 #[bN g s i j,.int .i64 ((1+γ*i+r:Nat):Int)] w λe w'=>e= .returned (.tuple #[.int .i64 (γ:Int),.int .i64 (r:Int),.bool true])/\Below w.heap.size w w':=by
 obtain⟨h1,h2,h3,h4,h5,h6,h7,h8,h9,h10,h11⟩:=dL hm;have hA:=At.new w 23 (aa g s i j);have HL:Hid (Below w.heap.size w (w.alloc (.cells (aa g s i j) 23))):=(Below.refl _ _).alloc (Nat.le_refl _) _;have HM:=hid hm;have zu:Hid (∀γ' r':Nat,γ'<=γ->r'<i->(γ'=γ->r'<r)->((((1+γ'*i+r':Nat):Int))==((1+γ*i+r:Nat):Int))=false):=λγ' r' hg hr' hlt=>by
  rw[beq_eq_false_iff_ne]
  by_cases e:γ'=γ
  ·subst e;have:=hlt rfl;omega
  ·have:(γ'+1)*i<=γ*i:=Nat.mul_le_mul_right _ (by omega)
   rw[Nat.succ_mul] at this;omega
 have LZ:Hid (((((1+γ*i+r:Nat):Int))==((1+γ*i+r:Nat):Int))=true):=by show _=_;rw[beq_iff_eq]
 obtain⟨Z,hZ⟩:∃Z:Int,Z=((1+γ*i+r:Nat):Int):=⟨_,rfl⟩;rw[<-hZ] at zu ⊢;have LZ:Hid ((((1+γ*i+r:Nat):Int)==Z)=true):=by show _=_;rw[hZ,beq_iff_eq]
 clear hm hZ h10 h11;go_enter Tryz.func66,Tryz.ntmps66;go_wp2_with (first|(refine ar rfl 23 (.tmp 2) rfl _ _ _ rfl hA Tryz.underlying23 rfl (by kernel_rfl) ?_))
 refine(dY g s i j _).mono ?_;rintro e w1 ⟨rfl,hb1⟩;rw[HM.out];have zi:=hid (hA.below hb1 hA.lt);have lq:=hid (HL.out.trans (hb1.mono HL.out.size));clear hA HL hb1;go_wp2_with fail;go_loopw [7,8] (λu _ wr=>∃p:Nat,p<=γ/\u= .int .i64 (p:Int)/\At wr w.heap.size 23 (aa g s i j)/\Below w.heap.size w wr) (λu _ _=>g-(intOf u).toNat)
 case atStart=>exact⟨0,by omega,rfl,zi.out,lq.out⟩
 case round=>
  clear zi lq;obtain⟨p,hp,rfl,ha,hl⟩:=hrel;have oC:(p:Int)<(g:Int):=by omega
  have c0:wr.cell? ⟨w.heap.size,0,none⟩=some (.int .i64 (g:Int)):=ha.cell (i:=0) rfl;have HA:=hid ha;have HL:=hid hl;clear ha hl;go_wp2_with fail;clear c0;go_loopw [8] (λu wr=>∃b:Nat,b<=i/\(p=γ->b<=r)/\u= .int .i64 (b:Int)/\At wr w.heap.size 23 (aa g s i j)/\Below w.heap.size w wr) (λu _=>i-(intOf u).toNat)
  case atStart=>exact⟨0,by omega,λ_=>by omega,rfl,HA.out,HL.out⟩
  case round=>
   clear HA HL;obtain⟨b,hb,hbr,rfl,ha,hl⟩:=hrel;have c2:wr.cell? ⟨w.heap.size,2,none⟩=some (.int .i64 (i:Int)):=ha.cell (i:=2) rfl
   by_cases Y2:b<i
   ·have ady:(b:Int)<(i:Int):=by omega
    go_wp2_with (first|(refine ar rfl 23 (.tmp 2) rfl _ _ _ rfl ha Tryz.underlying23 rfl (by kernel_rfl) ?_))
    refine(jN g s i j p b HM.out (by omega) Y2 h2 h6 _).mono ?_;rintro e w3 ⟨rfl,hb3⟩;have HA:=hid (ha.below hb3 ha.lt);have HL:=hid (hl.trans (hb3.mono hl.size));clear ha hl hb3 c2
    by_cases hz:p=γ/\b=r
    ·obtain⟨rfl,rfl⟩:=hz
     have q0:=LZ.out;obtain⟨Y,hY⟩:∃Y:Int,Y=((1+p*i+b:Nat):Int):=⟨_,rfl⟩;rw[<-hY] at q0 ⊢;clear hY;go_wp2_with fail;refine bodyPost_ret (results_tmp3 rfl _ _ _) rfl ?_;exact⟨rfl,HL.out⟩
    ·have q0:=zu.out p b hp Y2 (λe=>by have:=hbr e;by_cases e2:b=r;exact absurd ⟨e,e2⟩ hz;omega)
     obtain⟨Y,hY⟩:∃Y:Int,Y=((1+p*i+b:Nat):Int):=⟨_,rfl⟩;rw[<-hY] at q0 ⊢;clear hY;go_wp2_with fail;go_roundw
     case rel=>exact⟨b+1,by omega,λe=>by have:=hbr e;by_cases e2:b=r;exact absurd ⟨e,e2⟩ hz;omega,by go_num,HA.out,HL.out⟩
     case measure=>simp[intOf];omega
   ·obtain rfl:b=i:=by omega
    have hpγ:p≠γ:=λe=>by have:=hbr e;omega
    have HA:=hid ha;have HL:=hid hl;clear ha hl;go_wp2_with fail;go_roundw
    case rel=>exact⟨p+1,by omega,by go_num,HA.out,HL.out⟩
    case measure=>simp[intOf];omega
end Go.Proofs.YtphamecphmbipaaGreatDoor
