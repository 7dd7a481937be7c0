/- Texts of this claim, merged. -/
import Derived.Test.YtphamecphmbipaaGreatDoorZ03
import Derived.Laws.Tables
import Derived.Laws.CopyOwn
import Derived.Deep.MidRow
import Derived.StillTailTactics
import Derived.Deep.RegionWith
set_option linter.unusedVariables false
set_option maxRecDepth 100000
set_option maxHeartbeats 16000000

namespace Go.Proofs.YtphamecphmbipaaGreatDoor
open Go.RowKit
variable {w:World} {g id i k k':Nat} {T:TypeId} {z:Nat->Int} {ops:Array Oper} {rest l:List Oper} {o:Oper} {a:Act} {Q:Exit->Act->World->Prop} {S:World->Prop} {v:Value} {fn:Func} {p:Tmp}
abbrev aR(z:Nat->Int):Value:=.agg (Ks .u8 256 z).toArray
theorem cW(W:World):(zeroValue 32).run Tryz.prog W= .ok (.agg (Ks .u8 256 (λ_=>0)).toArray) W:=by kernel_rfl
theorem aA:(Tryz.prog.info? 32).map (·.size)=some 256:=by kernel_rfl
theorem aW(z:Nat->Int):(Tryz.prog.info? 32).map (·.size)=some (Ks .u8 256 z).toArray.size:=by rw[bE];exact aA
theorem tg(z y:Nat->Int)(w:World):(binOp .eql 32 (.agg (Ks .u8 256 z).toArray) (.agg (Ks .u8 256 y).toArray)).run Tryz.prog w= .ok (.bool (mr z y 256)) w:=by
 obtain⟨i,hi,_⟩:=info_parts BQ;exact vv w Tryz.underlying32 hi Tryz.underlying5 (by kernel_rfl) z y
theorem te(z y:Nat->Int)(w:World):(binOp .neq 32 (.agg (Ks .u8 256 z).toArray) (.agg (Ks .u8 256 y).toArray)).run Tryz.prog w= .ok (.bool (!mr z y 256)) w:=by
 obtain⟨i,hi,_⟩:=info_parts BQ;exact vq w Tryz.underlying32 hi Tryz.underlying5 (by kernel_rfl) z y
theorem aU.range{n:Nat}(h:aU w g T n z):w.rangeAt g 0 (Ks .u8 n z):=by
 intro j v hj;rw[Nat.zero_add];exact aF h (by simpa using hj)
theorem aU.setRow{n:Nat}(h:aU w g T n z)(y:Nat->Int):aU (w.setRow g (Ks .u8 n y).toArray) g T n y:=setRow_heap w g _ _ T (0,0) h
theorem gM(w:World)(g:Nat)(cs:Array Value){old:Array Value}{t:TypeId}(h:w.heap[g]? =some (.cells old t (0,0)))(hs:cs.size=old.size):az g w (w.setRow g cs):=by
 refine⟨rfl,rfl,rfl,size_setRow _ _ _,λk hk=>setRow_other _ _ _ _ hk,λa=> ?_,λc e fr hc=> ?_⟩
 ·by_cases ha:a.block=g
  ·unfold World.frozen?
   rw[ha,h,setRow_heap w g _ cs t (0,0) h]
  exact World.frozen?_of_block (w:=w) (setRow_other _ _ _ _ ha)
 rw[h] at hc;injection hc with hc
 injection hc with h1 h2 h3
 subst h1 h2 h3;exact⟨cs,hs,setRow_heap w g _ cs _ _ h⟩
theorem bP{P:Program}{fn:Func}{p u:Tmp}{ty:TypeId}(h:fn.results= #[.cell p ty,.tmp u])(tmps:Array Value)(w:World)(g:Nat)(t:TypeId)(cs:Array Value)(fr:Nat×Nat)(d:TypeDesc)
  (hp:tmps.getD p undef= .pointer (some ⟨g,0,none⟩)) (hg:w.heap[g]? =some (.cells cs t fr))
  (hu:P.underlying ty=some d) (hd:(match d with| .struct _| .array _ _=>true|_=>false)=true) (hi:(P.info? ty).map (·.size)=some cs.size):
  (results fn tmps).run P w= .ok (.tuple #[.agg cs,tmps.getD u undef]) w:=by
 have hp':tmps[p]?.getD undef= .pointer (some ⟨g,0,none⟩):=by simpa using hp
 simp[results,h,hp',asAddr,run_loadVar_row w g t ty cs fr d hg hu hd hi]
theorem gm(hgd:o.guard=none)(x:Operand)(ho:o.op= .load 32 x)
  (g:Nat) (z:Nat->Int) (hx:a.eval x= .pointer (some ⟨g,0,none⟩)) (hB:aU w g 32 256 z)
  (h:wpList Tryz.prog ops Q rest (a.put o.dst (aR z)) w):wpList Tryz.prog ops Q (o::rest) a w:=
 wpList_load_row hgd 32 x ho g hx 32 (Ks .u8 256 z).toArray (0,0) _ hB Tryz.underlying32 rfl (aW _) h
theorem bm(hgd:o.guard=none)(x y:Operand)(ho:o.op= .store 32 x y)
  (g:Nat) (z old:Nat->Int) (hx:a.eval x= .pointer (some ⟨g,0,none⟩)) (hy:a.eval y=aR z) (hB:aU w g 32 256 old)
  (h:∀w',aU w' g 32 256 z->az g w w'->wpList Tryz.prog ops Q rest (a.put o.dst undef) w'):wpList Tryz.prog ops Q (o::rest) a w:=
 wpList_store_row hgd 32 x y ho g (Ks .u8 256 z).toArray hx hy 32 _ hB (aW _) (by rw[bE,bE]) (fF _ _ _) (h _ (hB.setRow z) (gM w g _ hB (by rw[bE,bE])))
section
variable {P:Program}
structure a9(S:World->Prop)where
 W:World
 h:S W
def Sv(S:World->Prop)(w':World):Prop:=∃s:a9 S,w'=s.W
theorem Sv.Z(h:Sv S w):S w:=by obtain⟨s,rfl⟩:=h;exact s.h
theorem aw(S:World->Prop)(hm:P.follows .mixedOrders=true)(hB:Region.lexB .any l.toArray=true)(hS:S {w with drawn:=w.drawn+1})
  (h:Nonempty (a9 S)->wpQuiet P l.toArray (λw'=>∃s:a9 S,w'=s.W) (λa'=>∀w',Sv S w'->Q .normal a' w') l a):(Code.region id l.toArray true).wp P Q a w:=
 wp_region_quiet (C:=λw'=>∃s:a9 S,w'=s.W) hm hB ⟨⟨_,hS⟩,rfl⟩ (h ⟨⟨_,hS⟩⟩)
theorem ar{P:Program}(S:World->Prop)(hS:S {w with drawn:=w.drawn+1})(h:Nonempty (a9 S)->wpQuiet P l.toArray (λw'=>∃s:a9 S,w'=s.W) (λa'=>∀w',Sv S w'->Q .normal a' w') l a)(hm:P.follows .mixedOrders=true:=by kernel_rfl)(hB:Region.lexB .any l.toArray=true:=by kernel_rfl):(Code.region id l.toArray true).wp P Q a w:=aw S hm hB hS h
theorem aN{f:FuncId}{args:Array Value}(s:a9 S)(h:∀W,S W->Calls P f args W λe w'=>e= .returned v/\S w'):Calls P f args s.W λe w'=>e= .returned v/\∃s':a9 S,w'=s'.W:=
 (h s.W s.h).mono λe w' hh=>⟨hh.1,⟨w',hh.2⟩,rfl⟩
theorem aO{Q:Act->Prop}(hw:Region.wanted o (yielded ops a.tmps)=true)(ty:TypeId)(x:Operand)(ho:o.op= .load ty x)
  (b off:Nat) (hx:a.eval x= .pointer (some ⟨b,off,none⟩)) (cs:List Value) (d:TypeDesc) (hS:∀w,S w->w.rangeAt b off cs)
  (hu:P.underlying ty=some d) (hd:d.isRow=true) (hi:(P.info? ty).map (·.size)=some cs.length)
  (h:wpQuiet P ops (λw'=>∃s:a9 S,w'=s.W) Q rest (a.put o.dst (.agg cs.toArray))):wpQuiet P ops (λw'=>∃s:a9 S,w'=s.W) Q (o::rest) a:=by
 refine wpQuiet_step λK hK=> ?_
 rw[if_pos hw];refine⟨.agg cs.toArray,λw hw'=> ?_,hK _ h⟩;obtain⟨s,rfl⟩:=hw';unfold Oper.quietAt execOp;simp only[ho,hx,Instr.loadAt,Instr.sureAddr,Sem.run_bind,Sem.run_pure,Result.andThen_ok,run_loadVar_mid s.W b off ty cs d (hS s.W s.h) hu hd hi];exact⟨rfl,rfl⟩
theorem Qk{Q:Act->Prop}(hw:Region.wanted o (yielded ops a.tmps)=true)(v:Value)(hr:∀W,(execOp a.eval o).run P W= .ok (.value v) W)
  (h:wpQuiet P ops (λw'=>∃s:a9 S,w'=s.W) Q rest (a.put o.dst v)):wpQuiet P ops (λw'=>∃s:a9 S,w'=s.W) Q (o::rest) a:=by
 refine wpQuiet_step λK hK=> ?_
 rw[if_pos hw];refine⟨v,λw _=> ?_,hK _ h⟩;unfold Oper.quietAt;rw[hr];exact⟨rfl,rfl⟩
theorem aj{C:World->Prop}{Q:Act->Prop}{a':Act}(h:wpQuiet P ops C Q l a')(e:a=a':=by simp only[Act.put,List.setIfInBounds_toArray,List.set_cons_succ,List.set_cons_zero];exact rfl):wpQuiet P ops C Q l a:=e▸h
end
theorem kT{P:Program}{fn:Func}{p:Tmp}{ty:TypeId}(h:fn.results= #[.cell p ty])(tmps:Array Value)(w:World)(g:Nat)(t:TypeId)(cs:Array Value)(fr:Nat×Nat)(d:TypeDesc)
  (hp:tmps.getD p undef= .pointer (some ⟨g,0,none⟩)) (hg:w.heap[g]? =some (.cells cs t fr))
  (hu:P.underlying ty=some d) (hd:(match d with| .struct _| .array _ _=>true|_=>false)=true) (hi:(P.info? ty).map (·.size)=some cs.size):
  (results fn tmps).run P w= .ok (.agg cs) w:=by
 have hp':tmps[p]?.getD undef= .pointer (some ⟨g,0,none⟩):=by simpa using hp
 simp[results,h,hp',asAddr,run_loadVar_row w g t ty cs fr d hg hu hd hi]
theorem fI(h:fn.results= #[.cell p 32])(tmps:Array Value)(w:World)(g:Nat)(z:Nat->Int)
  (hp:tmps.getD p undef= .pointer (some ⟨g,0,none⟩)) (hg:aU w g 32 256 z):(results fn tmps).run Tryz.prog w= .ok (aR z) w:=
 kT h tmps w g 32 (Ks .u8 256 z).toArray (0,0) _ hp hg Tryz.underlying32 rfl (aW _)
theorem cw{u:Tmp}(h:fn.results= #[.cell p 32,.tmp u])(tmps:Array Value)(w:World)(g:Nat)(z:Nat->Int)
  (hp:tmps.getD p undef= .pointer (some ⟨g,0,none⟩)) (hg:aU w g 32 256 z):(results fn tmps).run Tryz.prog w= .ok (.tuple #[aR z,tmps.getD u undef]) w:=
 bP h tmps w g 32 (Ks .u8 256 z).toArray (0,0) _ hp hg Tryz.underlying32 rfl (aW _)
theorem Ba{y:Nat->Int}(h:∀i,i<256->z i=y i):aR z=aR y:=by unfold aR;rw[zp h]
theorem Fw(s:Int)(w:World):Calls Tryz.prog 100 #[.int .u32 s] w λe w'=>e= .returned (.bool (seqB s))/\w=w':=by
 by_cases h1:1<=s
 ·by_cases h2:s<=2147483648
  ·have hd:Hd (seqB s=true):=by show _=_;simp[seqB,h1,h2]
   go_enter Tryz.func100,Tryz.ntmps100
   go_wp2
   go_ret;exact⟨aI hd.Z.symm,rfl⟩
  have hd:Hd (seqB s=false):=by show _=_;simp[seqB,h1,h2]
  go_enter Tryz.func100,Tryz.ntmps100
  go_wp2
  go_ret;exact⟨aI hd.Z.symm,rfl⟩
 have hd:Hd (seqB s=false):=by show _=_;simp[seqB,h1]
 go_enter Tryz.func100,Tryz.ntmps100
 go_wp2
 go_ret;exact⟨aI hd.Z.symm,rfl⟩
def AA(o:Oper):Bool:=match o.op with| .call _=>true|_=>false
def fu(o:Oper):Bool:=match o.op with| .move _| .assign _| .pick _ _ _| .build _ _| .load _ _| .binOp _ _ _ _ _| .unOp _ _ _| .convert _ _ _| .fieldAddr _ _ _| .field _ _ _| .indexAddr _ _ _| .index _ _ _| .extract _ _| .slice _ _ _ _ _=>true|_=>false
section
variable {P:Program} {ops:Array Oper} {md:Region.Mode} {C:Nat->World->Prop}
def stillUpon(w:World)(v:Value):Result Next->Prop
 | .ok (.value u) w'=>w'=w/\u=v
 | .ok .skip w'=>w'=w/\v=undef
 |_=>False
def AY(P:Program)(w:World)(R:Ending->World->Prop):Result Next->Prop
 | .ok (.enter f args) w'=>w'=w/\Calls P f args w R
 |_=>False
def fR(P:Program)(C:Nat->World->Prop)(o:Oper)(a:Act)(v:Value):Prop:=∀w,(∃k,C k w)->stillUpon w v ((execOp a.eval o).run P w)
def Oq(P:Program)(C:Nat->World->Prop)(k:Nat)(o:Oper)(a:Act)(v:Value):Prop:=∀w,C k w->AY P w (λe w'=>e= .returned v/\C (k+1) w') ((execOp a.eval o).run P w)
def LY(P:Program)(ops:Array Oper)(C:Nat->World->Prop)(o:Oper)(v:Value)(a:Act)(k k':Nat):Prop:=
 (Region.wanted o (yielded ops a.tmps)=true/\((AA o=true/\Oq P C k o a v/\k'=k+1)\/(AA o=false/\fR P C o a v/\k'=k)))\/
 (Region.wanted o (yielded ops a.tmps)=false/\v=undef/\k'=k)
def dS(P:Program)(ops:Array Oper)(C:Nat->World->Prop)(i:Nat)(K:Nat->Act->Prop)(k:Nat)(a:Act):Prop:=
 match ops[i]? with
 |none=>K k a
 |some o=>∃v k',LY P ops C o v a k k'/\K k' (a.put o.dst v)
def wpAnyL(P:Program)(md:Region.Mode)(ops:Array Oper)(C:Nat->World->Prop)(Q:Nat->Act->Prop):Nat->Array Bool->Nat->Act->Prop
 |0,listed,k,a=>Region.ready md ops listed=[]/\Q k a
 |fuel+1,listed,k,a=>(Region.ready md ops listed=[]->Q k a)/\∀i∈Region.ready md ops listed,dS P ops C i (wpAnyL P md ops C Q fuel (listed.setIfInBounds i true)) k a
theorem LY.dS(hi:ops[i]? =some o)(hy:LY P ops C o v a k k'){K:Nat->Act->Prop}(h:K k' (a.put o.dst v)):dS P ops C i K k a:=by
 unfold Proofs.YtphamecphmbipaaGreatDoor.dS;simp only[hi];exact⟨v,k',hy,h⟩
theorem LY.step(hy:LY P ops C o v a k k')(hc:AA o=false):k'=k/\∀m,LY P ops C o v a m m:=by
 rcases hy with⟨hw,⟨h,_⟩|⟨h,hs,rfl⟩⟩|⟨hw,rfl,rfl⟩
 ·rw[hc] at h;cases h
 ·exact⟨rfl,λm=> .inl ⟨hw,.inr ⟨h,hs,rfl⟩⟩⟩
 exact⟨rfl,λm=> .inr ⟨hw,rfl,rfl⟩⟩
def du(P:Program)(ops:Array Oper)(C:Nat->World->Prop)(Q:Nat->Act->Prop):List Oper->Nat->Act->Prop
 |[],k,a=>Q k a
 |o::rest,k,a=>∃v k',LY P ops C o v a k k'/\du P ops C Q rest k' (a.put o.dst v)
/-! ###Steps of the walk -/
end
def ft(md:Region.Mode)(ops:Array Oper):Bool:=
 (List.range ops.size).all λi=>((ops[i]?).map λo=>o.after.all λe=> !Region.binds md e||decide (e.on<i)).getD true
def zF(md:Region.Mode)(o:Oper)(l:Nat->Bool):Bool:=o.after.all λe=> !Region.binds md e||l e.on
section
variable {P:Program} {md:Region.Mode} {ops:Array Oper}
theorem cX(h:ft md ops=true)(hi:ops[i]? =some o){e:Edge}(he:e∈o.after)(hb:Region.binds md e=true):e.on<i:=by
 unfold ft at h;rw[List.all_eq_true] at h;have h1:=h i (List.mem_range.2 (Array.getElem?_eq_some_iff.1 hi).1);rw[hi] at h1;simp only[Option.map_some,Option.getD_some] at h1;rw[Array.all_eq_true'] at h1;have h2:=h1 e he;rw[hb] at h2;simpa using h2
theorem oG(h:ft md ops=true){listed:Array Bool}(hs:listed.size=ops.size)(hr:Region.ready md ops listed=[]):∀i,i<ops.size->listed.getD i false=true:=by
 intro i
 induction i using Nat.strongRecOn with
 |_ i ih=>
  intro hi;cases hl:listed.getD i false with
  |true=>rfl
  |false=>
   exfalso;have:i∈Region.ready md ops listed:=by
    refine mem_ready.2 ⟨?_,ops[i],Array.getElem?_eq_getElem hi,λe he hb=> ?_⟩
    ·rw[Array.getD_eq_getD_getElem?,Array.getElem?_eq_getElem (by omega)] at hl ⊢;simpa using hl
    have:=cX h (Array.getElem?_eq_getElem hi) he hb;exact ih _ this (by omega)
   rw[hr] at this;cases this
def gg(P:Program)(md:Region.Mode)(ops:Array Oper)(Q:Exit->Act->World->Prop)(I:(Nat->Bool)->Act->World->Prop):Nat->List Oper->Prop
 |_,[]=>True
 |n,o::rest=>(∀l a w,l n=false->zF md o l=true->I l a w->wpOp P ops Q n (I (λj=>j==n||l j)) a w)/\gg P md ops Q I (n+1) rest
theorem gg.get{I:(Nat->Bool)->Act->World->Prop}:∀(L:List Oper) (n i:Nat) (o:Oper),gg P md ops Q I n L->L[i]? =some o->
  ∀l a w,l (n+i)=false->zF md o l=true->I l a w->wpOp P ops Q (n+i) (I (λj=>j==(n+i)||l j)) a w
 |[],_,_,_,_,h=>by cases h
 |o'::L,n,0,o,h,hi=>by cases hi;exact h.1
 |o'::L,n,i+1,o,h,hi=>by
  have:=gg.get L (n+1) i o h.2 (by simpa using hi);rw[show n+1+i=n+(i+1) by omega] at this;exact this
theorem CE{I:(Nat->Bool)->Act->World->Prop}(hd:ft md ops=true)(hst:gg P md ops Q I 0 ops.toList)
  (hI:∀l l' a w,(∀i,i<ops.size->l i=l' i)->I l a w->I l' a w)
  (hend:∀a w,I (λ_=>true) a w->Q .normal a w):∀(fuel:Nat) (listed:Array Bool) (a:Act) (w:World),listed.size=ops.size->(listed.toList.filter (λb=> !b)).length=fuel->
   I (λj=>listed.getD j false) a w->wpAny P md ops Q fuel listed a w:=by
 have fin:∀(listed:Array Bool) (a:Act) (w:World),listed.size=ops.size->Region.ready md ops listed=[]->I (λj=>listed.getD j false) a w->Q .normal a w:=λlisted a w hs hr h=>
  hend a w (hI _ _ a w (λi hi=>oG hd hs hr i hi) h)
 intro fuel
 induction fuel with
 |zero=>
  intro listed a w hs hc h;have hall:∀b∈listed.toList,b=true:=by
   intro b hb;cases b with
   |true=>rfl
   |false=>
    have:false∈listed.toList.filter (λb=> !b):=List.mem_filter.2 ⟨hb,rfl⟩;rw[List.length_eq_zero_iff.1 hc] at this;cases this
  have hr:Region.ready md ops listed=[]:=by
   cases hr:Region.ready md ops listed with
   |nil=>rfl
   |cons i r=>
    have hi:i∈Region.ready md ops listed:=by rw[hr];simp
    obtain⟨h1,o,ho,_⟩:=mem_ready.1 hi;have hlt:i<listed.size:=by rw[hs];exact(Array.getElem?_eq_some_iff.1 ho).1
    rw[Array.getD_eq_getD_getElem?,Array.getElem?_eq_getElem hlt] at h1;have:=hall listed[i] (by simp);simp[this] at h1
  exact⟨hr,fin listed a w hs hr h⟩
 |succ fuel ih=>
  intro listed a w hs hc h;refine⟨λhr=>fin listed a w hs hr h,λi hi=> ?_⟩;obtain⟨h1,o,ho,hall⟩:=mem_ready.1 hi;have hlt:i<listed.size:=by rw[hs];exact(Array.getElem?_eq_some_iff.1 ho).1
  have Zk:listed[i]=false:=by rw[Array.getD_eq_getD_getElem?,Array.getElem?_eq_getElem hlt] at h1;simpa using h1
  have hstep:=gg.get ops.toList 0 i o hst (by simpa using ho) (λj=>listed.getD j false) a w (by rw[Nat.zero_add,Array.getD_eq_getD_getElem?,Array.getElem?_eq_getElem hlt];simpa using Zk)
   (by
    unfold zF;rw[Array.all_eq_true'];intro e he;cases hb:Region.binds md e with
    |false=>rfl
    |true=>simpa using hall e he hb) h
  rw[Nat.zero_add] at hstep;refine wpOp_mono (λa' w' h'=> ?_) hstep;refine ih _ a' w' (by simpa using hs) ?_ (hI _ _ a' w' (λj hj=> ?_) h')
  ·have key:∀(L:List Bool) (i:Nat) (hi:i<L.length),L[i]=false->((L.set i true).filter (λb=> !b)).length+1=(L.filter (λb=> !b)).length:=by
    intro L
    induction L with
    |nil=>intro i hi;simp at hi
    |cons b L ihL=>
     intro i hi hb;cases i with
     |zero=>simp at hb;subst hb;simp
     |succ i=>
      have:=ihL i (by simpa using hi) (by simpa using hb);cases b<;>simp<;>omega
   have:=key listed.toList i (by simpa using hlt) (by simpa using Zk);rw[hc] at this;have e:(listed.setIfInBounds i true).toList=listed.toList.set i true:=by simp
   rw[e];omega
  by_cases rZ:j=i
  ·subst rZ
   simp[Array.getD_eq_getD_getElem?,hlt]
  simp only[Array.getD_eq_getD_getElem?,Array.getElem?_setIfInBounds_ne (Ne.symm rZ),show(j==i)=false by simpa using rZ,Bool.false_or]
theorem mb(I:(Nat->Bool)->Act->World->Prop){L:List Oper}(hm:P.follows .mixedOrders=true)(hd:ft .any L.toArray=true)
  (hI:∀l l' a w,(∀i,i<L.length->l i=l' i)->I l a w->I l' a w) (h0:I (λ_=>false) a {w with drawn:=w.drawn+1}) (hst:gg P .any L.toArray Q I 0 L)
  (hend:∀a w,I (λ_=>true) a w->Q .normal a w):(Code.region id L.toArray true).wp P Q a w:=by
 refine wp_region_any hm (CE (I:=I) hd (by simpa using hst) (by simpa using hI) hend _ _ a _ (by simp) (by simp) (hI _ _ _ _ (λi hi=> ?_) h0));simp[Array.getD_eq_getD_getElem?,hi]
end
theorem mz(a:Int)(w:World):
  Calls Tryz.prog 102 #[.int .i64 a] w λe w'=>e= .returned (.bool (cH a))/\w=w':=by
 by_cases c1:a=0
 ·subst c1
  have hd:Hd (cH 0=true):=(eG _).2 (by omega);go_enter Tryz.func102,Tryz.ntmps102
  go_wp2
  go_ret;exact⟨aI hd.Z.symm,rfl⟩
 have q1:(a==0)=false:=by simp[c1]
 by_cases c2:a=64
 ·subst c2
  have hd:Hd (cH 64=true):=(eG _).2 (by omega);go_enter Tryz.func102,Tryz.ntmps102
  go_wp2
  go_ret;exact⟨aI hd.Z.symm,rfl⟩
 have q2:(a==64)=false:=by simp[c2]
 by_cases c3:a=128
 ·subst c3
  have hd:Hd (cH 128=true):=(eG _).2 (by omega);go_enter Tryz.func102,Tryz.ntmps102
  go_wp2
  go_ret;exact⟨aI hd.Z.symm,rfl⟩
 have q3:(a==128)=false:=by simp[c3]
 by_cases c4:a=192
 ·subst c4
  have hd:Hd (cH 192=true):=(eG _).2 (by omega);go_enter Tryz.func102,Tryz.ntmps102
  go_wp2
  go_ret;exact⟨aI hd.Z.symm,rfl⟩
 have q4:(a==192)=false:=by simp[c4]
 have hd:Hd (cH a=false):=lL (by omega);clear c1 c2 c3 c4;go_enter Tryz.func102,Tryz.ntmps102
 go_wp2
 go_ret;exact⟨aI hd.Z.symm,rfl⟩
theorem Nd(l g s n:Int)(p:Nat->Int):decide (aS.kz ⟨0,l,g,s,p,n⟩)=((l==0&&(s==0&&n==0))&&dw p 11):=by
 rw[Bool.eq_iff_iff,decide_eq_true_eq];unfold aS.kz;simp only[Bool.and_eq_true,beq_iff_eq];constructor
 ·rintro(⟨_,h1,h2,h3,h4⟩|⟨h,_⟩|⟨h,_⟩)
  ·exact⟨⟨h1,h2,h3⟩,h4⟩
  ·omega
  omega
 rintro⟨⟨h1,h2,h3⟩,h4⟩;exact .inl ⟨trivial,h1,h2,h3,h4⟩
theorem MX(l g s n:Int)(p:Nat->Int)(w:World):
  Calls Tryz.prog 103 #[(aS.mk 0 l g s p n).val] w λe w'=>e= .returned (.bool (decide (aS.kz ⟨0,l,g,s,p,n⟩)))/\Below w.heap.size w w':=by
 rw[Nd];dsimp only[aS.val];generalize hb0:(l==0&&(s==0&&n==0))=b0;have pK:=ah hb0;clear hb0;have h00:Hd (dw p 0=true):=rfl;have fin:∀t,Hd (Below w.heap.size w (w.alloc t)):=λt=>ag.alloc af _
 have VK:Hd (∀k,k<11->(w.alloc (.cells (aS.mk 0 l g s p n).arr 63)).cell? ⟨w.heap.size,4+k,none⟩=some (.int .u32 (p k))):=λk hk=>
  bs.ptr (x:=aS.mk 0 l g s p n) (T:=63) (heap_alloc_new w _) k hk
 have start:(l==0)=true/\(s==0)=true/\(n==0)=true/\b0=true\/(l==0)=false/\b0=false\/(l==0)=true/\(s==0)=false/\b0=false\/(l==0)=true/\(s==0)=true/\(n==0)=false/\b0=false:=by
  have:=pK.Z;cases h1:(l==0)<;>cases h2:(s==0)<;>cases h3:(n==0)<;>rw[h1,h2,h3] at this<;>simp[<-this]
 rcases start with⟨q1,q2,q3,hb⟩|⟨q1,hb⟩|⟨q1,q2,hb⟩|⟨q1,q2,q3,hb⟩
 all_goals
  subst hb;clear pK;go_enter Tryz.func103,Tryz.ntmps103
  go_wp2
  go_loop [3,4] (λu i=>∃k:Nat,k<=11/\i= .int .i64 (k:Int)/\∃b:Bool,Hd (b=(_&&dw p k))/\u= .bool b) (λ_ i=>11-(intOf i).toNat)
  case atStart=>exact⟨0,by omega,rfl,_,(by first|(exact(Bool.true_and _).symm)|(exact(Bool.false_and _).symm)),rfl⟩
  obtain⟨k,hk,rfl,b,hb,rfl⟩:=hrel
  by_cases hlt:k<11
  ·have hc:=VK.Z k hlt
   dsimp only[aS.arr] at hc;cases b with
   |false=>
    go_wp2
    go_round
    case rel=>exact⟨k+1,by omega,by go_num,_,(by show _=_;rw[iE,<-Bool.and_assoc,<-hb.Z];rfl),rfl⟩
    simp[intOf];omega
   |true=>
    by_cases hp:p k=0
    ·have q:(p k==0)=true:=by simp[hp]
     have HP:=ah hp;clear hp
     go_wp2
     all_goals
      go_round
      case rel=>exact⟨k+1,by omega,by go_num,_,(by show _=_;rw[iE,<-Bool.and_assoc,<-hb.Z,HP.Z];rfl),rfl⟩
      simp[intOf];omega
    have q:(p k==0)=false:=by simp[hp]
    have HP:Hd (decide (p k=0)=false):=by show _=_;simp[hp]
    clear hp
    go_wp2
    all_goals
     go_round
     case rel=>exact⟨k+1,by omega,by go_num,_,(by show _=_;rw[iE,<-Bool.and_assoc,<-hb.Z,HP.Z];rfl),rfl⟩
     simp[intOf];omega
  obtain rfl:k=11:=by omega
  go_wp2
  go_ret;exact⟨aI hb.Z,(fin _).Z⟩
theorem rj(x:aS)(hx:x.Ok)(w:World):
  Calls Tryz.prog 103 #[x.val] w λe w'=>e= .returned (.bool (decide x.kz))/\Below w.heap.size w w':=by
 obtain⟨k,l,g,s,p,n⟩:=x;obtain⟨⟨ku,hk1⟩,⟨hl0,hl1⟩,_,⟨hs0,hs1⟩,_,_⟩:=hx;dsimp only at ku hk1 hl0 hl1 hs0 hs1;have fin:∀t,Hd (Below w.heap.size w (w.alloc t)):=λt=>ag.alloc af _
 by_cases k0:k=0
 ·subst k0
  exact MX l g s n p w
 dsimp only[aS.val];generalize hD':decide (aS.kz ⟨k,l,g,s,p,n⟩)=D;have hD:=ah hD';clear hD';have q0:(k==0)=false:=by simp[k0]
 by_cases k1:k=1
 ·subst k1
  by_cases c1:0<=l
  ·by_cases c2:l<=1000
   ·by_cases c3:0<=s
    ·by_cases c4:s<=16777216
     ·have HD:Hd (D=true):=by show D=true;rw[<-hD.Z,ml];simp;omega
      go_enter Tryz.func103,Tryz.ntmps103
      go_wp2
      go_ret;exact⟨aI HD.Z.symm,(fin _).Z⟩
     have HD:Hd (D=false):=by show D=false;rw[<-hD.Z,ml];simp;omega
     go_enter Tryz.func103,Tryz.ntmps103
     go_wp2
     go_ret;exact⟨aI HD.Z.symm,(fin _).Z⟩
    have HD:Hd (D=false):=by show D=false;rw[<-hD.Z,ml];simp;omega
    go_enter Tryz.func103,Tryz.ntmps103
    go_wp2
    go_ret;exact⟨aI HD.Z.symm,(fin _).Z⟩
   have HD:Hd (D=false):=by show D=false;rw[<-hD.Z,ml];simp;omega
   go_enter Tryz.func103,Tryz.ntmps103
   go_wp2
   go_ret;exact⟨aI HD.Z.symm,(fin _).Z⟩
  have HD:Hd (D=false):=by show D=false;rw[<-hD.Z,ml];simp;omega
  go_enter Tryz.func103,Tryz.ntmps103
  go_wp2
  go_ret;exact⟨aI HD.Z.symm,(fin _).Z⟩
 have q1:(k==1)=false:=by simp[k1]
 by_cases k2:k=2
 ·subst k2
  by_cases c1:l=1
  ·subst c1
   by_cases c2:0<=s
   ·by_cases c3:s<=16777216
    ·by_cases c4:s%256=0
     ·by_cases c5:n=0
      ·subst c5
       have HD:Hd (D=true):=by show D=true;rw[<-hD.Z,je];simp;omega
       have d2:(s%256==0)=true:=by simp[c4]
       clear c4;go_enter Tryz.func103,Tryz.ntmps103
       go_wp2
       go_ret;exact⟨aI HD.Z.symm,(fin _).Z⟩
      have HD:Hd (D=false):=by show D=false;rw[<-hD.Z,je];simp;omega
      have d2:(s%256==0)=true:=by simp[c4]
      have d3:(n==0)=false:=by simp[c5]
      clear c4 c5;go_enter Tryz.func103,Tryz.ntmps103
      go_wp2
      go_ret;exact⟨aI HD.Z.symm,(fin _).Z⟩
     have HD:Hd (D=false):=by show D=false;rw[<-hD.Z,je];simp;omega
     have d2:(s%256==0)=false:=by simp[c4]
     clear c4;go_enter Tryz.func103,Tryz.ntmps103
     go_wp2
     go_ret;exact⟨aI HD.Z.symm,(fin _).Z⟩
    have HD:Hd (D=false):=by show D=false;rw[<-hD.Z,je];simp;omega
    go_enter Tryz.func103,Tryz.ntmps103
    go_wp2
    go_ret;exact⟨aI HD.Z.symm,(fin _).Z⟩
   have HD:Hd (D=false):=by show D=false;rw[<-hD.Z,je];simp;omega
   go_enter Tryz.func103,Tryz.ntmps103
   go_wp2
   go_ret;exact⟨aI HD.Z.symm,(fin _).Z⟩
  have HD:Hd (D=false):=by show D=false;rw[<-hD.Z,je];simp;omega
  have d1:(l==1)=false:=by simp[c1]
  clear c1;go_enter Tryz.func103,Tryz.ntmps103
  go_wp2
  go_ret;exact⟨aI HD.Z.symm,(fin _).Z⟩
 have q2:(k==2)=false:=by simp[k2]
 have HD:Hd (D=false):=by show D=false;rw[<-hD.Z];exact LC _ _ _ _ _ _ (by omega)
 go_enter Tryz.func103,Tryz.ntmps103
 go_wp2
 go_ret;exact⟨aI HD.Z.symm,(fin _).Z⟩
structure Bh(w:World)(z:Nat->Int)(x:aS)(W:World):Prop where
 b:aU W w.heap.size 32 256 z
 i:bs W (w.heap.size+1) 63 x
 r:aU W (w.heap.size+1+1) 32 256 (λ_=>0)
 bel:Below w.heap.size w W
theorem nG(w:World)(z:Nat->Int)(x:aS):Bh w z x (((w.alloc (.cells (Ks .u8 256 z).toArray 32)).alloc (.cells x.arr 63)).alloc (.cells (Ks .u8 256 (λ_=>0)).toArray 32)):=by
 refine⟨((aU.new _ _ _ _).alloc _).alloc _,?_,?_,((ag.alloc af _).alloc (by simp) _).alloc (by simp;omega) _⟩
 ·have:bs ((w.alloc (.cells (Ks .u8 256 z).toArray 32)).alloc (.cells x.arr 63)) (w.heap.size+1) 63 x:=by
   have:=heap_alloc_new (w.alloc (.cells (Ks .u8 256 z).toArray 32)) (.cells x.arr 63);simp only[World.size_alloc] at this;exact this
  exact eh this _
 have:=aU.new ((w.alloc (.cells (Ks .u8 256 z).toArray 32)).alloc (.cells x.arr 63)) 32 256 (λ_=>0);simp only[World.size_alloc] at this;exact this
theorem Jc(z:Nat->Int)(a:Int)(x:aS)(hx:x.Ok)(w:World)(hno:nM a x=false):
  Calls Tryz.prog 63 #[aR z,.int .i64 a,x.val] w λe w'=>e= .returned (.tuple #[aR z,.int .i64 (j3 a x)])/\Below w.heap.size w w':=by
 have hal:=cW;have cY:=ah hno;clear hno;go_enter Tryz.func63,Tryz.ntmps63;go_wp2_with fail;refine((mz a _).mono (R':=λe w'=>e= .returned (.bool (cH a))/\Bh w z x w') (λe w' h=>⟨h.1,h.2▸nG w z x⟩)).mono ?_;rintro e w1 ⟨rfl,hf⟩;clear hal
 by_cases hp:cH a=true
 ·have hm:Hd (decide x.kz=false):=by have:=cY.Z;unfold nM at this;rw[hp,Bool.true_and] at this;exact this
  have he:Hd (j3 a x=70):=by show _=_;unfold j3;rw[hp,hm.Z];rfl
  rw[hp];clear hp cY;have hi:Hd (w1.heap[w.heap.size+1]? =some (.cells x.arr 63 (0,0))):=hf.i;have hb:=hf.bel;go_wp2_with (first|(refine wpList_load_row rfl 63 (.tmp 5) rfl (w.heap.size+1) rfl 63 x.arr (0,0) _ hi.Z Tryz.underlying63 rfl (by kernel_rfl) ?_))
  refine(rj x hx _).mono ?_;rintro e w2 ⟨rfl,hb2⟩;rw[hm.Z];have hbl:=hb2.size;have hk1:w.heap.size+1+1<w1.heap.size:=hf.r.lt;have yP:Hd (w2.heap[w.heap.size]? =some (.cells (Ks .u8 256 z).toArray 32 (0,0))):=hf.b.below hb2 (by omega);have lq:Hd (w2.heap[w.heap.size+1+1]? =some (.cells (Ks .u8 256 (λ_=>0)).toArray 32 (0,0))):=hf.r.below hb2 hk1;have hb3:Below w.heap.size w w2:=hb.trans (hb2.mono hb.size);clear hf hb hb2;go_wp2_with (first|(refine wpList_load_row rfl 32 (.tmp 3) rfl w.heap.size rfl 32 (Ks .u8 256 _).toArray (0,0) _ yP.Z Tryz.underlying32 rfl (aW _) ?_)|(refine wpList_store_row rfl 32 (.tmp 6) (.tmp 17) rfl (w.heap.size+1+1) (Ks .u8 256 z).toArray rfl rfl 32 _ lq.Z (aW _) (by rw[bE,bE]) (fF _ _ _) ?_))
  refine bodyPost_ret (bP rfl _ _ (w.heap.size+1+1) 32 (Ks .u8 256 z).toArray (0,0) _ rfl (aU.setRow (z:=λ_=>0) lq.Z z) Tryz.underlying32 rfl (aW _)) rfl ⟨?_,?_⟩
  ·rw[he.Z];rfl
  exact below_setRow hb3 (by omega) _
 rw[Bool.not_eq_true] at hp;have he:Hd (j3 a x=2):=by show _=_;unfold j3;rw[hp];rfl
 rw[hp];clear hp cY;have hk1:w.heap.size+1+1<w1.heap.size:=hf.r.lt;have yP:Hd (w1.heap[w.heap.size]? =some (.cells (Ks .u8 256 z).toArray 32 (0,0))):=hf.b;have lq:Hd (w1.heap[w.heap.size+1+1]? =some (.cells (Ks .u8 256 (λ_=>0)).toArray 32 (0,0))):=hf.r;have hb3:=hf.bel;clear hf;go_wp2_with (first|(refine wpList_load_row rfl 32 (.tmp 3) rfl w.heap.size rfl 32 (Ks .u8 256 _).toArray (0,0) _ yP.Z Tryz.underlying32 rfl (aW _) ?_)|(refine wpList_store_row rfl 32 (.tmp 6) (.tmp 13) rfl (w.heap.size+1+1) (Ks .u8 256 z).toArray rfl rfl 32 _ lq.Z (aW _) (by rw[bE,bE]) (fF _ _ _) ?_))
 refine bodyPost_ret (bP rfl _ _ (w.heap.size+1+1) 32 (Ks .u8 256 z).toArray (0,0) _ rfl (aU.setRow (z:=λ_=>0) lq.Z z) Tryz.underlying32 rfl (aW _)) rfl ⟨?_,?_⟩
 ·rw[he.Z];rfl
 exact below_setRow hb3 (by omega) _
theorem xV(z:Nat->Int)(hz:bu z)(a:Int)(x:aS)(hx:x.Ok)(w:World)(hok:nM a x=true):
  Calls Tryz.prog 63 #[aR z,.int .i64 a,x.val] w λe w'=>e= .returned (.tuple #[aR (over z a.toNat 64 x.byte),.int .i64 0])/\Below w.heap.size w w':=by
 unfold nM at hok;rw[Bool.and_eq_true] at hok;obtain⟨hp,hm⟩:=hok;have hpl:=(eG a).1 hp;have eS:x.kz:=of_decide_eq_true hm;obtain⟨hsz,hlk,fV⟩:=aS.mK eS;have HP:=ah hp;have HM:=ah hm;have ha0:0<=a:=by omega
 have ha1:a<=192:=by omega
 clear hp hm hpl;obtain⟨i,rfl⟩:=Int.eq_ofNat_of_zero_le ha0;obtain⟨hl0,hl1⟩:=hlk;obtain⟨hs0,hs1⟩:=hsz;have hsa:=λg W=>bw g 0 W
 have hal:=cW;go_enter Tryz.func63,Tryz.ntmps63;go_wp2_with fail;refine((mz (i:Int) _).mono (R':=λe w'=>e= .returned (.bool (cH (i:Int)))/\Bh w z x w') (λe w' h=>⟨h.1,h.2▸nG w z x⟩)).mono ?_;rintro e w1 ⟨rfl,hf⟩;rw[HP.Z];clear hal;have hi:Hd (w1.heap[w.heap.size+1]? =some (.cells x.arr 63 (0,0))):=hf.i;go_wp2_with (first|(refine wpList_load_row rfl 63 (.tmp 5) rfl (w.heap.size+1) rfl 63 x.arr (0,0) _ hi.Z Tryz.underlying63 rfl (by kernel_rfl) ?_))
 refine(rj x hx _).mono ?_;rintro e w2 ⟨rfl,hb2⟩;rw[HM.Z];have hk1:w.heap.size+1+1<w1.heap.size:=hf.r.lt;have yP:aU w2 w.heap.size 32 256 z:=hf.b.below hb2 (by omega);have lq:aU w2 (w.heap.size+1+1) 32 256 (λ_=>0):=hf.r.below hb2 hk1;have ZV:bs w2 (w.heap.size+1) 63 x:=hf.i.below hb2 (by omega);have hb3:Below w.heap.size w w2:=hf.bel.trans (hb2.mono hf.bel.size);clear hf hb2 hi hk1;go_wp2_with fail;go_loopw [8] (λu wr=>∃k:Nat,k<=64/\u= .int .i64 (k:Int)/\gj w.heap.size i k (λ_=>0) w2 wr) (λu _=>64-(intOf u).toNat)
 case atStart=>exact⟨0,by omega,rfl,gj.nil _ _ _ _⟩
 obtain⟨k,hk,rfl,hp⟩:=hrel
 by_cases hlt:k<64
 ·have hcw:=yP.bQ (i+k) (by omega)
  have hc:wr.cell? ⟨w.heap.size,i+k,none⟩=some (.int .u8 (z (i+k))):=by
   have:=hp.cell (i+k);rw[if_neg (by omega)] at this;rw[this,<-hcw,Nat.zero_add]
  have Ik:wr.frozen? ⟨w.heap.size,i+k,none⟩=false:=by rw[hp.only.frozen];exact an yP _
  have Ym:=ah hcw;clear hcw;go_wp2_with fail;go_roundw
  case rel=>exact⟨k+1,by omega,by go_num,hp.snoc (by have:=Ym.Z;rwa[Nat.zero_add] at this) rfl⟩
  simp[intOf];omega
 obtain rfl:k=64:=by omega
 have It:=yP.kD hp;have yO:aU wr (w.heap.size+1+1) 32 256 (λ_=>0):=lq.only hp.only (by omega);have Xg:bs wr (w.heap.size+1) 63 x:=ZV.only hp.only (by omega);have hb4:Below w.heap.size w wr:=hb3.trans (hp.only.below af);clear hp yP lq ZV hb3;have c2:wr.cell? ⟨w.heap.size+1,0,none⟩=some (.int .u8 x.kind):=Xg.cell (i:=0) rfl;have c3:wr.cell? ⟨w.heap.size,i,none⟩=some (.int .u8 (over z i 64 (λ_=>0) i)):=by have:=It.bQ i (by omega);rwa[Nat.zero_add] at this
 have f3:wr.frozen? ⟨w.heap.size,i,none⟩=false:=an It i;have hB4:=It.setCell i x.kind (by omega);have hO:=az.setCell wr ⟨w.heap.size,i,none⟩ (.int .u8 x.kind);have LU:aU (wr.setCell ⟨w.heap.size,i,none⟩ (.int .u8 x.kind)) (w.heap.size+1+1) 32 256 (λ_=>0):=yO.only hO (by simp;omega);have Of:bs (wr.setCell ⟨w.heap.size,i,none⟩ (.int .u8 x.kind)) (w.heap.size+1) 63 x:=Xg.only hO (by simp);have om:Below w.heap.size w (wr.setCell ⟨w.heap.size,i,none⟩ (.int .u8 x.kind)):=hb4.trans (hO.below af);have d2:(wr.setCell ⟨w.heap.size,i,none⟩ (.int .u8 x.kind)).cell? ⟨w.heap.size+1,1,none⟩=some (.int .i64 x.aQ):=Of.cell (i:=1) rfl;go_wp2_with fail;generalize wr.setCell ⟨w.heap.size,i,none⟩ (.int .u8 x.kind)=W4 at hB4 LU Of om d2 ⊢;clear hO c2 c3 f3 It yO Xg hb4;have YV:bu (over (over z i 64 λ_=>0) i 1 λ_=>x.kind):=eO (eO hz (λ_=>⟨by simp,by simp⟩) _ _) (λ_=>⟨by show 0<=x.kind;omega,by show x.kind<256;omega⟩) _ _;have e1:IntKind.i64.wrap ((i:Int)+2)=(i:Int)+2:=IntWalk.i64_in _ (by omega);have e2:IntKind.u32.wrap x.aQ=x.aQ:=IntWalk.u32_in _ (by omega)
 go_still_tail 6,(by kernel_rfl)
 go_wp2_with fail;refine(re w.heap.size 0 256 _ ((i:Int)+2) x.aQ _ _ (by omega) (by omega) (by omega) hl0 (by omega) (by exact hB4.bQ) YV (by exact hB4.soft 0 256)).mono ?_;rintro e w5 ⟨rfl,Ph⟩;rw[show 0+((i:Int)+2).toNat=i+2 by omega] at Ph;have Is:aU w5 w.heap.size 32 256 _:=aU.kD (w:=W4.drew) hB4 Ph;have ZJ:aU w5 (w.heap.size+1+1) 32 256 (λ_=>0):=aU.only (w:=W4.drew) LU Ph.only (by omega);have Xf:bs w5 (w.heap.size+1) 63 x:=bs.only (w:=W4.drew) Of Ph.only (by omega);have m4:Below w.heap.size w w5:=om.drew.trans (Ph.only.below af);have Is:=Is.congr (λj _=>x.z6 z i j);clear Ph hB4 LU Of om d2 YV e1 e2;have hzs:Hd (∀m,bu (over z i 64 (x.jA m))):=λm=>eO hz (aS.uN hx fV m) _ _
 have QK:=hzs.Z 0;have d3:w5.cell? ⟨w.heap.size+1,2,none⟩=some (.int .u32 x.gen):=Xf.cell (i:=2) rfl;have Wo:=hx.gen;go_wp2_with fail;have e1:IntKind.i64.wrap ((i:Int)+4)=(i:Int)+4:=IntWalk.i64_in _ (by omega)
 go_still_tail 5,(by kernel_rfl)
 go_wp2_with fail;refine(dm w.heap.size 0 256 _ ((i:Int)+4) x.gen _ _ (by omega) (by omega) (by omega) (by omega) (by omega) (by exact Is.bQ) QK (by exact Is.soft 0 256)).mono ?_;rintro e w6 ⟨rfl,xi⟩;rw[show 0+((i:Int)+4).toNat=i+(4+4*0) by omega] at xi;have lr:aU w6 w.heap.size 32 256 _:=aU.kD (w:=w5.drew) Is xi;have Ka:aU w6 (w.heap.size+1+1) 32 256 (λ_=>0):=aU.only (w:=w5.drew) ZJ xi.only (by omega);have Xe:bs w6 (w.heap.size+1) 63 x:=bs.only (w:=w5.drew) Xf xi.only (by omega);have wC:Below w.heap.size w w6:=m4.drew.trans (xi.only.below af);have lr:=lr.congr (λj _=>x.jU z i 0 (by omega) j);clear xi Is ZJ Xf m4 d3 e1 Wo QK;have QJ:=hzs.Z 1;have d4:w6.cell? ⟨w.heap.size+1,3,none⟩=some (.int .i64 x.size):=Xe.cell (i:=3) rfl;go_wp2_with fail;have e1:IntKind.i64.wrap ((i:Int)+8)=(i:Int)+8:=IntWalk.i64_in _ (by omega);have e2:IntKind.u32.wrap x.size=x.size:=IntWalk.u32_in _ (by omega)
 go_still_tail 6,(by kernel_rfl)
 go_wp2_with fail;refine(dm w.heap.size 0 256 _ ((i:Int)+8) x.size _ _ (by omega) (by omega) (by omega) (by omega) (by omega) (by exact lr.bQ) QJ (by exact lr.soft 0 256)).mono ?_;rintro e w7 ⟨rfl,Pg⟩;rw[show 0+((i:Int)+8).toNat=i+(4+4*1) by omega] at Pg;have Oh:aU w7 w.heap.size 32 256 _:=aU.kD (w:=w6.drew) lr Pg;have Pv:aU w7 (w.heap.size+1+1) 32 256 (λ_=>0):=aU.only (w:=w6.drew) Ka Pg.only (by omega);have ZU:bs w7 (w.heap.size+1) 63 x:=bs.only (w:=w6.drew) Xe Pg.only (by omega);have oh:Below w.heap.size w w7:=wC.drew.trans (Pg.only.below af);have Oh:=Oh.congr (λj _=>x.jU z i 1 (by omega) j);clear Pg lr Ka Xe wC d4 e1 e2 QJ;go_wp2_with fail;clear Is lr;go_loopw [9] (λu wr=>∃k:Nat,k<=11/\u= .int .i64 (k:Int)/\aU wr w.heap.size 32 256 (over z i 64 (x.jA (k+2)))/\aU wr (w.heap.size+1+1) 32 256 (λ_=>0)/\bs wr (w.heap.size+1) 63 x/\Below w.heap.size w wr) (λu _=>11-(intOf u).toNat)
 case atStart=>exact⟨0,by omega,rfl,Oh,Pv,ZU,oh⟩
 clear Oh Pv ZU oh;obtain⟨k,hk2,rfl,hB,hR,hI,hb⟩:=hrel
 by_cases kf:k<11
 ·have Tx:=hzs.Z (k+2)
  have d1:=hI.ptr k kf;have hpk:=hx.p k;have HW:Hd (x.word (k+2)=x.p k):=by show _=_;unfold aS.word;rw[if_neg (by omega),if_neg (by omega),if_pos (by omega)];rfl
  have l0:(0:Int)<=(k:Int):=by omega
  have l1:(k:Int)<11:=by omega
  go_wp2_with fail;have e1:IntKind.i64.wrap ((i:Int)+12)=(i:Int)+12:=IntWalk.i64_in _ (by omega);have e2:IntKind.i64.wrap (4*(k:Int))=4*(k:Int):=IntWalk.i64_in _ (by omega);have e3:IntKind.i64.wrap ((i:Int)+12+4*(k:Int))=(i:Int)+12+4*(k:Int):=IntWalk.i64_in _ (by omega)
  go_still_tail 10,(by kernel_rfl)
  go_wp2_with fail;refine(dm w.heap.size 0 256 _ ((i:Int)+12+4*(k:Int)) (x.p k) _ _ (by omega) (by omega) (by omega) (by omega) (by omega) (by exact hB.bQ) Tx (by exact hB.soft 0 256)).mono ?_;rintro e w8 ⟨rfl,Er⟩;rw[show 0+((i:Int)+12+4*(k:Int)).toNat=i+(4+4*(k+2)) by omega,<-HW.Z] at Er;have TT:aU w8 w.heap.size 32 256 _:=aU.kD (w:=wr.drew) hB Er;have Pu:aU w8 (w.heap.size+1+1) 32 256 (λ_=>0):=aU.only (w:=wr.drew) hR Er.only (by omega);have hI8:bs w8 (w.heap.size+1) 63 x:=bs.only (w:=wr.drew) hI Er.only (by omega);have yK:Below w.heap.size w w8:=hb.drew.trans (Er.only.below af);have Pz:=TT.congr (λj _=>x.jU z i (k+2) (by omega) j);clear Er e1 e2 e3;go_wp2_with fail;go_roundw
  case rel=>exact⟨k+1,by omega,by go_num,by rw[show k+1+2=k+2+1 by omega];exact Pz,Pu,hI8,yK⟩
  simp[intOf];omega
 obtain rfl:k=11:=by omega
 have Tx:=hzs.Z (11+2);have d1:wr.cell? ⟨w.heap.size+1,15,none⟩=some (.int .u32 x.next):=hI.cell (i:=15) rfl;have hpk:=hx.next
 go_wp2_with fail;have e1:IntKind.i64.wrap ((i:Int)+56)=(i:Int)+56:=IntWalk.i64_in _ (by omega)
 go_still_tail 5,(by kernel_rfl)
 go_wp2_with fail;refine(dm w.heap.size 0 256 _ ((i:Int)+56) x.next _ _ (by omega) (by omega) (by omega) (by omega) (by omega) (by exact hB.bQ) Tx (by exact hB.soft 0 256)).mono ?_;rintro e w8 ⟨rfl,Er⟩;rw[show 0+((i:Int)+56).toNat=i+(4+4*13) by omega] at Er;have TT:aU w8 w.heap.size 32 256 _:=aU.kD (w:=wr.drew) hB Er;have Pu:aU w8 (w.heap.size+1+1) 32 256 (λ_=>0):=aU.only (w:=wr.drew) hR Er.only (by omega);have yK:Below w.heap.size w w8:=hb.drew.trans (Er.only.below af);have Pz:=(TT.congr (λj _=>x.jU z i 13 (by omega) j)).congr (y:=over z i 64 x.byte) (λj _=>by
  by_cases hj:i<=j/\j<i+64
  ·rw[gC _ _ _ _ _ hj,gC _ _ _ _ _ hj];exact x.tR _
  rw[cJ _ _ _ _ _ (by omega),cJ _ _ _ _ _ (by omega)])
 clear Er e1 TT hB hR hI hb d1 hpk Tx hzs;have yP:Hd (w8.heap[w.heap.size]? =some (.cells (Ks .u8 256 (over z i 64 x.byte)).toArray 32 (0,0))):=Pz;have lq:Hd (w8.heap[w.heap.size+1+1]? =some (.cells (Ks .u8 256 (λ_=>0)).toArray 32 (0,0))):=Pu;clear Pz Pu;go_wp2_with (first|(refine wpList_load_row rfl 32 (.tmp 3) rfl w.heap.size rfl 32 (Ks .u8 256 (over z i 64 x.byte)).toArray (0,0) _ yP.Z Tryz.underlying32 rfl (aW _) ?_)|(refine wpList_store_row rfl 32 (.tmp 6) (.tmp 71) rfl (w.heap.size+1+1) (Ks .u8 256 (over z i 64 x.byte)).toArray rfl rfl 32 _ lq.Z (aW _) (by rw[bE,bE]) (fF _ _ _) ?_))
 refine bodyPost_ret (bP rfl _ _ (w.heap.size+1+1) 32 (Ks .u8 256 (over z i 64 x.byte)).toArray (0,0) _ rfl (aU.setRow (z:=λ_=>0) lq.Z _) Tryz.underlying32 rfl (aW _)) rfl ⟨?_,?_⟩
 ·rw[Int.toNat_natCast];rfl
 exact below_setRow yK (by omega) _
section
open Go.Shelf
theorem bs.range{x:aS}(h:bs w g T x):w.rangeAt g 0 x.arr.toList:=by
 intro j v hj;rw[Nat.zero_add];exact aF h (by simpa using hj)
theorem Fi(z:Nat->Int)(hz:bu z)(a:Int)(x:aS)(hx:x.Ok)(w:World):
  Calls Tryz.prog 63 #[aR z,.int .i64 a,x.val] w λe w'=>e= .returned (.tuple #[aR (yf z a x),.int .i64 (j3 a x)])/\Below w.heap.size w w':=by
 cases hok:nM a x with
 |true=>
  have he:j3 a x=0:=by unfold nM at hok;rw[Bool.and_eq_true] at hok;unfold j3;rw[hok.1,hok.2];rfl
  rw[he,yf,hok,if_pos rfl];exact xV z hz a x hx w hok
 |false=>
  rw[yf,hok];exact Jc z a x hx w hok
end
end Go.Proofs.YtphamecphmbipaaGreatDoor
