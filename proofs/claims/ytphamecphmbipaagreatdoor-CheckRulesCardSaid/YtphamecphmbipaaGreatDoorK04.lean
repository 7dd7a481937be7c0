/- Texts of this claim, merged. -/
import Derived.Test.YtphamecphmbipaaGreatDoorK03
import Derived.Laws.Tables
import Derived.Laws.CopyOwn
import Derived.Deep.MidRow
import Derived.Lib.SliceRun
import Derived.StillTailTactics
import Derived.Deep.RegionWith
set_option linter.unusedVariables false
set_option maxRecDepth 100000
set_option maxHeartbeats 16000000

namespace Go.Proofs.YtphamecphmbipaaGreatDoor
open Go.RowKit
open Lib (hid)
variable {w b:World} {g id i k k':Nat} {T:TypeId} {z:Nat->Int} {ops:Array Oper} {rest l:List Oper} {o:Oper} {a a':Act} {Q Q':Exit->Act->World->Prop} {S:World->Prop} {v:Value} {R:Value->World->Prop} {listed:Array Bool}
theorem bh(g o k:Nat):(⟨g,o,none⟩:Addr).add k=⟨g,o+k,none⟩:=by
 unfold Addr.add;split
 ·next h=>subst h;rfl
 ·rfl
theorem bU(g o lo hi:Nat)(L H:Int)(hL:L=(lo:Int))(hH:H=(hi:Int))(h1:lo<=hi)(h2:hi<=256)(h3:lo<256)(W:World):
  (Instr.sliceAt 32 (.pointer (some ⟨g,o,none⟩)) (some (.int .i64 L)) (some (.int .i64 H)) none).run Tryz.prog W= .ok (.slice (some ⟨g,o+lo,none⟩) (hi-lo) (256-lo)) W:=by
 subst hL hH;have hal:Tryz.prog.arrayLen 32=256:=by kernel_rfl
 have hsz:∀W,(Go.sizeOf (Tryz.prog.elem 32)).run Tryz.prog W= .ok 1 W:=λW=>by kernel_rfl
 rw[run_sliceAt_array_lh W 32 _ (by kernel_rfl) .i64 .i64 (lo:Int) (hi:Int) (by omega) (by omega) (by rw[hal];omega),hsz,hal];simp only[Result.andThen,slicedAt,Int.toNat_natCast,Nat.mul_one];rw[if_neg (by omega),bh]
theorem a7(g o:Nat)(W:World):
  (Instr.sliceAt 32 (.pointer (some ⟨g,o,none⟩)) none none none).run Tryz.prog W= .ok (.slice (some ⟨g,o,none⟩) 256 256) W:=by
 have hal:Tryz.prog.arrayLen 32=256:=by kernel_rfl
 have hsz:∀W,(Go.sizeOf (Tryz.prog.elem 32)).run Tryz.prog W= .ok 1 W:=λW=>by kernel_rfl
 rw[run_sliceAt_array_all W 32 _ (by kernel_rfl),hsz,hal];simp only[Result.andThen,slicedAt]
 rfl
abbrev aL(z:Nat->Int):Value:=.agg (Ks .u8 256 z).toArray
theorem cJ(W:World):(zeroValue 32).run Tryz.prog W= .ok (.agg (Ks .u8 256 (λ_=>0)).toArray) W:=by kernel_rfl
theorem au:(Tryz.prog.info? 32).map (·.size)=some 256:=by kernel_rfl
theorem a9(z:Nat->Int):(Tryz.prog.info? 32).map (·.size)=some (Ks .u8 256 z).toArray.size:=by rw[bK];exact au
theorem sV(z y:Nat->Int)(w:World):(binOp .eql 32 (.agg (Ks .u8 256 z).toArray) (.agg (Ks .u8 256 y).toArray)).run Tryz.prog w= .ok (.bool (me z y 256)) w:=by
 obtain⟨i,hi,_⟩:=info_parts BD;exact vf w Tryz.underlying32 hi Tryz.underlying5 (by kernel_rfl) z y
theorem sT(z y:Nat->Int)(w:World):(binOp .neq 32 (.agg (Ks .u8 256 z).toArray) (.agg (Ks .u8 256 y).toArray)).run Tryz.prog w= .ok (.bool (!me z y 256)) w:=by
 obtain⟨i,hi,_⟩:=info_parts BD;exact uY w Tryz.underlying32 hi Tryz.underlying5 (by kernel_rfl) z y
theorem aQ.range{n:Nat}(h:aQ w g T n z):w.rangeAt g 0 (Ks .u8 n z):=by
 intro j v hj;rw[Nat.zero_add];exact ay h (by simpa using hj)
theorem aQ.setRow{n:Nat}(h:aQ w g T n z)(y:Nat->Int):aQ (w.setRow g (Ks .u8 n y).toArray) g T n y:=setRow_heap w g _ _ T (0,0) h
theorem gx(w:World)(g:Nat)(cs:Array Value){old:Array Value}{t:TypeId}(h:w.heap[g]? =some (.cells old t (0,0)))(hs:cs.size=old.size):an g w (w.setRow g cs):=by
 refine⟨rfl,rfl,rfl,size_setRow _ _ _,λk hk=>setRow_other _ _ _ _ hk,λa=> ?_,λc e fr hc=> ?_⟩
 ·by_cases ha:a.block=g
  ·unfold World.frozen?
   rw[ha,h,setRow_heap w g _ cs t (0,0) h]
  ·exact World.frozen?_of_block (w:=w) (setRow_other _ _ _ _ ha)
 ·rw[h] at hc
  injection hc with hc
  injection hc with h1 h2 h3
  subst h1 h2 h3;exact⟨cs,hs,setRow_heap w g _ cs _ _ h⟩
theorem bH{P:Program}{fn:Func}{p u:Tmp}{ty:TypeId}(h:fn.results= #[.cell p ty,.tmp u])(tmps:Array Value)(w:World)(g:Nat)(t:TypeId)(cs:Array Value)(fr:Nat×Nat)(d:TypeDesc)
  (hp:tmps.getD p undef= .pointer (some ⟨g,0,none⟩)) (hg:w.heap[g]? =some (.cells cs t fr))
  (hu:P.underlying ty=some d) (hd:(match d with| .struct _| .array _ _=>true|_=>false)=true) (hi:(P.info? ty).map (·.size)=some cs.size):
  (results fn tmps).run P w= .ok (.tuple #[.agg cs,tmps.getD u undef]) w:=by
 have hp':tmps[p]?.getD undef= .pointer (some ⟨g,0,none⟩):=by simpa using hp
 simp[results,h,hp',asAddr,run_loadVar_row w g t ty cs fr d hg hu hd hi]
theorem fT(hgd:o.guard=none)(x:Operand)(ho:o.op= .load 32 x)
  (g:Nat) (z:Nat->Int) (hx:a.eval x= .pointer (some ⟨g,0,none⟩)) (hB:aQ w g 32 256 z)
  (h:wpList Tryz.prog ops Q rest (a.put o.dst (aL z)) w):wpList Tryz.prog ops Q (o::rest) a w:=
 wpList_load_row hgd 32 x ho g hx 32 (Ks .u8 256 z).toArray (0,0) _ hB Tryz.underlying32 rfl (a9 _) h
theorem a8(hgd:o.guard=none)(x y:Operand)(ho:o.op= .store 32 x y)
  (g:Nat) (z old:Nat->Int) (hx:a.eval x= .pointer (some ⟨g,0,none⟩)) (hy:a.eval y=aL z) (hB:aQ w g 32 256 old)
  (h:∀w',aQ w' g 32 256 z->an g w w'->wpList Tryz.prog ops Q rest (a.put o.dst undef) w'):wpList Tryz.prog ops Q (o::rest) a w:=
 wpList_store_row hgd 32 x y ho g (Ks .u8 256 z).toArray hx hy 32 _ hB (a9 _) (by rw[bK,bK]) (iD _ _ _) (h _ (hB.setRow z) (gx w g _ hB (by rw[bK,bK])))
theorem eU(b:Nat):∀(vs:List Value) (o:Nat) (w:World),an b w (w.setCells b o vs)
 |[],_,w=>an.refl _ _
 |v::r,o,w=>(an.setCell w ⟨b,o,none⟩ v).trans (eU b r (o+1) _)
theorem dm{a c:World}{row:Option Nat}(h:a.grownBy b row)(k:b.grownBy c row):a.grownBy c row:=
 ⟨k.os.trans h.os,k.tape.trans h.tape,k.output.trans h.output,Nat.le_trans h.size k.size,λj hj hne=>(k.block j (Nat.lt_of_lt_of_le hj h.size) hne).trans (h.block j hj hne)⟩
theorem fp{a:World}(h:an g a b):a.grownBy b (some g):=
 ⟨h.os,h.tape,h.output,Nat.le_of_eq h.size.symm,λj _ hne=>h.block j (λe=>hne (by rw[e]))⟩
theorem bq{a:World}{row:Option Nat}(h:Below a.heap.size a b):a.grownBy b row:=⟨h.os,h.tape,h.output,h.size,λj hj _=>h.block j hj⟩
theorem rO{a:World}{row:Option Nat}{B:Nat}(h:a.grownBy b row)(hB:B<=a.heap.size)(hr:∀k,row=some k->B<=k):Below B a b:=(Below.refl B a).grown h hB hr
section
variable {P:Program}
structure aT(S:World->Prop)where
 W:World
 h:S W
def RX(S:World->Prop)(w':World):Prop:=∃s:aT S,w'=s.W
theorem RX.out(h:RX S w):S w:=by obtain⟨s,rfl⟩:=h;exact s.h
theorem ai(S:World->Prop)(hm:P.follows .mixedOrders=true)(hB:Region.lexB .any l.toArray=true)(hS:S {w with drawn:=w.drawn+1})
  (h:Nonempty (aT S)->wpQuiet P l.toArray (λw'=>∃s:aT S,w'=s.W) (λa'=>∀w',RX S w'->Q .normal a' w') l a):(Code.region id l.toArray true).wp P Q a w:=
 wp_region_quiet (C:=λw'=>∃s:aT S,w'=s.W) hm hB ⟨⟨_,hS⟩,rfl⟩ (h ⟨⟨_,hS⟩⟩)
theorem aG{f:FuncId}{args:Array Value}(s:aT S)(h:∀W,S W->Calls P f args W λe w'=>e= .returned v/\S w'):Calls P f args s.W λe w'=>e= .returned v/\∃s':aT S,w'=s'.W:=
 (h s.W s.h).mono λe w' hh=>⟨hh.1,⟨w',hh.2⟩,rfl⟩
theorem aH{Q:Act->Prop}(hw:Region.wanted o (yielded ops a.tmps)=true)(ty:TypeId)(x:Operand)(ho:o.op= .load ty x)
  (b off:Nat) (hx:a.eval x= .pointer (some ⟨b,off,none⟩)) (cs:List Value) (d:TypeDesc) (hS:∀w,S w->w.rangeAt b off cs)
  (hu:P.underlying ty=some d) (hd:d.isRow=true) (hi:(P.info? ty).map (·.size)=some cs.length)
  (h:wpQuiet P ops (λw'=>∃s:aT S,w'=s.W) Q rest (a.put o.dst (.agg cs.toArray))):wpQuiet P ops (λw'=>∃s:aT S,w'=s.W) Q (o::rest) a:=by
 refine wpQuiet_step λK hK=> ?_
 rw[if_pos hw];refine⟨.agg cs.toArray,λw hw'=> ?_,hK _ h⟩;obtain⟨s,rfl⟩:=hw';unfold Oper.quietAt execOp;simp only[ho,hx,Instr.loadAt,Instr.sureAddr,Sem.run_bind,Sem.run_pure,Result.andThen_ok,run_loadVar_mid s.W b off ty cs d (hS s.W s.h) hu hd hi];exact⟨rfl,rfl⟩
theorem PS{Q:Act->Prop}(hw:Region.wanted o (yielded ops a.tmps)=true)(v:Value)(hr:∀W,(execOp a.eval o).run P W= .ok (.value v) W)
  (h:wpQuiet P ops (λw'=>∃s:aT S,w'=s.W) Q rest (a.put o.dst v)):wpQuiet P ops (λw'=>∃s:aT S,w'=s.W) Q (o::rest) a:=by
 refine wpQuiet_step λK hK=> ?_
 rw[if_pos hw];refine⟨v,λw _=> ?_,hK _ h⟩;unfold Oper.quietAt;rw[hr];exact⟨rfl,rfl⟩
theorem ae{C:World->Prop}{Q:Act->Prop}(h:wpQuiet P ops C Q l a')(e:a=a':=by simp only[Act.put,List.setIfInBounds_toArray,List.set_cons_succ,List.set_cons_zero];exact rfl):wpQuiet P ops C Q l a:=e▸h
end
namespace Mv
structure St where
 n:Nat
 v:Value
def eZ(o:Oper):Bool:=match o.op with| .move _| .assign _| .pick _ _ _| .build _ _| .load _ _| .binOp _ _ _ _ _| .unOp _ _ _| .convert _ _ _| .fieldAddr _ _ _| .field _ _ _| .indexAddr _ _ _| .index _ _ _| .extract _ _| .slice _ _ _ _ _=>true|_=>false
def mv(o:Oper):Bool:=!eZ o
section
variable {P:Program} {ops:Array Oper} {md:Region.Mode} {σ:Type} {C:σ->World->Prop}
def stillUpon(w:World)(v:Value):Result Next->Prop
 | .ok (.value u) w'=>w'=w/\u=v
 | .ok .skip w'=>w'=w/\v=undef
 |_=>False
def cH(P:Program)(R:Value->World->Prop):Result Next->Prop
 | .ok (.value u) w'=>R u w'
 | .ok .skip w'=>R undef w'
 | .ok (.enter f args) w'=>Calls P f args w' λe w''=>∃v,e= .returned v/\R v w''
 |_=>False
theorem ep{R':Value->World->Prop}(h:∀v w,R v w->R' v w){r:Result Next}(hr:cH P R r):cH P R' r:=by
 unfold cH at*;split at hr
 ·exact h _ _ hr
 ·exact h _ _ hr
 ·exact hr.mono λe w' hh=>by obtain⟨v,he,hR⟩:=hh;exact⟨v,he,h _ _ hR⟩
 ·exact hr
theorem kP{r:Result Next}(hr:cH P R r)(hex:∀f args w (R':Ending->World->Prop),Calls P f args w R'->∃e w',R' e w'):∃v w,R v w:=by
 unfold cH at hr;split at hr
 ·exact⟨_,_,hr⟩
 ·exact⟨_,_,hr⟩
 ·obtain⟨e,w',v,_,hR⟩:=hex _ _ _ _ hr;exact⟨v,w',hR⟩
 ·exact hr.elim
def fA(P:Program)(C:σ->World->Prop)(o:Oper)(a:Act)(v:Value):Prop:=∀w,(∃s,C s w)->stillUpon w v ((execOp a.eval o).run P w)
def MD(P:Program)(C:σ->World->Prop)(s:σ)(o:Oper)(a:Act)(K:σ->Value->Prop):Prop:=∀w,C s w->cH P (λv w'=>∃s',C s' w'/\K s' v) ((execOp a.eval o).run P w)
def LX(P:Program)(ops:Array Oper)(C:σ->World->Prop)(o:Oper)(a:Act)(s:σ)(K:σ->Act->Prop):Prop:=
 (Region.wanted o (yielded ops a.tmps)=true/\((mv o=true/\MD P C s o a (λs' v=>K s' (a.put o.dst v)))\/(mv o=false/\∃v,fA P C o a v/\K s (a.put o.dst v))))\/
 (Region.wanted o (yielded ops a.tmps)=false/\K s (a.put o.dst undef))
theorem xu{u:Value}{s:σ}(hC:C s w)(h:fA P C o a u)(k:fA P C o a v):u=v:=by
 have h1:=h w ⟨s,hC⟩;have h2:=k w ⟨s,hC⟩;generalize (execOp a.eval o).run P w=r at*;cases r with
 |ok n w'=>
  cases n<;>simp only[stillUpon] at h1 h2
  ·exact h1.2.symm.trans h2.2
  ·exact h1.2.trans h2.2.symm
 |halt x w'=>simp only[stillUpon] at h1
def dE(P:Program)(ops:Array Oper)(C:σ->World->Prop)(i:Nat)(K:σ->Act->Prop)(s:σ)(a:Act):Prop:=
 match ops[i]? with
 |none=>K s a
 |some o=>LX P ops C o a s K
def wpAnyL(P:Program)(md:Region.Mode)(ops:Array Oper)(C:σ->World->Prop)(Q:σ->Act->Prop):Nat->Array Bool->σ->Act->Prop
 |0,listed,s,a=>Region.ready md ops listed=[]/\Q s a
 |fuel+1,listed,s,a=>(Region.ready md ops listed=[]->Q s a)/\∀i∈Region.ready md ops listed,dE P ops C i (wpAnyL P md ops C Q fuel (listed.setIfInBounds i true)) s a
def NE(C:σ->World->Prop)(s:σ):Prop:=∃w,C s w
theorem LX.mono{s:σ}{K K':σ->Act->Prop}(hs:NE C s)(h:∀s a,NE C s->K s a->K' s a)(hh:LX P ops C o a s K):LX P ops C o a s K':=by
 rcases hh with⟨hw,⟨hm,hk⟩|⟨hm,v,hv,hk⟩⟩|⟨hw,hk⟩
 ·exact .inl ⟨hw,.inl ⟨hm,λw hC=>ep (λv w' hh=>by obtain⟨s',h1,h2⟩:=hh;exact⟨s',h1,h _ _ ⟨_,h1⟩ h2⟩) (hk w hC)⟩⟩
 ·exact .inl ⟨hw,.inr ⟨hm,v,hv,h _ _ hs hk⟩⟩
 ·exact .inr ⟨hw,h _ _ hs hk⟩
theorem Af{s:σ}{K K':σ->Act->Prop}(hs:NE C s)(h:∀s a,NE C s->K s a->K' s a)(hh:dE P ops C i K s a):dE P ops C i K' s a:=by
 unfold dE at*;cases ho:ops[i]? with
 |none=>rw[ho] at hh;exact h _ _ hs hh
 |some o=>rw[ho] at hh;exact LX.mono hs h hh
theorem oN{s:σ}{K:σ->Act->Prop}{K':Act->World->Prop}(hC:C s w)(h:∀s a w',C s w'->K s a->K' a w')(hh:dE P ops C i K s a):wpOp P ops Q' i K' a w:=by
 unfold dE at hh;unfold wpOp;split
 ·rename_i ho;simp only[ho] at hh;exact h _ _ _ hC hh
 ·rename_i o ho
  simp only[ho] at hh;rcases hh with⟨hw,hy⟩|⟨hw,hk⟩
  ·simp only[hw,if_true]
   refine .inl ?_;unfold Oper.wp;rcases hy with⟨_,hk⟩|⟨_,v,hs,hk⟩
   ·have h3:=hk w hC
    generalize (execOp a.eval o).run P w=r at*;cases r with
    |ok n w'=>
     cases n<;>simp only[cH] at h3<;>simp only[Oper.upon]
     ·obtain⟨s',h4,h5⟩:=h3;exact h _ _ _ h4 h5
     ·obtain⟨s',h4,h5⟩:=h3;exact h _ _ _ h4 h5
     ·exact h3.mono λe w'' ⟨v,he,s',h4,h5⟩=>by subst he;exact h _ _ _ h4 h5
    |halt x w'=>simp only[cH] at h3
   ·have h3:=hs w ⟨_,hC⟩
    generalize (execOp a.eval o).run P w=r at*;cases r with
    |ok n w'=>
     cases n<;>simp only[stillUpon] at h3<;>simp only[Oper.upon]
     ·obtain⟨rfl,rfl⟩:=h3;exact h _ _ _ hC hk
     ·obtain⟨rfl,rfl⟩:=h3;exact h _ _ _ hC hk
    |halt x w'=>simp only[stillUpon] at h3
  ·simp only[hw];exact h _ _ _ hC hk
theorem m4{Q:σ->Act->Prop}(hQ:∀s a w,C s w->Q s a->Q' .normal a w):∀(fuel:Nat) (listed:Array Bool) (s:σ) (a:Act) (w:World),C s w->
  wpAnyL P md ops C Q fuel listed s a->wpAny P md ops Q' fuel listed a w
 |0,_,_,_,_,hw,h=>⟨h.1,hQ _ _ _ hw h.2⟩
 |fuel+1,_,_,_,_,hw,h=>⟨λh0=>hQ _ _ _ hw (h.1 h0),λi hi=>oN hw (λs' a' w' hw'=>m4 hQ fuel _ s' a' w' hw') (h.2 i hi)⟩
theorem LX.dE{s:σ}(hi:ops[i]? =some o){K:σ->Act->Prop}(h:LX P ops C o a s K):dE P ops C i K s a:=by
 unfold Mv.dE;simp only[hi];exact h
theorem Dd(hex:∀f args w (R':Ending->World->Prop),Calls P f args w R'->∃e w',R' e w'){j:Nat}{oi oj:Oper}(hj:ops[j]? =some oj)(hap:oi.apart ops oj=true)
  (hsi:∀cs b,oi.op≠ .select cs b) (hsj:∀cs b,oj.op≠ .select cs b) (hcc:mv oi=false\/mv oj=false) {K:σ->Act->Prop} {a:Act} {s:σ} (hne:NE C s)
  (h:LX P ops C oi a s (λs1 a1=>dE P ops C j K s1 a1)):dE P ops C j (λs' a'=>LX P ops C oi a' s' K) s a:=by
 obtain⟨h1,h2,h3⟩:=Oper.apart_spec hap;have ei:∀u:Value,execOp (a.put oj.dst u).eval oi=execOp a.eval oi:=λu=>execOp_put oi hsi a oj.dst u h3
 have wi:∀u:Value,Region.wanted oi (yielded ops (a.put oj.dst u).tmps)=Region.wanted oi (yielded ops a.tmps):=λu=>wanted_put oi a oj.dst u h3
 have ej:∀v:Value,execOp (a.put oi.dst v).eval oj=execOp a.eval oj:=λv=>execOp_put oj hsj a oi.dst v h1
 have wj:∀v:Value,Region.wanted oj (yielded ops (a.put oi.dst v).tmps)=Region.wanted oj (yielded ops a.tmps):=λv=>wanted_put oj a oi.dst v h1
 have cm:∀u v:Value,(a.put oi.dst v).put oj.dst u=(a.put oj.dst u).put oi.dst v:=λu v=>Act.put_comm a v u h2
 have sj:∀u v:Value,fA P C oj (a.put oi.dst v) u->fA P C oj a u:=λu v hs=>by unfold fA at*;rw[ej] at hs;exact hs
 have si:∀u v:Value,fA P C oi a v->fA P C oi (a.put oj.dst u) v:=λu v hs=>by unfold fA at*;rw[ei];exact hs
 unfold Mv.dE at*;simp only[hj] at*;obtain⟨w0,NN⟩:=hne;rcases h with⟨hw,⟨hm,hk⟩|⟨hm,v,hv,hk⟩⟩|⟨hw,hk⟩
 ·
  have Vr:mv oj=false:=by
   rcases hcc with h|h
   ·rw[hm] at h;cases h
   ·exact h
  obtain⟨v0,w0',s0',ad8,tZ⟩:=kP (hk w0 NN) hex;rcases tZ with⟨rF,⟨hm2,_⟩|⟨_,u,hu,_⟩⟩|⟨rF,_⟩
  ·rw[Vr] at hm2;cases hm2
  ·rw[wj] at rF
   have hu':=sj u v0 hu;refine .inl ⟨rF,.inr ⟨Vr,u,hu',.inl ⟨by rw[wi];exact hw,.inl ⟨hm,λw hC=> ?_⟩⟩⟩⟩;rw[ei];refine ep (λv w' hh=> ?_) (hk w hC);obtain⟨s',JM,hL⟩:=hh;refine⟨s',JM,?_⟩;rcases hL with⟨Dq,⟨hm2,_⟩|⟨_,u2,hu2,hK2⟩⟩|⟨Dq,_⟩
   ·rw[Vr] at hm2;cases hm2
   ·have:u2=u:=xu hC (sj u2 v hu2) hu'
    subst this;rw[<-cm];exact hK2
   ·rw[wj,rF] at Dq;cases Dq
  ·rw[wj] at rF
   refine .inr ⟨rF,.inl ⟨by rw[wi];exact hw,.inl ⟨hm,λw hC=> ?_⟩⟩⟩;rw[ei];refine ep (λv w' hh=> ?_) (hk w hC);obtain⟨s',JM,hL⟩:=hh;refine⟨s',JM,?_⟩;rcases hL with⟨Dq,_⟩|⟨_,hK2⟩
   ·rw[wj,rF] at Dq;cases Dq
   ·rw[<-cm];exact hK2
 ·
  rcases hk with⟨rF,⟨hm2,hk2⟩|⟨hm2,u,hu,hK⟩⟩|⟨rF,hK⟩
  ·rw[wj] at rF
   refine .inl ⟨rF,.inl ⟨hm2,λw hC=> ?_⟩⟩;have:=hk2 w hC;rw[ej] at this;refine ep (λu w' hh=> ?_) this;obtain⟨s',JM,hK⟩:=hh;exact⟨s',JM,.inl ⟨by rw[wi];exact hw,.inr ⟨hm,v,si u v hv,by rw[<-cm];exact hK⟩⟩⟩
  ·rw[wj] at rF
   exact .inl ⟨rF,.inr ⟨hm2,u,sj u v hu,.inl ⟨by rw[wi];exact hw,.inr ⟨hm,v,si u v hv,by rw[<-cm];exact hK⟩⟩⟩⟩
  ·rw[wj] at rF
   exact .inr ⟨rF,.inl ⟨by rw[wi];exact hw,.inr ⟨hm,v,si undef v hv,by rw[<-cm];exact hK⟩⟩⟩
 ·
  rcases hk with⟨rF,⟨hm2,hk2⟩|⟨hm2,u,hu,hK⟩⟩|⟨rF,hK⟩
  ·rw[wj] at rF
   refine .inl ⟨rF,.inl ⟨hm2,λw hC=> ?_⟩⟩;have:=hk2 w hC;rw[ej] at this;refine ep (λu w' hh=> ?_) this;obtain⟨s',JM,hK⟩:=hh;exact⟨s',JM,.inr ⟨by rw[wi];exact hw,by rw[<-cm];exact hK⟩⟩
  ·rw[wj] at rF
   exact .inl ⟨rF,.inr ⟨hm2,u,sj u undef hu,.inr ⟨by rw[wi];exact hw,by rw[<-cm];exact hK⟩⟩⟩
  ·rw[wj] at rF
   exact .inr ⟨rF,.inr ⟨by rw[wi];exact hw,by rw[<-cm];exact hK⟩⟩
theorem getD_both(h:listed.getD i true=false):listed.getD i false=false:=by
 rcases Nat.lt_or_ge i listed.size with h'|h'
 ·simp[h'] at h ⊢;exact h
 ·simp[Array.getElem?_eq_none h']
def cZ(P:Program)(ops:Array Oper)(C:σ->World->Prop)(Q:σ->Act->Prop):List Oper->σ->Act->Prop
 |[],s,a=>Q s a
 |o::rest,s,a=>LX P ops C o a s (cZ P ops C Q rest)
/-! ###Steps of the walk -/
theorem zH(s:Sem Value)(w:World)(f:FuncId)(args:Array Value)(w':World):(do pure (.value (<-s)):Sem Next).run P w≠ .ok (.enter f args) w':=by
 rw[Sem.run_bind];cases s.run P w<;>simp[Result.andThen,Sem.run_pure]
theorem kN(ho:eZ o=true)(a:Act)(w:World)(f:FuncId)(args:Array Value)(w':World):(execOp a.eval o).run P w≠ .ok (.enter f args) w':=by
 unfold eZ at ho;unfold execOp;split at ho
 case h_3 c x y hop=>
  simp only[hop];rw[Sem.run_bind];cases (asBool (a.eval c)).run P w<;>simp[Result.andThen,Sem.run_pure]
 case h_15=>cases ho
 all_goals
  rename_i hop;simp only[hop]
  first|exact zH _ w f args w'|(rw[Sem.run_pure];intro h;cases h)
theorem bu{Q:σ->Act->Prop}{s:σ}(h:Q s a):cZ P ops C Q [] s a:=h
theorem vH{Q:σ->Act->Prop}{s:σ}:∀(bI rest:List Oper) (a:Act),bI.all eZ=true->
  wpQuiet P ops (λw'=>∃x:aT (λw=>∃s,C s w),w'=x.W) (λa'=>cZ P ops C Q rest s a') bI a->cZ P ops C Q (bI++rest) s a
 |[],rest,a,_,h=>h
 |o::bI,rest,a,hp,h=>by
  rw[List.all_cons,Bool.and_eq_true] at hp;obtain⟨hpl,hp'⟩:=hp;have hnc:mv o=false:=by unfold mv;rw[hpl];rfl
  unfold wpQuiet at h
  by_cases hw:Region.wanted o (yielded ops a.tmps)=true
  ·rw[if_pos hw] at h
   obtain⟨v,h1,h2⟩:=h;refine .inl ⟨hw,.inr ⟨hnc,v,λw hC=> ?_,vH bI rest _ hp' h2⟩⟩;have h3:=h1 w ⟨⟨w,hC⟩,rfl⟩;unfold Oper.quietAt at h3;have h4:=λf args w'=>kN (P:=P) hpl a w f args w'
   generalize (execOp a.eval o).run P w=r at*;cases r with
   |ok n w'=>
    cases n<;>simp only[Oper.quietUpon] at h3<;>simp only[stillUpon]
    ·exact h3
    ·exact h3
    ·exact(h4 _ _ _ rfl).elim
   |halt x w'=>simp only[Oper.quietUpon] at h3
  ·rw[if_neg hw] at h
   exact .inr ⟨by simpa using hw,vH bI rest _ hp' h⟩
theorem aO{Q:σ->Act->Prop}{s:σ}(n:Nat)(hp:(l.take n).all eZ=true)
  (h:wpQuiet P ops (λw'=>∃x:aT (λw=>∃s,C s w),w'=x.W) (λa'=>cZ P ops C Q (l.drop n) s a') (l.take n) a):cZ P ops C Q l s a:=by
 have:=vH (l.take n) (l.drop n) a hp h;rwa[List.take_append_drop] at this
theorem rp{Q:σ->Act->Prop}{s:σ}(hw:Region.wanted o (yielded ops a.tmps)=true)(hm:mv o=true)
  (h:∀w,C s w->cH P (λv w'=>∃s',C s' w'/\cZ P ops C Q rest s' (a.put o.dst v)) ((execOp a.eval o).run P w)):cZ P ops C Q (o::rest) s a:=.inl ⟨hw,.inl ⟨hm,h⟩⟩
theorem frame{Q:σ->Act->Prop}{s:σ}(h:cZ P ops C Q l s a')(e:a=a':=by simp only[Act.put,List.setIfInBounds_toArray,List.set_cons_succ,List.set_cons_zero];exact rfl):cZ P ops C Q l s a:=e▸h
theorem Bw{Q:σ->Act->Prop}{s:σ}(hw:Region.wanted o (yielded ops a.tmps)=true)(hm:mv o=true)
  (h:∀w,C s w->∃v w' s',(execOp a.eval o).run P w= .ok (.value v) w'/\C s' w'/\cZ P ops C Q rest s' (a.put o.dst v)):cZ P ops C Q (o::rest) s a:=
 rp hw hm λw hC=>by
  obtain⟨v,w',s',h1,h2,h3⟩:=h w hC;rw[h1];exact⟨s',h2,h3⟩
theorem Dc{Q:σ->Act->Prop}{s:σ}(hw:Region.wanted o (yielded ops a.tmps)=true)(t:TypeId)(n:Nat)(xs:Array (Nat×Operand))(ho:o.op= .buildSlice t n xs)
  (h:∀w,C s w->∃v w' s',(Instr.buildSlice t n (xs.map λ(i,x)=>(i,a.eval x))).run P w= .ok v w'/\C s' w'/\cZ P ops C Q rest s' (a.put o.dst v)):cZ P ops C Q (o::rest) s a:=by
 refine Bw hw (by unfold mv eZ;rw[ho];rfl) λw hC=> ?_
 obtain⟨v,w',s',h1,h2,h3⟩:=h w hC;refine⟨v,w',s',?_,h2,h3⟩;unfold execOp;simp only[ho,Sem.run_bind,h1,Result.andThen_ok,Sem.run_pure]
theorem jS{Q:σ->Act->Prop}{s:σ}(hw:Region.wanted o (yielded ops a.tmps)=true)(t:TypeId)(n i:Nat)(x:Operand)(ho:o.op= .buildSlice t n #[(i,x)])
  (h:∀w,C s w->∃v w' s',(Instr.buildSlice t n #[(i,a.eval x)]).run P w= .ok v w'/\C s' w'/\cZ P ops C Q rest s' (a.put o.dst v)):cZ P ops C Q (o::rest) s a:=
 Dc hw t n #[(i,x)] ho (by simpa using h)
theorem jT{Q:σ->Act->Prop}{s:σ}(hw:Region.wanted o (yielded ops a.tmps)=true)(y x:Operand)(t:TypeId)
  (ho:o.op= .call {callee:=.builtin .append,args:=#[y,x],argTypes:=#[t,t]})
  (h:∀w,C s w->∃v w' s',(Builtin.append_ #[t,t] o.type #[a.eval y,a.eval x]).run P w= .ok v w'/\C s' w'/\cZ P ops C Q rest s' (a.put o.dst v)):cZ P ops C Q (o::rest) s a:=by
 refine Bw hw (by unfold mv eZ;rw[ho];rfl) λw hC=> ?_
 obtain⟨v,w',s',h1,h2,h3⟩:=h w hC;refine⟨v,w',s',?_,h2,h3⟩;unfold execOp;simp only[ho,resolve,invoke,builtin,Sem.run_bind,Sem.run_pure,Result.andThen_ok,List.map_toArray,List.map_cons,List.map_nil,h1]
theorem iy(f:FuncId)(args:Array Value)(w:World)(R:Ending->World->Prop)(h:Calls P f args w R):∃e w',R e w':=by
 obtain⟨e,w',_,hR,_⟩:=h [];exact⟨e,w',hR⟩
end
end Mv
section
open Go.Shelf
attribute [local go_sem] Oper.semAt_some
end
section
open Go.Shelf
attribute [local go_sem] Oper.semAt_some
def ny(a:Int)(x:aK):Bool:=bX a&&decide x.ki
def jP(a:Int)(x:aK):Int:=if bX a then(if decide x.ki then 0 else 70) else 2
def xT(z:Nat->Int)(a:Int)(x:aK):Nat->Int:=if ny a x then over z a.toNat 64 x.byte else z
end
section
open Go.Shelf
attribute [local go_sem] Oper.semAt_some
end
def eX(md:Region.Mode)(ops:Array Oper):Bool:=
 (List.range ops.size).all λi=>((ops[i]?).map λo=>o.after.all λe=> !Region.binds md e||decide (e.on<i)).getD true
def zk(md:Region.Mode)(o:Oper)(l:Nat->Bool):Bool:=o.after.all λe=> !Region.binds md e||l e.on
section
variable {P:Program} {md:Region.Mode} {ops:Array Oper}
theorem cw(h:eX md ops=true)(hi:ops[i]? =some o){e:Edge}(he:e∈o.after)(hb:Region.binds md e=true):e.on<i:=by
 unfold eX at h;rw[List.all_eq_true] at h;have h1:=h i (List.mem_range.2 (Array.getElem?_eq_some_iff.1 hi).1);rw[hi] at h1;simp only[Option.map_some,Option.getD_some] at h1;rw[Array.all_eq_true'] at h1;have h2:=h1 e he;rw[hb] at h2;simpa using h2
theorem om(h:eX md ops=true)(hs:listed.size=ops.size)(hr:Region.ready md ops listed=[]):∀i,i<ops.size->listed.getD i false=true:=by
 intro i
 induction i using Nat.strongRecOn with
 |_ i ih=>
  intro hi;cases hl:listed.getD i false with
  |true=>rfl
  |false=>
   exfalso;have:i∈Region.ready md ops listed:=by
    refine mem_ready.2 ⟨?_,ops[i],Array.getElem?_eq_getElem hi,λe he hb=> ?_⟩
    ·rw[Array.getD_eq_getD_getElem?,Array.getElem?_eq_getElem (by omega)] at hl ⊢;simpa using hl
    ·have:=cw h (Array.getElem?_eq_getElem hi) he hb
     exact ih _ this (by omega)
   rw[hr] at this;cases this
def fK(P:Program)(md:Region.Mode)(ops:Array Oper)(Q:Exit->Act->World->Prop)(I:(Nat->Bool)->Act->World->Prop):Nat->List Oper->Prop
 |_,[]=>True
 |n,o::rest=>(∀l a w,l n=false->zk md o l=true->I l a w->wpOp P ops Q n (I (λj=>j==n||l j)) a w)/\fK P md ops Q I (n+1) rest
theorem fK.get{I:(Nat->Bool)->Act->World->Prop}:∀(L:List Oper) (n i:Nat) (o:Oper),fK P md ops Q I n L->L[i]? =some o->
  ∀l a w,l (n+i)=false->zk md o l=true->I l a w->wpOp P ops Q (n+i) (I (λj=>j==(n+i)||l j)) a w
 |[],_,_,_,_,h=>by cases h
 |o'::L,n,0,o,h,hi=>by cases hi;exact h.1
 |o'::L,n,i+1,o,h,hi=>by
  have:=fK.get L (n+1) i o h.2 (by simpa using hi);rw[show n+1+i=n+(i+1) by omega] at this;exact this
theorem Cp{I:(Nat->Bool)->Act->World->Prop}(hd:eX md ops=true)(hst:fK P md ops Q I 0 ops.toList)
  (hI:∀l l' a w,(∀i,i<ops.size->l i=l' i)->I l a w->I l' a w)
  (hend:∀a w,I (λ_=>true) a w->Q .normal a w):∀(fuel:Nat) (listed:Array Bool) (a:Act) (w:World),listed.size=ops.size->(listed.toList.filter (λb=> !b)).length=fuel->
   I (λj=>listed.getD j false) a w->wpAny P md ops Q fuel listed a w:=by
 have fin:∀(listed:Array Bool) (a:Act) (w:World),listed.size=ops.size->Region.ready md ops listed=[]->I (λj=>listed.getD j false) a w->Q .normal a w:=λlisted a w hs hr h=>
  hend a w (hI _ _ a w (λi hi=>om hd hs hr i hi) h)
 intro fuel
 induction fuel with
 |zero=>
  intro listed a w hs hc h;have hall:∀b∈listed.toList,b=true:=by
   intro b hb;cases b with
   |true=>rfl
   |false=>
    have:false∈listed.toList.filter (λb=> !b):=List.mem_filter.2 ⟨hb,rfl⟩;rw[List.length_eq_zero_iff.1 hc] at this;cases this
  have hr:Region.ready md ops listed=[]:=by
   cases hr:Region.ready md ops listed with
   |nil=>rfl
   |cons i r=>
    have hi:i∈Region.ready md ops listed:=by rw[hr];simp
    obtain⟨h1,o,ho,_⟩:=mem_ready.1 hi;have hlt:i<listed.size:=by rw[hs];exact(Array.getElem?_eq_some_iff.1 ho).1
    rw[Array.getD_eq_getD_getElem?,Array.getElem?_eq_getElem hlt] at h1;have:=hall listed[i] (by simp);simp[this] at h1
  exact⟨hr,fin listed a w hs hr h⟩
 |succ fuel ih=>
  intro listed a w hs hc h;refine⟨λhr=>fin listed a w hs hr h,λi hi=> ?_⟩;obtain⟨h1,o,ho,hall⟩:=mem_ready.1 hi;have hlt:i<listed.size:=by rw[hs];exact(Array.getElem?_eq_some_iff.1 ho).1
  have YN:listed[i]=false:=by rw[Array.getD_eq_getD_getElem?,Array.getElem?_eq_getElem hlt] at h1;simpa using h1
  have hstep:=fK.get ops.toList 0 i o hst (by simpa using ho) (λj=>listed.getD j false) a w (by rw[Nat.zero_add,Array.getD_eq_getD_getElem?,Array.getElem?_eq_getElem hlt];simpa using YN)
   (by
    unfold zk;rw[Array.all_eq_true'];intro e he;cases hb:Region.binds md e with
    |false=>rfl
    |true=>simpa using hall e he hb) h
  rw[Nat.zero_add] at hstep;refine wpOp_mono (λa' w' h'=> ?_) hstep;refine ih _ a' w' (by simpa using hs) ?_ (hI _ _ a' w' (λj hj=> ?_) h')
  ·have key:∀(L:List Bool) (i:Nat) (hi:i<L.length),L[i]=false->((L.set i true).filter (λb=> !b)).length+1=(L.filter (λb=> !b)).length:=by
    intro L
    induction L with
    |nil=>intro i hi;simp at hi
    |cons b L ihL=>
     intro i hi hb;cases i with
     |zero=>simp at hb;subst hb;simp
     |succ i=>
      have:=ihL i (by simpa using hi) (by simpa using hb);cases b<;>simp<;>omega
   have:=key listed.toList i (by simpa using hlt) (by simpa using YN);rw[hc] at this;have e:(listed.setIfInBounds i true).toList=listed.toList.set i true:=by simp
   rw[e];omega
  ·by_cases rH:j=i
   ·subst rH
    simp[Array.getD_eq_getD_getElem?,hlt]
   ·simp only[Array.getD_eq_getD_getElem?,Array.getElem?_setIfInBounds_ne (Ne.symm rH),show(j==i)=false by simpa using rH,Bool.false_or]
theorem lR(I:(Nat->Bool)->Act->World->Prop){L:List Oper}(hm:P.follows .mixedOrders=true)(hd:eX .any L.toArray=true)
  (hI:∀l l' a w,(∀i,i<L.length->l i=l' i)->I l a w->I l' a w) (h0:I (λ_=>false) a {w with drawn:=w.drawn+1}) (hst:fK P .any L.toArray Q I 0 L)
  (hend:∀a w,I (λ_=>true) a w->Q .normal a w):(Code.region id L.toArray true).wp P Q a w:=by
 refine wp_region_any hm (Cp (I:=I) hd (by simpa using hst) (by simpa using hI) hend _ _ a _ (by simp) (by simp) (hI _ _ _ _ (λi hi=> ?_) h0));simp[Array.getD_eq_getD_getElem?,hi]
end
def Ai(o:Oper):Bool:=match o.op with| .call _=>true|_=>false
def eZ(o:Oper):Bool:=match o.op with| .move _| .assign _| .pick _ _ _| .build _ _| .load _ _| .binOp _ _ _ _ _| .unOp _ _ _| .convert _ _ _| .fieldAddr _ _ _| .field _ _ _| .indexAddr _ _ _| .index _ _ _| .extract _ _| .slice _ _ _ _ _=>true|_=>false
section
variable {P:Program} {ops:Array Oper} {md:Region.Mode} {C:Nat->World->Prop}
def stillUpon(w:World)(v:Value):Result Next->Prop
 | .ok (.value u) w'=>w'=w/\u=v
 | .ok .skip w'=>w'=w/\v=undef
 |_=>False
def AJ(P:Program)(w:World)(R:Ending->World->Prop):Result Next->Prop
 | .ok (.enter f args) w'=>w'=w/\Calls P f args w R
 |_=>False
def fA(P:Program)(C:Nat->World->Prop)(o:Oper)(a:Act)(v:Value):Prop:=∀w,(∃k,C k w)->stillUpon w v ((execOp a.eval o).run P w)
def NU(P:Program)(C:Nat->World->Prop)(k:Nat)(o:Oper)(a:Act)(v:Value):Prop:=∀w,C k w->AJ P w (λe w'=>e= .returned v/\C (k+1) w') ((execOp a.eval o).run P w)
def LY(P:Program)(ops:Array Oper)(C:Nat->World->Prop)(o:Oper)(v:Value)(a:Act)(k k':Nat):Prop:=
 (Region.wanted o (yielded ops a.tmps)=true/\((Ai o=true/\NU P C k o a v/\k'=k+1)\/(Ai o=false/\fA P C o a v/\k'=k)))\/
 (Region.wanted o (yielded ops a.tmps)=false/\v=undef/\k'=k)
def dE(P:Program)(ops:Array Oper)(C:Nat->World->Prop)(i:Nat)(K:Nat->Act->Prop)(k:Nat)(a:Act):Prop:=
 match ops[i]? with
 |none=>K k a
 |some o=>∃v k',LY P ops C o v a k k'/\K k' (a.put o.dst v)
def wpAnyL(P:Program)(md:Region.Mode)(ops:Array Oper)(C:Nat->World->Prop)(Q:Nat->Act->Prop):Nat->Array Bool->Nat->Act->Prop
 |0,listed,k,a=>Region.ready md ops listed=[]/\Q k a
 |fuel+1,listed,k,a=>(Region.ready md ops listed=[]->Q k a)/\∀i∈Region.ready md ops listed,dE P ops C i (wpAnyL P md ops C Q fuel (listed.setIfInBounds i true)) k a
theorem LY.dE(hi:ops[i]? =some o)(hy:LY P ops C o v a k k'){K:Nat->Act->Prop}(h:K k' (a.put o.dst v)):dE P ops C i K k a:=by
 unfold Proofs.YtphamecphmbipaaGreatDoor.dE;simp only[hi];exact⟨v,k',hy,h⟩
theorem LY.step(hy:LY P ops C o v a k k')(hc:Ai o=false):k'=k/\∀m,LY P ops C o v a m m:=by
 rcases hy with⟨hw,⟨h,_⟩|⟨h,hs,rfl⟩⟩|⟨hw,rfl,rfl⟩
 ·rw[hc] at h;cases h
 ·exact⟨rfl,λm=> .inl ⟨hw,.inr ⟨h,hs,rfl⟩⟩⟩
 ·exact⟨rfl,λm=> .inr ⟨hw,rfl,rfl⟩⟩
def cZ(P:Program)(ops:Array Oper)(C:Nat->World->Prop)(Q:Nat->Act->Prop):List Oper->Nat->Act->Prop
 |[],k,a=>Q k a
 |o::rest,k,a=>∃v k',LY P ops C o v a k k'/\cZ P ops C Q rest k' (a.put o.dst v)
/-! ###Steps of the walk -/
end
structure A2(w:World)(z:Nat->Int)(x:aK)(W:World):Prop where
 b:aQ W w.heap.size 32 256 z
 i:aY W (w.heap.size+1) 63 x
 r:aQ W (w.heap.size+1+1) 32 256 (λ_=>0)
 bel:Below w.heap.size w W
theorem nj(w:World)(z:Nat->Int)(x:aK):A2 w z x (((w.alloc (.cells (Ks .u8 256 z).toArray 32)).alloc (.cells x.arr 63)).alloc (.cells (Ks .u8 256 (λ_=>0)).toArray 32)):=by
 refine⟨((aQ.new _ _ _ _).alloc _).alloc _,?_,?_,(((Below.refl _ _).alloc (Nat.le_refl _) _).alloc (by simp) _).alloc (by simp;omega) _⟩
 ·have:aY ((w.alloc (.cells (Ks .u8 256 z).toArray 32)).alloc (.cells x.arr 63)) (w.heap.size+1) 63 x:=by
   have:=heap_alloc_new (w.alloc (.cells (Ks .u8 256 z).toArray 32)) (.cells x.arr 63);simp only[World.size_alloc] at this;exact this
  exact dS this _
 ·have:=aQ.new ((w.alloc (.cells (Ks .u8 256 z).toArray 32)).alloc (.cells x.arr 63)) 32 256 (λ_=>0)
  simp only[World.size_alloc] at this;exact this
theorem IG(z:Nat->Int)(a:Int)(x:aK)(hx:x.Ok)(w:World)(hno:ny a x=false):
  Calls Tryz.prog 63 #[aL z,.int .i64 a,x.val] w λe w'=>e= .returned (.tuple #[aL z,.int .i64 (jP a x)])/\Below w.heap.size w w':=by
 have hal:=cJ;have ct:=hid hno;clear hno;go_enter Tryz.func63,Tryz.ntmps63;go_wp2_with fail;refine((ml a _).mono (R':=λe w'=>e= .returned (.bool (bX a))/\A2 w z x w') (λe w' h=>⟨h.1,h.2▸nj w z x⟩)).mono ?_;rintro e w1 ⟨rfl,hf⟩;clear hal
 by_cases hp:bX a=true
 ·have hm:Hid (decide x.ki=false):=by have:=ct.out;unfold ny at this;rw[hp,Bool.true_and] at this;exact this
  have he:Hid (jP a x=70):=by show _=_;unfold jP;rw[hp,hm.out];rfl
  rw[hp];clear hp ct;have hi:Hid (w1.heap[w.heap.size+1]? =some (.cells x.arr 63 (0,0))):=hf.i;have hb:=hf.bel;go_wp2_with (first|(refine wpList_load_row rfl 63 (.tmp 5) rfl (w.heap.size+1) rfl 63 x.arr (0,0) _ hi.out Tryz.underlying63 rfl (by kernel_rfl) ?_))
  refine(qP x hx _).mono ?_;rintro e w2 ⟨rfl,hb2⟩;rw[hm.out];have hbl:=hb2.size;have hk1:w.heap.size+1+1<w1.heap.size:=hf.r.lt;have yx:Hid (w2.heap[w.heap.size]? =some (.cells (Ks .u8 256 z).toArray 32 (0,0))):=hf.b.below hb2 (by omega);have kV:Hid (w2.heap[w.heap.size+1+1]? =some (.cells (Ks .u8 256 (λ_=>0)).toArray 32 (0,0))):=hf.r.below hb2 hk1;have hb3:Below w.heap.size w w2:=hb.trans (hb2.mono hb.size);clear hf hb hb2;go_wp2_with (first|(refine wpList_load_row rfl 32 (.tmp 3) rfl w.heap.size rfl 32 (Ks .u8 256 _).toArray (0,0) _ yx.out Tryz.underlying32 rfl (a9 _) ?_)|(refine wpList_store_row rfl 32 (.tmp 6) (.tmp 17) rfl (w.heap.size+1+1) (Ks .u8 256 z).toArray rfl rfl 32 _ kV.out (a9 _) (by rw[bK,bK]) (iD _ _ _) ?_))
  refine bodyPost_ret (bH rfl _ _ (w.heap.size+1+1) 32 (Ks .u8 256 z).toArray (0,0) _ rfl (aQ.setRow (z:=λ_=>0) kV.out z) Tryz.underlying32 rfl (a9 _)) rfl ⟨?_,?_⟩
  ·rw[he.out];rfl
  ·exact below_setRow hb3 (by omega) _
 ·rw[Bool.not_eq_true] at hp
  have he:Hid (jP a x=2):=by show _=_;unfold jP;rw[hp];rfl
  rw[hp];clear hp ct;have hk1:w.heap.size+1+1<w1.heap.size:=hf.r.lt;have yx:Hid (w1.heap[w.heap.size]? =some (.cells (Ks .u8 256 z).toArray 32 (0,0))):=hf.b;have kV:Hid (w1.heap[w.heap.size+1+1]? =some (.cells (Ks .u8 256 (λ_=>0)).toArray 32 (0,0))):=hf.r;have hb3:=hf.bel;clear hf;go_wp2_with (first|(refine wpList_load_row rfl 32 (.tmp 3) rfl w.heap.size rfl 32 (Ks .u8 256 _).toArray (0,0) _ yx.out Tryz.underlying32 rfl (a9 _) ?_)|(refine wpList_store_row rfl 32 (.tmp 6) (.tmp 13) rfl (w.heap.size+1+1) (Ks .u8 256 z).toArray rfl rfl 32 _ kV.out (a9 _) (by rw[bK,bK]) (iD _ _ _) ?_))
  refine bodyPost_ret (bH rfl _ _ (w.heap.size+1+1) 32 (Ks .u8 256 z).toArray (0,0) _ rfl (aQ.setRow (z:=λ_=>0) kV.out z) Tryz.underlying32 rfl (a9 _)) rfl ⟨?_,?_⟩
  ·rw[he.out];rfl
  ·exact below_setRow hb3 (by omega) _
theorem xC(z:Nat->Int)(hz:bm z)(a:Int)(x:aK)(hx:x.Ok)(w:World)(hok:ny a x=true):
  Calls Tryz.prog 63 #[aL z,.int .i64 a,x.val] w λe w'=>e= .returned (.tuple #[aL (over z a.toNat 64 x.byte),.int .i64 0])/\Below w.heap.size w w':=by
 unfold ny at hok;rw[Bool.and_eq_true] at hok;obtain⟨hp,hm⟩:=hok;have hpl:=(eo a).1 hp;have eE:x.ki:=of_decide_eq_true hm;obtain⟨hsz,hlk,fE⟩:=aK.mA eE;have HP:=hid hp;have HM:=hid hm;have ha0:0<=a:=by omega
 have ha1:a<=192:=by omega
 clear hp hm hpl;obtain⟨i,rfl⟩:=Int.eq_ofNat_of_zero_le ha0;obtain⟨hl0,yo⟩:=hlk;obtain⟨hs0,hs1⟩:=hsz;have hsa:=λg W=>a7 g 0 W
 have hal:=cJ;go_enter Tryz.func63,Tryz.ntmps63;go_wp2_with fail;refine((ml (i:Int) _).mono (R':=λe w'=>e= .returned (.bool (bX (i:Int)))/\A2 w z x w') (λe w' h=>⟨h.1,h.2▸nj w z x⟩)).mono ?_;rintro e w1 ⟨rfl,hf⟩;rw[HP.out];clear hal;have hi:Hid (w1.heap[w.heap.size+1]? =some (.cells x.arr 63 (0,0))):=hf.i;go_wp2_with (first|(refine wpList_load_row rfl 63 (.tmp 5) rfl (w.heap.size+1) rfl 63 x.arr (0,0) _ hi.out Tryz.underlying63 rfl (by kernel_rfl) ?_))
 refine(qP x hx _).mono ?_;rintro e w2 ⟨rfl,hb2⟩;rw[HM.out];have hk1:w.heap.size+1+1<w1.heap.size:=hf.r.lt;have yx:aQ w2 w.heap.size 32 256 z:=hf.b.below hb2 (by omega);have kV:aQ w2 (w.heap.size+1+1) 32 256 (λ_=>0):=hf.r.below hb2 hk1;have Zp:aY w2 (w.heap.size+1) 63 x:=hf.i.below hb2 (by omega);have hb3:Below w.heap.size w w2:=hf.bel.trans (hb2.mono hf.bel.size);clear hf hb2 hi hk1;go_wp2_with fail;go_loopw [8] (λu wr=>∃k:Nat,k<=64/\u= .int .i64 (k:Int)/\fN w.heap.size i k (λ_=>0) w2 wr) (λu _=>64-(intOf u).toNat)
 case atStart=>exact⟨0,by omega,rfl,fN.nil _ _ _ _⟩
 case round=>
  obtain⟨k,hk,rfl,hp⟩:=hrel
  by_cases hlt:k<64
  ·have hcw:=yx.bI (i+k) (by omega)
   have hc:wr.cell? ⟨w.heap.size,i+k,none⟩=some (.int .u8 (z (i+k))):=by
    have:=hp.cell (i+k);rw[if_neg (by omega)] at this;rw[this,<-hcw,Nat.zero_add]
   have Hk:wr.frozen? ⟨w.heap.size,i+k,none⟩=false:=by rw[hp.only.frozen];exact ag yx _
   have XP:=hid hcw;clear hcw;go_wp2_with fail;go_roundw
   case rel=>exact⟨k+1,by omega,by go_num,hp.snoc (by have:=XP.out;rwa[Nat.zero_add] at this) rfl⟩
   case measure=>simp[intOf];omega
  ·obtain rfl:k=64:=by omega
   have Hq:=yx.kn hp;have DG:aQ wr (w.heap.size+1+1) 32 256 (λ_=>0):=kV.only hp.only (by omega);have Wz:aY wr (w.heap.size+1) 63 x:=Zp.only hp.only (by omega);have hb4:Below w.heap.size w wr:=hb3.trans (hp.only.below (Nat.le_refl _));clear hp yx kV Zp hb3;have c2:wr.cell? ⟨w.heap.size+1,0,none⟩=some (.int .u8 x.kind):=Wz.cell (i:=0) rfl;have c3:wr.cell? ⟨w.heap.size,i,none⟩=some (.int .u8 (over z i 64 (λ_=>0) i)):=by have:=Hq.bI i (by omega);rwa[Nat.zero_add] at this
   have f3:wr.frozen? ⟨w.heap.size,i,none⟩=false:=ag Hq i;have hB4:=Hq.setCell i x.kind (by omega);have hO:=an.setCell wr ⟨w.heap.size,i,none⟩ (.int .u8 x.kind);have Lr:aQ (wr.setCell ⟨w.heap.size,i,none⟩ (.int .u8 x.kind)) (w.heap.size+1+1) 32 256 (λ_=>0):=DG.only hO (by simp;omega);have Tp:aY (wr.setCell ⟨w.heap.size,i,none⟩ (.int .u8 x.kind)) (w.heap.size+1) 63 x:=Wz.only hO (by simp);have sB:Below w.heap.size w (wr.setCell ⟨w.heap.size,i,none⟩ (.int .u8 x.kind)):=hb4.trans (hO.below (Nat.le_refl _));have d2:(wr.setCell ⟨w.heap.size,i,none⟩ (.int .u8 x.kind)).cell? ⟨w.heap.size+1,1,none⟩=some (.int .i64 x.aJ):=Tp.cell (i:=1) rfl;go_wp2_with fail;generalize wr.setCell ⟨w.heap.size,i,none⟩ (.int .u8 x.kind)=W4 at hB4 Lr Tp sB d2 ⊢;clear hO c2 c3 f3 Hq DG Wz hb4;have Yo:bm (over (over z i 64 λ_=>0) i 1 λ_=>x.kind):=eY (eY hz (λ_=>⟨by simp,by simp⟩) _ _) (λ_=>⟨by show 0<=x.kind;omega,by show x.kind<256;omega⟩) _ _;have e1:IntKind.i64.wrap ((i:Int)+2)=(i:Int)+2:=IntWalk.i64_in _ (by omega);have e2:IntKind.u32.wrap x.aJ=x.aJ:=IntWalk.u32_in _ (by omega)
   go_still_tail 6,(by kernel_rfl)
   go_wp2_with fail;refine(qM w.heap.size 0 256 _ ((i:Int)+2) x.aJ _ _ (by omega) (by omega) (by omega) hl0 (by omega) (by exact hB4.bI) Yo (by exact hB4.soft 0 256)).mono ?_;rintro e w5 ⟨rfl,ON⟩;rw[show 0+((i:Int)+2).toNat=i+2 by omega] at ON;have NO:aQ w5 w.heap.size 32 256 _:=aQ.kn (w:=W4.drew) hB4 ON;have Zd:aQ w5 (w.heap.size+1+1) 32 256 (λ_=>0):=aQ.only (w:=W4.drew) Lr ON.only (by omega);have Wy:aY w5 (w.heap.size+1) 63 x:=aY.only (w:=W4.drew) Tp ON.only (by omega);have kx:Below w.heap.size w w5:=sB.drew.trans (ON.only.below (Nat.le_refl _));have NO:=NO.congr (λj _=>x.zJ z i j);clear ON hB4 Lr Tp sB d2 Yo e1 e2;have hzs:Hid (∀m,bm (over z i 64 (x.jj m))):=λm=>eY hz (aK.uy hx fE m) _ _
   have Qi:=hzs.out 0;have d3:w5.cell? ⟨w.heap.size+1,2,none⟩=some (.int .u32 x.gen):=Wy.cell (i:=2) rfl;have VL:=hx.gen;go_wp2_with fail;have e1:IntKind.i64.wrap ((i:Int)+4)=(i:Int)+4:=IntWalk.i64_in _ (by omega)
   go_still_tail 5,(by kernel_rfl)
   go_wp2_with fail;refine(cU w.heap.size 0 256 _ ((i:Int)+4) x.gen _ _ (by omega) (by omega) (by omega) (by omega) (by omega) (by exact NO.bI) Qi (by exact NO.soft 0 256)).mono ?_;rintro e w6 ⟨rfl,wN⟩;rw[show 0+((i:Int)+4).toNat=i+(4+4*0) by omega] at wN;have mb:aQ w6 w.heap.size 32 256 _:=aQ.kn (w:=w5.drew) NO wN;have JJ:aQ w6 (w.heap.size+1+1) 32 256 (λ_=>0):=aQ.only (w:=w5.drew) Zd wN.only (by omega);have Wx:aY w6 (w.heap.size+1) 63 x:=aY.only (w:=w5.drew) Wy wN.only (by omega);have DF:Below w.heap.size w w6:=kx.drew.trans (wN.only.below (Nat.le_refl _));have mb:=mb.congr (λj _=>x.jH z i 0 (by omega) j);clear wN NO Zd Wy kx d3 e1 VL Qi;have Qh:=hzs.out 1;have d4:w6.cell? ⟨w.heap.size+1,3,none⟩=some (.int .i64 x.size):=Wx.cell (i:=3) rfl;go_wp2_with fail;have e1:IntKind.i64.wrap ((i:Int)+8)=(i:Int)+8:=IntWalk.i64_in _ (by omega);have e2:IntKind.u32.wrap x.size=x.size:=IntWalk.u32_in _ (by omega)
   go_still_tail 6,(by kernel_rfl)
   go_wp2_with fail;refine(cU w.heap.size 0 256 _ ((i:Int)+8) x.size _ _ (by omega) (by omega) (by omega) (by omega) (by omega) (by exact mb.bI) Qh (by exact mb.soft 0 256)).mono ?_;rintro e w7 ⟨rfl,OM⟩;rw[show 0+((i:Int)+8).toNat=i+(4+4*1) by omega] at OM;have Tt:aQ w7 w.heap.size 32 256 _:=aQ.kn (w:=w6.drew) mb OM;have OZ:aQ w7 (w.heap.size+1+1) 32 256 (λ_=>0):=aQ.only (w:=w6.drew) JJ OM.only (by omega);have Zo:aY w7 (w.heap.size+1) 63 x:=aY.only (w:=w6.drew) Wx OM.only (by omega);have nV:Below w.heap.size w w7:=DF.drew.trans (OM.only.below (Nat.le_refl _));have Tt:=Tt.congr (λj _=>x.jH z i 1 (by omega) j);clear OM mb JJ Wx DF d4 e1 e2 Qh;go_wp2_with fail;clear NO mb;go_loopw [9] (λu wr=>∃k:Nat,k<=11/\u= .int .i64 (k:Int)/\aQ wr w.heap.size 32 256 (over z i 64 (x.jj (k+2)))/\aQ wr (w.heap.size+1+1) 32 256 (λ_=>0)/\aY wr (w.heap.size+1) 63 x/\Below w.heap.size w wr) (λu _=>11-(intOf u).toNat)
   case atStart=>exact⟨0,by omega,rfl,Tt,OZ,Zo,nV⟩
   case round=>
    clear Tt OZ Zo nV;obtain⟨k,hk2,rfl,hB,hR,hI,hb⟩:=hrel
    by_cases jX:k<11
    ·have SS:=hzs.out (k+2)
     have d1:=hI.ptr k jX;have hpk:=hx.p k;have HW:Hid (x.word (k+2)=x.p k):=by show _=_;unfold aK.word;rw[if_neg (by omega),if_neg (by omega),if_pos (by omega)];rfl
     have l0:(0:Int)<=(k:Int):=by omega
     have l1:(k:Int)<11:=by omega
     go_wp2_with fail;have e1:IntKind.i64.wrap ((i:Int)+12)=(i:Int)+12:=IntWalk.i64_in _ (by omega);have e2:IntKind.i64.wrap (4*(k:Int))=4*(k:Int):=IntWalk.i64_in _ (by omega);have e3:IntKind.i64.wrap ((i:Int)+12+4*(k:Int))=(i:Int)+12+4*(k:Int):=IntWalk.i64_in _ (by omega)
     go_still_tail 10,(by kernel_rfl)
     go_wp2_with fail;refine(cU w.heap.size 0 256 _ ((i:Int)+12+4*(k:Int)) (x.p k) _ _ (by omega) (by omega) (by omega) (by omega) (by omega) (by exact hB.bI) SS (by exact hB.soft 0 256)).mono ?_;rintro e w8 ⟨rfl,Ea⟩;rw[show 0+((i:Int)+12+4*(k:Int)).toNat=i+(4+4*(k+2)) by omega,<-HW.out] at Ea;have Tq:aQ w8 w.heap.size 32 256 _:=aQ.kn (w:=wr.drew) hB Ea;have OY:aQ w8 (w.heap.size+1+1) 32 256 (λ_=>0):=aQ.only (w:=wr.drew) hR Ea.only (by omega);have hI8:aY w8 (w.heap.size+1) 63 x:=aY.only (w:=wr.drew) hI Ea.only (by omega);have yt:Below w.heap.size w w8:=hb.drew.trans (Ea.only.below (Nat.le_refl _));have O3:=Tq.congr (λj _=>x.jH z i (k+2) (by omega) j);clear Ea e1 e2 e3;go_wp2_with fail;go_roundw
     case rel=>exact⟨k+1,by omega,by go_num,by rw[show k+1+2=k+2+1 by omega];exact O3,OY,hI8,yt⟩
     case measure=>simp[intOf];omega
    ·obtain rfl:k=11:=by omega
     have SS:=hzs.out (11+2);have d1:wr.cell? ⟨w.heap.size+1,15,none⟩=some (.int .u32 x.next):=hI.cell (i:=15) rfl;have hpk:=hx.next
     go_wp2_with fail;have e1:IntKind.i64.wrap ((i:Int)+56)=(i:Int)+56:=IntWalk.i64_in _ (by omega)
     go_still_tail 5,(by kernel_rfl)
     go_wp2_with fail;refine(cU w.heap.size 0 256 _ ((i:Int)+56) x.next _ _ (by omega) (by omega) (by omega) (by omega) (by omega) (by exact hB.bI) SS (by exact hB.soft 0 256)).mono ?_;rintro e w8 ⟨rfl,Ea⟩;rw[show 0+((i:Int)+56).toNat=i+(4+4*13) by omega] at Ea;have Tq:aQ w8 w.heap.size 32 256 _:=aQ.kn (w:=wr.drew) hB Ea;have OY:aQ w8 (w.heap.size+1+1) 32 256 (λ_=>0):=aQ.only (w:=wr.drew) hR Ea.only (by omega);have yt:Below w.heap.size w w8:=hb.drew.trans (Ea.only.below (Nat.le_refl _));have O3:=(Tq.congr (λj _=>x.jH z i 13 (by omega) j)).congr (y:=over z i 64 x.byte) (λj _=>by
      by_cases hj:i<=j/\j<i+64
      ·rw[gl _ _ _ _ _ hj,gl _ _ _ _ _ hj];exact x.tC _
      ·rw[bY _ _ _ _ _ (by omega),bY _ _ _ _ _ (by omega)])
     clear Ea e1 Tq hB hR hI hb d1 hpk SS hzs;have yx:Hid (w8.heap[w.heap.size]? =some (.cells (Ks .u8 256 (over z i 64 x.byte)).toArray 32 (0,0))):=O3;have kV:Hid (w8.heap[w.heap.size+1+1]? =some (.cells (Ks .u8 256 (λ_=>0)).toArray 32 (0,0))):=OY;clear O3 OY;go_wp2_with (first|(refine wpList_load_row rfl 32 (.tmp 3) rfl w.heap.size rfl 32 (Ks .u8 256 (over z i 64 x.byte)).toArray (0,0) _ yx.out Tryz.underlying32 rfl (a9 _) ?_)|(refine wpList_store_row rfl 32 (.tmp 6) (.tmp 71) rfl (w.heap.size+1+1) (Ks .u8 256 (over z i 64 x.byte)).toArray rfl rfl 32 _ kV.out (a9 _) (by rw[bK,bK]) (iD _ _ _) ?_))
     refine bodyPost_ret (bH rfl _ _ (w.heap.size+1+1) 32 (Ks .u8 256 (over z i 64 x.byte)).toArray (0,0) _ rfl (aQ.setRow (z:=λ_=>0) kV.out _) Tryz.underlying32 rfl (a9 _)) rfl ⟨?_,?_⟩
     ·rw[Int.toNat_natCast];rfl
     ·exact below_setRow yt (by omega) _
section
open Go.Shelf
theorem aY.range{x:aK}(h:aY w g T x):w.rangeAt g 0 x.arr.toList:=by
 intro j v hj;rw[Nat.zero_add];exact ay h (by simpa using hj)
theorem EW(z:Nat->Int)(hz:bm z)(a:Int)(x:aK)(hx:x.Ok)(w:World):
  Calls Tryz.prog 63 #[aL z,.int .i64 a,x.val] w λe w'=>e= .returned (.tuple #[aL (xT z a x),.int .i64 (jP a x)])/\Below w.heap.size w w':=by
 cases hok:ny a x with
 |true=>
  have he:jP a x=0:=by unfold ny at hok;rw[Bool.and_eq_true] at hok;unfold jP;rw[hok.1,hok.2];rfl
  rw[he,xT,hok,if_pos rfl];exact xC z hz a x hx w hok
 |false=>
  rw[xT,hok];exact IG z a x hx w hok
end
end Go.Proofs.YtphamecphmbipaaGreatDoor
