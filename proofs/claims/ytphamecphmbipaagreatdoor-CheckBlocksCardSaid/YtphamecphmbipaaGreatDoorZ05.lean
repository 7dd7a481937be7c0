/- Texts of this claim, merged. -/
import Derived.Test.YtphamecphmbipaaGreatDoorZ04
set_option linter.unusedVariables false
set_option maxRecDepth 100000
set_option maxHeartbeats 16000000

namespace Go.Proofs.YtphamecphmbipaaGreatDoor
open Go.RowKit
variable {w w':World} {g B i j m off cap:Nat} {T:TypeId} {v:Value} {ops:Array Oper} {rest l:List Oper} {o:Oper} {a:Act} {Q Q':Exit->Act->World->Prop} {G S:Int} {R:Value->World->Prop} {f:Nat->List Value}
def At(w:World)(g:Nat)(T:TypeId)(cs:Array Value):Prop:=w.heap[g]? =some (.cells cs T (0,0))
theorem At.lt{cs:Array Value}(h:At w g T cs):g<w.heap.size:=(Array.getElem?_eq_some_iff.1 h).1
theorem At.new(w:World)(T:TypeId)(cs:Array Value):At (w.alloc (.cells cs T)) w.heap.size T cs:=heap_alloc_new w _
theorem At.alloc{cs:Array Value}(h:At w g T cs)(o:Obj):At (w.alloc o) g T cs:=eh h o
theorem At.below{cs:Array Value}(h:At w g T cs)(hb:Below B w w')(hg:g<B):At w' g T cs:=(hb.block g hg).trans h
theorem At.only{cs:Array Value}(h:At w g T cs){b:Nat}(hb:az b w w')(hg:g≠b):At w' g T cs:=(hb.block g hg).trans h
theorem At.cell{cs:Array Value}(h:At w g T cs)(hi:cs[i]? =some v):w.cell? ⟨g,i,none⟩=some v:=aF h hi
theorem At.range{cs:Array Value}(h:At w g T cs):w.rangeAt g 0 cs.toList:=by
 intro j v hj;rw[Nat.zero_add];exact aF h (by simpa using hj)
theorem aD{P:Program}(hgd:o.guard=none)(T:TypeId)(p q:Operand)(ho:o.op= .store T p q)
  (g:Nat) (cs old:Array Value) (hx:a.eval p= .pointer (some ⟨g,0,none⟩)) (hy:a.eval q= .agg cs) (hI:At w g T old) (hi:(P.info? T).map (·.size)=some cs.size) (hs:old.size=cs.size) (h1:cs.all (·.oneCell')=true)
  (h:∀w',At w' g T cs->az g w w'->wpList P ops Q rest (a.put o.dst undef) w'):wpList P ops Q (o::rest) a w:=
 wpList_store_row hgd T p q ho g cs hx hy T _ hI hi hs h1 (h _ (setRow_heap w g _ cs _ _ hI) (gM w g _ hI hs.symm))
theorem aB{P:Program}{w:World}{ops:Array Oper}{rest:List Oper}{o:Oper}{a:Act}{Q:Exit->Act->World->Prop}(hw:Region.wanted o (yielded ops a.tmps)=true)(T:TypeId)(p:Operand)(ho:o.op= .load T p)
  (g:Nat) (cs:Array Value) (d:TypeDesc) (hx:a.eval p= .pointer (some ⟨g,0,none⟩)) (hI:At w g T cs) (hu:P.underlying T=some d) (hd:(match d with| .struct _| .array _ _=>true|_=>false)=true) (hi:(P.info? T).map (·.size)=some cs.size)
  (h:wpList P ops Q rest (a.put o.dst (.agg cs)) w):wpList P ops Q (o::rest) a w:=
 BigFrame.wpList_want hw λ_ hK=>wp_load_row T p ho g hx T cs (0,0) d hI hu hd hi (hK _ _ h)
theorem de(hw:Region.wanted o (yielded ops a.tmps)=true)(p:Operand)(ho:o.op= .load 32 p)
  (g:Nat) (z:Nat->Int) (hx:a.eval p= .pointer (some ⟨g,0,none⟩)) (hB:aU w g 32 256 z)
  (h:wpList Tryz.prog ops Q rest (a.put o.dst (aR z)) w):wpList Tryz.prog ops Q (o::rest) a w:=
 BigFrame.wpList_want hw λ_ hK=>wp_load_row 32 p ho g hx 32 (Ks .u8 256 z).toArray (0,0) _ hB Tryz.underlying32 rfl (aW _) (hK _ _ h)
abbrev bV(G S I J:Int):Value:=.agg #[.int .i64 G,.int .i64 S,.int .i64 I,.int .i64 J]
abbrev ai(G S I J:Int):Array Value:=#[.int .i64 G,.int .i64 S,.int .i64 I,.int .i64 J]
def aT(G S I J:Int):Bool:=decide (1<=G/\G<=4/\16<=S/\S<=512/\4<=I/\I<=64/\I%4=0/\40<=J/\J<=256/\3+I/4<=S/\2+J+G*S<=2048)
theorem bq(G S I J:Int):aT G S I J=true↔1<=G/\G<=4/\16<=S/\S<=512/\4<=I/\I<=64/\I%4=0/\40<=J/\J<=256/\3+I/4<=S/\2+J+G*S<=2048:=by unfold aT;exact decide_eq_true_iff
theorem cV{I J:Int}(h:¬(1<=G/\G<=4/\16<=S/\S<=512/\4<=I/\I<=64/\I%4=0/\40<=J/\J<=256/\3+I/4<=S/\2+J+G*S<=2048)):aT G S I J=false:=by unfold aT;exact decide_eq_false h
theorem nU(I:Int)(h:4<=I):I.tdiv 4=I/4:=Int.tdiv_eq_ediv_of_nonneg (by omega)
theorem yF(I:Int)(h:4<=I):I.tmod 4=I%4:=Int.tmod_eq_emod_of_nonneg (by omega)
theorem Cu(h1:1<=G)(h2:G<=4)(h3:16<=S)(h4:S<=512):0<=G*S/\G*S<=2048:=by
 have:0<=G*S:=Int.mul_nonneg (by omega) (by omega);have h:=Int.mul_le_mul h2 h4 (by omega) (by omega:(0:Int)<=4);omega
theorem eJ(G S I J:Int)(w:World):Calls Tryz.prog 38 #[bV G S I J] w λe w'=>e= .returned (.bool (aT G S I J))/\Below w.heap.size w w':=by
 have HA:=ah (At.new w 23 (ai G S I J));have HL:Hd (Below w.heap.size w (w.alloc (.cells (ai G S I J) 23))):=ag.alloc af _;have c0:(w.alloc (.cells #[.int .i64 G,.int .i64 S,.int .i64 I,.int .i64 J] 23)).cell? ⟨w.heap.size,0,none⟩=some (.int .i64 G):=HA.Z.cell (i:=0) rfl;have c1:(w.alloc (.cells #[.int .i64 G,.int .i64 S,.int .i64 I,.int .i64 J] 23)).cell? ⟨w.heap.size,1,none⟩=some (.int .i64 S):=HA.Z.cell (i:=1) rfl;have c2:(w.alloc (.cells #[.int .i64 G,.int .i64 S,.int .i64 I,.int .i64 J] 23)).cell? ⟨w.heap.size,2,none⟩=some (.int .i64 I):=HA.Z.cell (i:=2) rfl;have c3:(w.alloc (.cells #[.int .i64 G,.int .i64 S,.int .i64 I,.int .i64 J] 23)).cell? ⟨w.heap.size,3,none⟩=some (.int .i64 J):=HA.Z.cell (i:=3) rfl;go_enter Tryz.func38,Tryz.ntmps38
 by_cases h1:1<=G
 rotate_left
 ·have HN:Hd (aT G S I J=false):=cV λh=>by omega
  have U7:G<1:=by omega
  go_wp2_with fail;go_ret;exact⟨by rw[HN.Z];rfl,HL.Z⟩
 have U7:¬G<1:=by omega
 by_cases h2:G<=4
 rotate_left
 ·have HN:Hd (aT G S I J=false):=cV λh=>by omega
  have U6:4<G:=by omega
  go_wp2_with fail;go_ret;exact⟨by rw[HN.Z];rfl,HL.Z⟩
 have U6:¬4<G:=by omega
 by_cases h3:16<=S
 rotate_left
 ·have HN:Hd (aT G S I J=false):=cV λh=>by omega
  have U5:S<16:=by omega
  go_wp2_with fail;go_ret;exact⟨by rw[HN.Z];rfl,HL.Z⟩
 have U5:¬S<16:=by omega
 by_cases h4:S<=512
 rotate_left
 ·have HN:Hd (aT G S I J=false):=cV λh=>by omega
  have U4:512<S:=by omega
  go_wp2_with fail;go_ret;exact⟨by rw[HN.Z];rfl,HL.Z⟩
 have U4:¬512<S:=by omega
 by_cases h5:4<=I
 rotate_left
 ·have HN:Hd (aT G S I J=false):=cV λh=>by omega
  have U3:I<4:=by omega
  go_wp2_with fail;go_ret;exact⟨by rw[HN.Z];rfl,HL.Z⟩
 have U3:¬I<4:=by omega
 have t1:=nU I h5;have t2:=yF I h5
 by_cases h6:I<=64
 rotate_left
 ·have HN:Hd (aT G S I J=false):=cV λh=>by omega
  have U2:64<I:=by omega
  go_wp2_with fail;go_ret;exact⟨by rw[HN.Z];rfl,HL.Z⟩
 have U2:¬64<I:=by omega
 by_cases h7:I%4=0
 rotate_left
 ·have HN:Hd (aT G S I J=false):=cV λh=>by omega
  have q7:(I%4 !=0)=true:=by simpa using h7
  go_wp2_with fail;go_ret;exact⟨by rw[HN.Z];rfl,HL.Z⟩
 have q7:(I%4 !=0)=false:=by simpa using h7
 by_cases h8:40<=J
 rotate_left
 ·have HN:Hd (aT G S I J=false):=cV λh=>by omega
  have U1:J<40:=by omega
  go_wp2_with fail;go_ret;exact⟨by rw[HN.Z];rfl,HL.Z⟩
 have U1:¬J<40:=by omega
 by_cases h9:J<=256
 rotate_left
 ·have HN:Hd (aT G S I J=false):=cV λh=>by omega
  have U0:256<J:=by omega
  go_wp2_with fail;go_ret;exact⟨by rw[HN.Z];rfl,HL.Z⟩
 have U0:¬256<J:=by omega
 obtain⟨g0,g1⟩:=Cu h1 h2 h3 h4;have w1:IntKind.i64.wrap (G*S)=G*S:=IntWalk.i64_in _ (by omega)
 by_cases h10:3+I/4<=S
 rotate_left
 ·have HN:Hd (aT G S I J=false):=cV λh=>by omega
  have n10:S<2+I/4+1:=by omega
  have n11:¬3+I/4<=S:=by omega
  go_wp2_with fail;go_ret;exact⟨by rw[HN.Z];rfl,HL.Z⟩
 have n10:¬S<2+I/4+1:=by omega
 have HY:Hd (aT G S I J=decide (2+J+G*S<=2048)):=by
  show _=_;rw[Bool.eq_iff_iff,bq,decide_eq_true_eq];exact⟨λh=>h.2.2.2.2.2.2.2.2.2.2,λh=>⟨h1,h2,h3,h4,h5,h6,h7,h8,h9,h10,h⟩⟩
 go_wp2_with fail;go_ret;exact⟨by rw[HY.Z];rfl,HL.Z⟩
theorem eu(G S I J:Int)(w:World):Calls Tryz.prog 56 #[bV G S I J] w λe w'=>e= .returned (.bool (aT G S I J))/\Below w.heap.size w w':=by
 have HA:=ah (At.new w 23 (ai G S I J));have HL:Hd (Below w.heap.size w (w.alloc (.cells (ai G S I J) 23))):=ag.alloc af _;have c0:(w.alloc (.cells #[.int .i64 G,.int .i64 S,.int .i64 I,.int .i64 J] 23)).cell? ⟨w.heap.size,0,none⟩=some (.int .i64 G):=HA.Z.cell (i:=0) rfl;have c1:(w.alloc (.cells #[.int .i64 G,.int .i64 S,.int .i64 I,.int .i64 J] 23)).cell? ⟨w.heap.size,1,none⟩=some (.int .i64 S):=HA.Z.cell (i:=1) rfl;have c2:(w.alloc (.cells #[.int .i64 G,.int .i64 S,.int .i64 I,.int .i64 J] 23)).cell? ⟨w.heap.size,2,none⟩=some (.int .i64 I):=HA.Z.cell (i:=2) rfl;have c3:(w.alloc (.cells #[.int .i64 G,.int .i64 S,.int .i64 I,.int .i64 J] 23)).cell? ⟨w.heap.size,3,none⟩=some (.int .i64 J):=HA.Z.cell (i:=3) rfl;go_enter Tryz.func56,Tryz.ntmps56
 by_cases h1:1<=G
 rotate_left
 ·have HN:Hd (aT G S I J=false):=cV λh=>by omega
  have U7:G<1:=by omega
  go_wp2_with fail;go_ret;exact⟨by rw[HN.Z];rfl,HL.Z⟩
 have U7:¬G<1:=by omega
 by_cases h2:G<=4
 rotate_left
 ·have HN:Hd (aT G S I J=false):=cV λh=>by omega
  have U6:4<G:=by omega
  go_wp2_with fail;go_ret;exact⟨by rw[HN.Z];rfl,HL.Z⟩
 have U6:¬4<G:=by omega
 by_cases h3:16<=S
 rotate_left
 ·have HN:Hd (aT G S I J=false):=cV λh=>by omega
  have U5:S<16:=by omega
  go_wp2_with fail;go_ret;exact⟨by rw[HN.Z];rfl,HL.Z⟩
 have U5:¬S<16:=by omega
 by_cases h4:S<=512
 rotate_left
 ·have HN:Hd (aT G S I J=false):=cV λh=>by omega
  have U4:512<S:=by omega
  go_wp2_with fail;go_ret;exact⟨by rw[HN.Z];rfl,HL.Z⟩
 have U4:¬512<S:=by omega
 by_cases h5:4<=I
 rotate_left
 ·have HN:Hd (aT G S I J=false):=cV λh=>by omega
  have U3:I<4:=by omega
  go_wp2_with fail;go_ret;exact⟨by rw[HN.Z];rfl,HL.Z⟩
 have U3:¬I<4:=by omega
 have t1:=nU I h5;have t2:=yF I h5
 by_cases h6:I<=64
 rotate_left
 ·have HN:Hd (aT G S I J=false):=cV λh=>by omega
  have U2:64<I:=by omega
  go_wp2_with fail;go_ret;exact⟨by rw[HN.Z];rfl,HL.Z⟩
 have U2:¬64<I:=by omega
 by_cases h7:I%4=0
 rotate_left
 ·have HN:Hd (aT G S I J=false):=cV λh=>by omega
  have q7:(I%4 !=0)=true:=by simpa using h7
  go_wp2_with fail;go_ret;exact⟨by rw[HN.Z];rfl,HL.Z⟩
 have q7:(I%4 !=0)=false:=by simpa using h7
 by_cases h8:40<=J
 rotate_left
 ·have HN:Hd (aT G S I J=false):=cV λh=>by omega
  have U1:J<40:=by omega
  go_wp2_with fail;go_ret;exact⟨by rw[HN.Z];rfl,HL.Z⟩
 have U1:¬J<40:=by omega
 by_cases h9:J<=256
 rotate_left
 ·have HN:Hd (aT G S I J=false):=cV λh=>by omega
  have U0:256<J:=by omega
  go_wp2_with fail;go_ret;exact⟨by rw[HN.Z];rfl,HL.Z⟩
 have U0:¬256<J:=by omega
 obtain⟨g0,g1⟩:=Cu h1 h2 h3 h4;have w1:IntKind.i64.wrap (G*S)=G*S:=IntWalk.i64_in _ (by omega)
 by_cases h10:3+I/4<=S
 rotate_left
 ·have HN:Hd (aT G S I J=false):=cV λh=>by omega
  have n10:S<2+I/4+1:=by omega
  have n11:¬3+I/4<=S:=by omega
  go_wp2_with fail;go_ret;exact⟨by rw[HN.Z];rfl,HL.Z⟩
 have n10:¬S<2+I/4+1:=by omega
 have HY:Hd (aT G S I J=decide (2+J+G*S<=2048)):=by
  show _=_;rw[Bool.eq_iff_iff,bq,decide_eq_true_eq];exact⟨λh=>h.2.2.2.2.2.2.2.2.2.2,λh=>⟨h1,h2,h3,h4,h5,h6,h7,h8,h9,h10,h⟩⟩
 go_wp2_with fail;go_ret;exact⟨by rw[HY.Z];rfl,HL.Z⟩
namespace Mv
structure St where
 n:Nat
 v:Value
def fu(o:Oper):Bool:=match o.op with| .move _| .assign _| .pick _ _ _| .build _ _| .load _ _| .binOp _ _ _ _ _| .unOp _ _ _| .convert _ _ _| .fieldAddr _ _ _| .field _ _ _| .indexAddr _ _ _| .index _ _ _| .extract _ _| .slice _ _ _ _ _=>true|_=>false
def mv(o:Oper):Bool:=!fu o
section
variable {P:Program} {ops:Array Oper} {md:Region.Mode} {σ:Type} {C:σ->World->Prop}
def stillUpon(w:World)(v:Value):Result Next->Prop
 | .ok (.value u) w'=>w'=w/\u=v
 | .ok .skip w'=>w'=w/\v=undef
 |_=>False
def dh(P:Program)(R:Value->World->Prop):Result Next->Prop
 | .ok (.value u) w'=>R u w'
 | .ok .skip w'=>R undef w'
 | .ok (.enter f args) w'=>Calls P f args w' λe w''=>∃v,e= .returned v/\R v w''
 |_=>False
theorem eH{R':Value->World->Prop}(h:∀v w,R v w->R' v w){r:Result Next}(hr:dh P R r):dh P R' r:=by
 unfold dh at*;split at hr
 ·exact h _ _ hr
 ·exact h _ _ hr
 ·exact hr.mono λe w' hh=>by obtain⟨v,he,hR⟩:=hh;exact⟨v,he,h _ _ hR⟩
 exact hr
theorem kZ{r:Result Next}(hr:dh P R r)(hex:∀f args w (R':Ending->World->Prop),Calls P f args w R'->∃e w',R' e w'):∃v w,R v w:=by
 unfold dh at hr;split at hr
 ·exact⟨_,_,hr⟩
 ·exact⟨_,_,hr⟩
 ·obtain⟨e,w',v,_,hR⟩:=hex _ _ _ _ hr;exact⟨v,w',hR⟩
 exact hr.elim
def fR(P:Program)(C:σ->World->Prop)(o:Oper)(a:Act)(v:Value):Prop:=∀w,(∃s,C s w)->stillUpon w v ((execOp a.eval o).run P w)
def Na(P:Program)(C:σ->World->Prop)(s:σ)(o:Oper)(a:Act)(K:σ->Value->Prop):Prop:=∀w,C s w->dh P (λv w'=>∃s',C s' w'/\K s' v) ((execOp a.eval o).run P w)
def LX(P:Program)(ops:Array Oper)(C:σ->World->Prop)(o:Oper)(a:Act)(s:σ)(K:σ->Act->Prop):Prop:=
 (Region.wanted o (yielded ops a.tmps)=true/\((mv o=true/\Na P C s o a (λs' v=>K s' (a.put o.dst v)))\/(mv o=false/\∃v,fR P C o a v/\K s (a.put o.dst v))))\/
 (Region.wanted o (yielded ops a.tmps)=false/\K s (a.put o.dst undef))
theorem xL{u:Value}{s:σ}(hC:C s w)(h:fR P C o a u)(k:fR P C o a v):u=v:=by
 have h1:=h w ⟨s,hC⟩;have h2:=k w ⟨s,hC⟩;generalize (execOp a.eval o).run P w=r at*;cases r with
 |ok n w'=>
  cases n<;>simp only[stillUpon] at h1 h2
  ·exact h1.2.symm.trans h2.2
  exact h1.2.trans h2.2.symm
 |halt x w'=>simp only[stillUpon] at h1
def dS(P:Program)(ops:Array Oper)(C:σ->World->Prop)(i:Nat)(K:σ->Act->Prop)(s:σ)(a:Act):Prop:=
 match ops[i]? with
 |none=>K s a
 |some o=>LX P ops C o a s K
def wpAnyL(P:Program)(md:Region.Mode)(ops:Array Oper)(C:σ->World->Prop)(Q:σ->Act->Prop):Nat->Array Bool->σ->Act->Prop
 |0,listed,s,a=>Region.ready md ops listed=[]/\Q s a
 |fuel+1,listed,s,a=>(Region.ready md ops listed=[]->Q s a)/\∀i∈Region.ready md ops listed,dS P ops C i (wpAnyL P md ops C Q fuel (listed.setIfInBounds i true)) s a
def NE(C:σ->World->Prop)(s:σ):Prop:=∃w,C s w
theorem LX.mono{s:σ}{K K':σ->Act->Prop}(hs:NE C s)(h:∀s a,NE C s->K s a->K' s a)(hh:LX P ops C o a s K):LX P ops C o a s K':=by
 rcases hh with⟨hw,⟨hm,hk⟩|⟨hm,v,hv,hk⟩⟩|⟨hw,hk⟩
 ·exact .inl ⟨hw,.inl ⟨hm,λw hC=>eH (λv w' hh=>by obtain⟨s',h1,h2⟩:=hh;exact⟨s',h1,h _ _ ⟨_,h1⟩ h2⟩) (hk w hC)⟩⟩
 ·exact .inl ⟨hw,.inr ⟨hm,v,hv,h _ _ hs hk⟩⟩
 exact .inr ⟨hw,h _ _ hs hk⟩
theorem Aw{s:σ}{K K':σ->Act->Prop}(hs:NE C s)(h:∀s a,NE C s->K s a->K' s a)(hh:dS P ops C i K s a):dS P ops C i K' s a:=by
 unfold dS at*;cases ho:ops[i]? with
 |none=>rw[ho] at hh;exact h _ _ hs hh
 |some o=>rw[ho] at hh;exact LX.mono hs h hh
theorem o8{s:σ}{K:σ->Act->Prop}{K':Act->World->Prop}(hC:C s w)(h:∀s a w',C s w'->K s a->K' a w')(hh:dS P ops C i K s a):wpOp P ops Q' i K' a w:=by
 unfold dS at hh;unfold wpOp;split
 ·rename_i ho;simp only[ho] at hh;exact h _ _ _ hC hh
 rename_i o ho;simp only[ho] at hh;rcases hh with⟨hw,hy⟩|⟨hw,hk⟩
 ·simp only[hw,if_true]
  refine .inl ?_;unfold Oper.wp;rcases hy with⟨_,hk⟩|⟨_,v,hs,hk⟩
  ·have h3:=hk w hC
   generalize (execOp a.eval o).run P w=r at*;cases r with
   |ok n w'=>
    cases n<;>simp only[dh] at h3<;>simp only[Oper.upon]
    ·obtain⟨s',h4,h5⟩:=h3;exact h _ _ _ h4 h5
    ·obtain⟨s',h4,h5⟩:=h3;exact h _ _ _ h4 h5
    exact h3.mono λe w'' ⟨v,he,s',h4,h5⟩=>by subst he;exact h _ _ _ h4 h5
   |halt x w'=>simp only[dh] at h3
  have h3:=hs w ⟨_,hC⟩;generalize (execOp a.eval o).run P w=r at*;cases r with
  |ok n w'=>
   cases n<;>simp only[stillUpon] at h3<;>simp only[Oper.upon]
   ·obtain⟨rfl,rfl⟩:=h3;exact h _ _ _ hC hk
   obtain⟨rfl,rfl⟩:=h3;exact h _ _ _ hC hk
  |halt x w'=>simp only[stillUpon] at h3
 simp only[hw];exact h _ _ _ hC hk
theorem nu{Q:σ->Act->Prop}(hQ:∀s a w,C s w->Q s a->Q' .normal a w):∀(fuel:Nat) (listed:Array Bool) (s:σ) (a:Act) (w:World),C s w->
  wpAnyL P md ops C Q fuel listed s a->wpAny P md ops Q' fuel listed a w
 |0,_,_,_,_,hw,h=>⟨h.1,hQ _ _ _ hw h.2⟩
 |fuel+1,_,_,_,_,hw,h=>⟨λh0=>hQ _ _ _ hw (h.1 h0),λi hi=>o8 hw (λs' a' w' hw'=>nu hQ fuel _ s' a' w' hw') (h.2 i hi)⟩
theorem LX.dS{s:σ}(hi:ops[i]? =some o){K:σ->Act->Prop}(h:LX P ops C o a s K):dS P ops C i K s a:=by
 unfold Mv.dS;simp only[hi];exact h
theorem Ds(hex:∀f args w (R':Ending->World->Prop),Calls P f args w R'->∃e w',R' e w'){oi oj:Oper}(hj:ops[j]? =some oj)(hap:oi.apart ops oj=true)
  (hsi:∀cs b,oi.op≠ .select cs b) (hsj:∀cs b,oj.op≠ .select cs b) (hcc:mv oi=false\/mv oj=false) {K:σ->Act->Prop} {a:Act} {s:σ} (hne:NE C s)
  (h:LX P ops C oi a s (λs1 a1=>dS P ops C j K s1 a1)):dS P ops C j (λs' a'=>LX P ops C oi a' s' K) s a:=by
 obtain⟨h1,h2,h3⟩:=Oper.apart_spec hap;have ei:∀u:Value,execOp (a.put oj.dst u).eval oi=execOp a.eval oi:=λu=>execOp_put oi hsi a oj.dst u h3
 have wi:∀u:Value,Region.wanted oi (yielded ops (a.put oj.dst u).tmps)=Region.wanted oi (yielded ops a.tmps):=λu=>wanted_put oi a oj.dst u h3
 have ej:∀v:Value,execOp (a.put oi.dst v).eval oj=execOp a.eval oj:=λv=>execOp_put oj hsj a oi.dst v h1
 have wj:∀v:Value,Region.wanted oj (yielded ops (a.put oi.dst v).tmps)=Region.wanted oj (yielded ops a.tmps):=λv=>wanted_put oj a oi.dst v h1
 have cm:∀u v:Value,(a.put oi.dst v).put oj.dst u=(a.put oj.dst u).put oi.dst v:=λu v=>Act.put_comm a v u h2
 have sj:∀u v:Value,fR P C oj (a.put oi.dst v) u->fR P C oj a u:=λu v hs=>by unfold fR at*;rw[ej] at hs;exact hs
 have si:∀u v:Value,fR P C oi a v->fR P C oi (a.put oj.dst u) v:=λu v hs=>by unfold fR at*;rw[ei];exact hs
 unfold Mv.dS at*;simp only[hj] at*;obtain⟨w0,Og⟩:=hne;rcases h with⟨hw,⟨hm,hk⟩|⟨hm,v,hv,hk⟩⟩|⟨hw,hk⟩
 ·
  have V6:mv oj=false:=by
   rcases hcc with h|h
   ·rw[hm] at h;cases h
   exact h
  obtain⟨v0,w0',s0',aeB,uw⟩:=kZ (hk w0 Og) hex;rcases uw with⟨rX,⟨hm2,_⟩|⟨_,u,hu,_⟩⟩|⟨rX,_⟩
  ·rw[V6] at hm2;cases hm2
  ·rw[wj] at rX
   have hu':=sj u v0 hu;refine .inl ⟨rX,.inr ⟨V6,u,hu',.inl ⟨by rw[wi];exact hw,.inl ⟨hm,λw hC=> ?_⟩⟩⟩⟩;rw[ei];refine eH (λv w' hh=> ?_) (hk w hC);obtain⟨s',Kd,hL⟩:=hh;refine⟨s',Kd,?_⟩;rcases hL with⟨DF,⟨hm2,_⟩|⟨_,u2,hu2,hK2⟩⟩|⟨DF,_⟩
   ·rw[V6] at hm2;cases hm2
   ·have:u2=u:=xL hC (sj u2 v hu2) hu'
    subst this;rw[<-cm];exact hK2
   rw[wj,rX] at DF;cases DF
  rw[wj] at rX;refine .inr ⟨rX,.inl ⟨by rw[wi];exact hw,.inl ⟨hm,λw hC=> ?_⟩⟩⟩;rw[ei];refine eH (λv w' hh=> ?_) (hk w hC);obtain⟨s',Kd,hL⟩:=hh;refine⟨s',Kd,?_⟩;rcases hL with⟨DF,_⟩|⟨_,hK2⟩
  ·rw[wj,rX] at DF;cases DF
  rw[<-cm];exact hK2
 ·
  rcases hk with⟨rX,⟨hm2,hk2⟩|⟨hm2,u,hu,hK⟩⟩|⟨rX,hK⟩
  ·rw[wj] at rX
   refine .inl ⟨rX,.inl ⟨hm2,λw hC=> ?_⟩⟩;have:=hk2 w hC;rw[ej] at this;refine eH (λu w' hh=> ?_) this;obtain⟨s',Kd,hK⟩:=hh;exact⟨s',Kd,.inl ⟨by rw[wi];exact hw,.inr ⟨hm,v,si u v hv,by rw[<-cm];exact hK⟩⟩⟩
  ·rw[wj] at rX
   exact .inl ⟨rX,.inr ⟨hm2,u,sj u v hu,.inl ⟨by rw[wi];exact hw,.inr ⟨hm,v,si u v hv,by rw[<-cm];exact hK⟩⟩⟩⟩
  rw[wj] at rX;exact .inr ⟨rX,.inl ⟨by rw[wi];exact hw,.inr ⟨hm,v,si undef v hv,by rw[<-cm];exact hK⟩⟩⟩

 rcases hk with⟨rX,⟨hm2,hk2⟩|⟨hm2,u,hu,hK⟩⟩|⟨rX,hK⟩
 ·rw[wj] at rX
  refine .inl ⟨rX,.inl ⟨hm2,λw hC=> ?_⟩⟩;have:=hk2 w hC;rw[ej] at this;refine eH (λu w' hh=> ?_) this;obtain⟨s',Kd,hK⟩:=hh;exact⟨s',Kd,.inr ⟨by rw[wi];exact hw,by rw[<-cm];exact hK⟩⟩
 ·rw[wj] at rX
  exact .inl ⟨rX,.inr ⟨hm2,u,sj u undef hu,.inr ⟨by rw[wi];exact hw,by rw[<-cm];exact hK⟩⟩⟩
 rw[wj] at rX;exact .inr ⟨rX,.inr ⟨by rw[wi];exact hw,by rw[<-cm];exact hK⟩⟩
theorem getD_both{listed:Array Bool}(h:listed.getD i true=false):listed.getD i false=false:=by
 rcases Nat.lt_or_ge i listed.size with h'|h'
 ·simp[h'] at h ⊢;exact h
 simp[Array.getElem?_eq_none h']
def du(P:Program)(ops:Array Oper)(C:σ->World->Prop)(Q:σ->Act->Prop):List Oper->σ->Act->Prop
 |[],s,a=>Q s a
 |o::rest,s,a=>LX P ops C o a s (du P ops C Q rest)
/-! ###Steps of the walk -/
theorem z4(s:Sem Value)(w:World)(f:FuncId)(args:Array Value)(w':World):(do pure (.value (<-s)):Sem Next).run P w≠ .ok (.enter f args) w':=by
 rw[Sem.run_bind];cases s.run P w<;>simp[Result.andThen,Sem.run_pure]
theorem kX(ho:fu o=true)(a:Act)(w:World)(f:FuncId)(args:Array Value)(w':World):(execOp a.eval o).run P w≠ .ok (.enter f args) w':=by
 unfold fu at ho;unfold execOp;split at ho
 case h_3 c x y hop=>
  simp only[hop];rw[Sem.run_bind];cases (asBool (a.eval c)).run P w<;>simp[Result.andThen,Sem.run_pure]
 case h_15=>cases ho
 all_goals
  rename_i hop;simp only[hop]
  first|exact z4 _ w f args w'|(rw[Sem.run_pure];intro h;cases h)
theorem bI{Q:σ->Act->Prop}{s:σ}(h:Q s a):du P ops C Q [] s a:=h
theorem vU{Q:σ->Act->Prop}{s:σ}:∀(bQ rest:List Oper) (a:Act),bQ.all fu=true->
  wpQuiet P ops (λw'=>∃x:a9 (λw=>∃s,C s w),w'=x.W) (λa'=>du P ops C Q rest s a') bQ a->du P ops C Q (bQ++rest) s a
 |[],rest,a,_,h=>h
 |o::bQ,rest,a,hp,h=>by
  rw[List.all_cons,Bool.and_eq_true] at hp;obtain⟨hpl,hp'⟩:=hp;have hnc:mv o=false:=by unfold mv;rw[hpl];rfl
  unfold wpQuiet at h
  by_cases hw:Region.wanted o (yielded ops a.tmps)=true
  ·rw[if_pos hw] at h
   obtain⟨v,h1,h2⟩:=h;refine .inl ⟨hw,.inr ⟨hnc,v,λw hC=> ?_,vU bQ rest _ hp' h2⟩⟩;have h3:=h1 w ⟨⟨w,hC⟩,rfl⟩;unfold Oper.quietAt at h3;have h4:=λf args w'=>kX (P:=P) hpl a w f args w'
   generalize (execOp a.eval o).run P w=r at*;cases r with
   |ok n w'=>
    cases n<;>simp only[Oper.quietUpon] at h3<;>simp only[stillUpon]
    ·exact h3
    ·exact h3
    exact(h4 _ _ _ rfl).elim
   |halt x w'=>simp only[Oper.quietUpon] at h3
  rw[if_neg hw] at h;exact .inr ⟨by simpa using hw,vU bQ rest _ hp' h⟩
theorem aX{Q:σ->Act->Prop}{s:σ}(n:Nat)(hp:(l.take n).all fu=true)
  (h:wpQuiet P ops (λw'=>∃x:a9 (λw=>∃s,C s w),w'=x.W) (λa'=>du P ops C Q (l.drop n) s a') (l.take n) a):du P ops C Q l s a:=by
 have:=vU (l.take n) (l.drop n) a hp h;rwa[List.take_append_drop] at this
theorem rP{Q:σ->Act->Prop}{s:σ}(hw:Region.wanted o (yielded ops a.tmps)=true)(hm:mv o=true)
  (h:∀w,C s w->dh P (λv w'=>∃s',C s' w'/\du P ops C Q rest s' (a.put o.dst v)) ((execOp a.eval o).run P w)):du P ops C Q (o::rest) s a:=.inl ⟨hw,.inl ⟨hm,h⟩⟩
theorem frame{Q:σ->Act->Prop}{s:σ}{a':Act}(h:du P ops C Q l s a')(e:a=a':=by simp only[Act.put,List.setIfInBounds_toArray,List.set_cons_succ,List.set_cons_zero];exact rfl):du P ops C Q l s a:=e▸h
theorem BK{Q:σ->Act->Prop}{s:σ}(hw:Region.wanted o (yielded ops a.tmps)=true)(hm:mv o=true)
  (h:∀w,C s w->∃v w' s',(execOp a.eval o).run P w= .ok (.value v) w'/\C s' w'/\du P ops C Q rest s' (a.put o.dst v)):du P ops C Q (o::rest) s a:=
 rP hw hm λw hC=>by
  obtain⟨v,w',s',h1,h2,h3⟩:=h w hC;rw[h1];exact⟨s',h2,h3⟩
theorem Dr{Q:σ->Act->Prop}{s:σ}(hw:Region.wanted o (yielded ops a.tmps)=true)(t:TypeId)(n:Nat)(xs:Array (Nat×Operand))(ho:o.op= .buildSlice t n xs)
  (h:∀w,C s w->∃v w' s',(Instr.buildSlice t n (xs.map λ(i,x)=>(i,a.eval x))).run P w= .ok v w'/\C s' w'/\du P ops C Q rest s' (a.put o.dst v)):du P ops C Q (o::rest) s a:=by
 refine BK hw (by unfold mv fu;rw[ho];rfl) λw hC=> ?_
 obtain⟨v,w',s',h1,h2,h3⟩:=h w hC;refine⟨v,w',s',?_,h2,h3⟩;unfold execOp;simp only[ho,Sem.run_bind,h1,Result.andThen_ok,Sem.run_pure]
theorem j6{Q:σ->Act->Prop}{s:σ}(hw:Region.wanted o (yielded ops a.tmps)=true)(t:TypeId)(n i:Nat)(x:Operand)(ho:o.op= .buildSlice t n #[(i,x)])
  (h:∀w,C s w->∃v w' s',(Instr.buildSlice t n #[(i,a.eval x)]).run P w= .ok v w'/\C s' w'/\du P ops C Q rest s' (a.put o.dst v)):du P ops C Q (o::rest) s a:=
 Dr hw t n #[(i,x)] ho (by simpa using h)
theorem j7{Q:σ->Act->Prop}{s:σ}(hw:Region.wanted o (yielded ops a.tmps)=true)(y x:Operand)(t:TypeId)
  (ho:o.op= .call {callee:=.builtin .append,args:=#[y,x],argTypes:=#[t,t]})
  (h:∀w,C s w->∃v w' s',(Builtin.append_ #[t,t] o.type #[a.eval y,a.eval x]).run P w= .ok v w'/\C s' w'/\du P ops C Q rest s' (a.put o.dst v)):du P ops C Q (o::rest) s a:=by
 refine BK hw (by unfold mv fu;rw[ho];rfl) λw hC=> ?_
 obtain⟨v,w',s',h1,h2,h3⟩:=h w hC;refine⟨v,w',s',?_,h2,h3⟩;unfold execOp;simp only[ho,resolve,invoke,builtin,Sem.run_bind,Sem.run_pure,Result.andThen_ok,List.map_toArray,List.map_cons,List.map_nil,h1]
theorem iN(f:FuncId)(args:Array Value)(w:World)(R:Ending->World->Prop)(h:Calls P f args w R):∃e w',R e w':=by
 obtain⟨e,w',_,hR,_⟩:=h [];exact⟨e,w',hR⟩
end
end Mv
def Cs(f:Nat->List Value):Nat->List Value
 |0=>[]
 |k+1=>Cs f k++f k
theorem od(f:Nat->List Value)(n:Nat):Cs f (n+1)=Cs f n++f n:=rfl
theorem di(hf:∀i,(f i).length=m)(n:Nat):(Cs f n).length=n*m:=by
 induction n with
 |zero=>simp[Cs]
 |succ n ih=>rw[Cs,List.length_append,ih,hf,Nat.succ_mul]
theorem xf(hf:∀i,(f i).length=m){n:Nat}(hi:i<n)(hj:j<m):(Cs f n)[i*m+j]? =(f i)[j]?:=by
 induction n with
 |zero=>omega
 |succ n ih=>
  rw[Cs]
  by_cases h:i<n
  ·rw[List.getElem?_append_left,ih h]
   rw[di hf];have:(i+1)*m<=n*m:=Nat.mul_le_mul_right m h;rw[Nat.succ_mul] at this;omega
  obtain rfl:i=n:=by omega
  rw[List.getElem?_append_right (by rw[di hf];omega),di hf]
  congr 1;omega
theorem iS{g:Nat->List Value}{n:Nat}(h:∀i,i<n->f i=g i):Cs f n=Cs g n:=by
 induction n with
 |zero=>rfl
 |succ n ih=>rw[Cs,Cs,ih λi hi=>h i (by omega),h n (by omega)]
theorem Hw(hf:∀i,∀v∈f i,v.oneCell'=true)(n:Nat):∀v∈Cs f n,v.oneCell'=true:=by
 induction n with
 |zero=>intro v hv;cases hv
 |succ n ih=>
  intro v hv;rw[Cs] at hv;rcases List.mem_append.1 hv with h|h
  ·exact ih v h
  exact hf n v h
theorem xg(f:Nat->List Value)(k m:Nat):Cs f k++Cs (λi=>f (k+i)) m=Cs f (k+m):=by
 induction m with
 |zero=>simp[Cs]
 |succ m ih=>show _++(_++_)=Cs f (k+m)++_;rw[<-List.append_assoc,ih];rfl
def aM(w:World)(b off m n:Nat)(f:Nat->List Value):Prop:=∀i,i<n->∀j v,(f i)[j]? =some v->w.cell? ⟨b,off+i*m+j,none⟩=some v
def cU(w:World)(a:Option Addr)(m n:Nat)(f:Nat->List Value):Prop:=n=0\/∃b off,a=some ⟨b,off,none⟩/\aM w b off m n f
theorem aM.range{b n:Nat}(h:aM w b off m n f)(i:Nat)(hi:i<n):w.rangeAt b (off+i*m) (f i):=λj v hv=>h i hi j v hv
theorem aM.below{b n:Nat}(h:aM w b off m n f)(hb:Below B w w')(hB:b<B):aM w' b off m n f:=
 λi hi j v hv=>(hb.cell (p:=⟨b,off+i*m+j,none⟩) hB).trans (h i hi j v hv)
theorem aM.lt{b n:Nat}(h:aM w b off m n f)(hn:0<n)(hf:f 0≠[]):b<w.heap.size:=by
 cases e:f 0 with
 |nil=>exact absurd e hf
 |cons x xs=>exact World.block_lt_of_cell? w _ (h 0 hn 0 x (by rw[e];rfl))
theorem cU.below{a:Option Addr}{n:Nat}(h:cU w a m n f)(hf:f 0≠[])(hb:Below w.heap.size w w'):cU w' a m n f:=by
 by_cases h0:n=0
 ·exact .inl h0
 rcases h with h|⟨b,off,rfl,h⟩
 ·exact .inl h
 exact .inr ⟨b,off,rfl,h.below hb (h.lt (by omega) hf)⟩
def au(w:World)(base:Nat)(e:TypeId)(m:Nat)(v:Value)(n:Nat)(f:Nat->List Value):Prop:=w.ownsRow base e m v n (Cs f n)
section
variable {w w':World} {base:Nat} {e:TypeId} {m:Nat} {v:Value} {n:Nat} {f:Nat->List Value}
theorem au.nil(w:World)(base:Nat)(e:TypeId)(m:Nat)(f:Nat->List Value):au w base e m (.slice none 0 0) 0 f:=World.ownsRow_nil w base e m
theorem au.below(h:au w base e m v n f)(hb:Below w.heap.size w w'):au w' base e m v n f:=World.ownsRow.kept h (bB (row:=none) hb) (Classical.em _)
theorem au.alloc(h:au w base e m v n f)(o:Obj):au (w.alloc o) base e m v n f:=World.ownsRow.alloc h o
theorem au.kept{row:Option Nat}(h:au w base e m v n f)(hg:w.grownBy w' row)(hne:v.ownBlock=none\/v.ownBlock≠row):au w' base e m v n f:=World.ownsRow.kept h hg hne
theorem au.low{base':Nat}(h:au w base e m v n f)(hb:base'<=base):au w base' e m v n f:=by
 refine⟨h.1,?_⟩;rcases h.2 with h'|⟨g',cap',cur,hv,hbb,hr⟩
 ·exact .inl h'
 exact .inr ⟨g',cap',cur,hv,by omega,hr⟩
theorem au.form(h:au w base e m v n f):∃a cap,v= .slice a n cap:=by
 rcases h.2 with⟨rfl,rfl⟩|⟨g,cap,cur,rfl,_⟩
 ·exact⟨none,0,rfl⟩
 exact⟨_,cap,rfl⟩
theorem au.nZ(h:au w base e m v n f)(hn:0<n):∃g cap,v= .slice (some ⟨g,0,none⟩) n cap/\base<=g/\g<w.heap.size/\n<=cap/\cap<=maxLen:=by
 rcases h.2 with⟨_,h0⟩|⟨g,cap,cur,hv,hb,hg,hn,hc,_⟩
 ·omega
 exact⟨g,cap,hv,hb,(Array.getElem?_eq_some_iff.1 hg).1,hn,hc⟩
theorem au.congr{g:Nat->List Value}(h:au w base e m v n f)(he:∀i,i<n->f i=g i):au w base e m v n g:=by
 unfold au;rw[<-iS he];exact h
theorem au.row{a:Option Addr}(h:au w base e m (.slice a n cap) n f)(hf:∀i,(f i).length=m):cU w a m n f:=by
 rcases h.2 with⟨hv,h0⟩|⟨g,cap',cur,hv,hb,hg,hn,hc,hs,ht⟩
 ·exact .inl h0
 injection hv with h1 h2 h3
 subst h1;refine .inr ⟨g,0,rfl,λi hi j v hj=> ?_⟩;have hjm:j<m:=by have:=(List.getElem?_eq_some_iff.1 hj).1;rwa[hf] at this
 rw[<-xf hf hi hjm,<-ht] at hj;have hlt:=(List.getElem?_eq_some_iff.1 hj).1;rw[List.getElem?_take_of_lt (by rw[List.length_take] at hlt;omega)] at hj;rw[Nat.zero_add];exact aF hg (by simpa using hj)
theorem au.bQ(h:au w base e m (.slice (some ⟨g,0,none⟩) n cap) n f)(hf:∀i,(f i).length=m):aM w g 0 m n f:=by
 rcases h.row hf with h0|⟨b,off,he,hs⟩
 ·intro i hi;omega
 injection he with he;injection he with h1 h2;subst h1 h2;exact hs
theorem au.append{k:Nat}{news:List Value}(h:w.ownsRow base e m v (n+k) (Cs f n++news))(hk:news=Cs (λi=>f (n+i)) k):au w base e m v (n+k) f:=by
 unfold au;rw[<-xg,<-hk];exact h
end
theorem eN(w:World)(vs:List Value)(T:TypeId):∀(j:Nat) (u:Value),vs[j]? =some u->(w.alloc (.cells vs.toArray T)).cell? ((⟨w.heap.size,0,none⟩:Addr).add j)=some u:=by
 intro j u hj;rw[bA,Nat.zero_add];exact aF (heap_alloc_new w _) (by simpa using hj)
section
variable {P:Program} {F:Fence} {nF:Nat} {ops:Array Oper} {rest:List Oper} {o:Oper} {a:Act} {w:World} {Q:Exit->Act->World->Prop}
theorem qH(hw:Region.wanted o (yielded ops a.tmps)=true)(hc:∀c,o.op≠ .call c)(hd:∀c,o.op≠ .defer c)(hr:(execOp a.eval o).run P w= .ok (.value v) w')
  (h:wpListIn F nF P ops Q rest (a.put o.dst v) w'):wpListIn F nF P ops Q (o::rest) a w:=by
 refine wpListIn_step λK hK=> ?_
 simp only[hw,if_true];unfold Oper.wpIn;refine⟨?_,?_⟩
 ·intro f hf
  unfold Oper.about at hf;split at hf
  ·rename_i c ho;exact absurd ho (hc c)
  cases hf
 rw[Oper.semAt_plain F _ _ hd,hr];exact hK _ _ h
theorem ox(hw:Region.wanted o (yielded ops a.tmps)=true)(hc:∀c,o.op≠ .call c)(hd:∀c,o.op≠ .defer c)(hr:(execOp a.eval o).run P w= .ok .skip w')
  (h:wpListIn F nF P ops Q rest (a.put o.dst undef) w'):wpListIn F nF P ops Q (o::rest) a w:=by
 refine wpListIn_step λK hK=> ?_
 simp only[hw,if_true];unfold Oper.wpIn;refine⟨?_,?_⟩
 ·intro f hf
  unfold Oper.about at hf;split at hf
  ·rename_i c ho;exact absurd ho (hc c)
  cases hf
 rw[Oper.semAt_plain F _ _ hd,hr];exact hK _ _ h
theorem iZ(hw:Region.wanted o (yielded ops a.tmps)=true)(T:TypeId)(p:Operand)(ho:o.op= .load T p)
  (g:Nat) (cs:Array Value) (d:TypeDesc) (hx:a.eval p= .pointer (some ⟨g,0,none⟩)) (hI:At w g T cs) (hu:P.underlying T=some d) (hd:(match d with| .struct _| .array _ _=>true|_=>false)=true) (hi:(P.info? T).map (·.size)=some cs.size)
  (h:wpListIn F nF P ops Q rest (a.put o.dst (.agg cs)) w):wpListIn F nF P ops Q (o::rest) a w:=by
 refine qH hw (by rw[ho];intro c h;cases h) (by rw[ho];intro c h;cases h) ?_ h;unfold execOp;simp only[ho,hx,Instr.loadAt,Instr.sureAddr,Sem.run_bind,Sem.run_pure,Result.andThen_ok,run_loadVar_row w g T T cs (0,0) d hI hu hd hi]
theorem fQ(hw:Region.wanted o (yielded ops a.tmps)=true)(T:TypeId)(p q:Operand)(ho:o.op= .store T p q)
  (g:Nat) (cs old:Array Value) (hx:a.eval p= .pointer (some ⟨g,0,none⟩)) (hy:a.eval q= .agg cs) (hI:At w g T old) (hi:(P.info? T).map (·.size)=some cs.size) (hs:old.size=cs.size) (h1:cs.all (·.oneCell')=true)
  (h:∀w',At w' g T cs->az g w w'->wpListIn F nF P ops Q rest (a.put o.dst undef) w'):wpListIn F nF P ops Q (o::rest) a w:=by
 refine ox hw (by rw[ho];intro c h;cases h) (by rw[ho];intro c h;cases h) (w':=w.setRow g cs) ?_ (h _ (setRow_heap w g _ cs _ _ hI) (gM w g _ hI hs.symm));unfold execOp;simp only[ho,hx,hy,Instr.storeAt,Instr.sureAddr,Sem.run_bind,Sem.run_pure,Result.andThen_ok,run_storeVar_row w g T T old cs hI hi hs h1]
end
section
variable {P:Program}
theorem aC.bel{X:World->Prop}(h:aC B X){W W':World}(hs:X W)(hb:Below W.heap.size W W'):X W':=h W W' hs ⟨hb.os,hb.tape,hb.output,hb.size,λk _ hl=>hb.block k hl⟩
theorem aC.at{b:Nat}(t:TypeId)(cs:Array Value)(hb:b<B):aC B (λW=>At W b t cs):=λ_ _ hs hg=>(hg.block b hb (At.lt hs)).trans hs
theorem xA{g:Operand}{ps:Array Tmp}{Mb L9:Code}{gf:Nat}{lb:Array Value}
  (hg:a.eval g= .func (.func gf) #[] lb) (eg:∀args w,(callFunc gf args).run P w= .ok (.enter gf args) w)
  {iV:Nat->Array Value} {N:Nat} {eA:Nat->World->Prop} (hit:lF Fence.wide 4 P gf lb iV N (λ_=>False) eA) (hps:∀k,(iV k).size=ps.size)
  (T:TypeId) (cs:Nat->Array Value)
  (J:Nat->World->Prop) (Jx:Code->Nat->World->Prop)
  (hJ:∀k,aC w.heap.size (J k)) (AV:∀c k,aC w.heap.size (Jx c k)) (hN:∀k,aC w.heap.size (eA k)) (h0:J 0 w) (hn0:eA 0 w) (A1:Nat->Nat->Act)
  (assign:∀(l k:Nat) (W:World) (K:Act->World->Prop),k<N->(∀p W',p=W.heap.size->Below W.heap.size W W'->At W' p T (cs k)->K (A1 k p) W')->
   Mb.wpIn (Fence.wide.inRound l) 3 P (Exit.then K (λ_ _ _=>False)) {tmps:=(ps.zip (iV k)).foldl (λt (p,v)=>t.setIfInBounds p v) a.tmps,defers:=[]} W)
  (body:∀(l k p:Nat) (W:World),k<N->J k W->eA k W->At W p T (cs k)->L9.wpIn (Fence.wide.inRound l) 3 P (nH w.heap.size J Jx eA k W) (A1 k p) W)
  (done:∀(D:Nat) (W:World),w.heap.size<=D->J N W->W.heap[D]? =some (.deferred (some []))->Q .normal {a with defers:={target:=.collected D,args:=#[]}::a.defers} W)
  (stop:∀(D:Nat) (c:Code) (k:Nat) (W:World),w.heap.size<=D->k<N->Jx c k W->W.heap[D]? =some (.deferred (some []))->c.wp P Q {a with defers:={target:=.collected D,args:=#[]}::a.defers} W):
  (Code.rangeFunc g ps Mb L9).wp P Q a w:=by
 refine(wpIn_wide (n:=5)).1 ?_;exact jT rfl (by decide) hg trivial eg hit (λr h=>h.elim) hps J Jx (λk a' W=>∃p,a'=A1 k p/\At W p T (cs k))
  (aC.own hJ) (λc=>aC.own (AV c)) (aC.own hN)
  (λa' k W W' row hs hgr hr=>by
   obtain⟨p,he,hA⟩:=hs;refine⟨p,he,(hgr.block p hA.lt (λe=> ?_)).trans hA⟩;obtain⟨_,o,ho,hc⟩:=hr p e.symm;have:some (Obj.cells (cs k) T (0,0))=some o:=hA.symm.trans ho;injection this with this
   subst this;cases hc)
  (λk A C hs ht=>(hJ k).turns hs ht) (λc k A C hs ht=>(AV c k).turns hs ht) h0 hn0
  (λl k W K hk hj hn hK=>assign l k W K hk (λp W' _ hb hA=>hK _ _ (Below.keeps hb) ((hJ k).bel hj hb) ((hN k).bel hn hb) ⟨p,rfl,hA⟩))
  (λl k a' W hk hj hn ha=>by obtain⟨p,rfl,hA⟩:=ha;exact body l k p W hk hj hn hA)
  done (λD c k W h1 h2 h3 h4=>wpIn_wide.2 (stop D c k W h1 h2 h3 h4))
end
end Go.Proofs.YtphamecphmbipaaGreatDoor
