/- Texts of this claim, merged. -/
import Derived.Test.YtphamecphmbipaaGreatDoorZ05
set_option linter.unusedVariables false
set_option maxRecDepth 100000
set_option maxHeartbeats 16000000

namespace Go.Proofs.YtphamecphmbipaaGreatDoor
open Go.RowKit
variable {w W':World} {G S J:Int} {f:Nat->List Value} {T:TypeId} {g:Nat}
abbrev tv(kind group at' ino:Int):List Value:=[.int .u8 kind,.int .i64 group,.int .i64 at',.int .i64 ino]
def gZ(S t J:Nat)(k:Nat):List Value:=
 if k=0 then tv 1 0 0 0 else if k=1 then tv 2 0 0 0 else if k<2+J then tv 3 0 ((k:Int)-2) 0 else
 if(k-(2+J))%S=0 then tv 4 ((k-(2+J))/S:Nat) 0 0 else
 if(k-(2+J))%S=1 then tv 5 ((k-(2+J))/S:Nat) 1 0 else
 if(k-(2+J))%S<2+t then tv 6 ((k-(2+J))/S:Nat) ((k-(2+J))%S:Nat) (1+((k-(2+J))/S:Nat)*(4*(t:Int))+4*(((k-(2+J))%S:Nat)-2)) else
 tv 7 ((k-(2+J))/S:Nat) ((k-(2+J))%S:Nat) 0
theorem qd(S t J k:Nat):(gZ S t J k).length=4:=by unfold gZ;repeat(first|split|rfl)
theorem ER(S t J:Nat){i:Nat}(h:i<J):gZ S t J (2+i)=tv 3 0 (i:Int) 0:=by
 unfold gZ;rw[if_neg (by omega),if_neg (by omega),if_pos (by omega)];rw[show((2+i:Nat):Int)-2=(i:Int) by omega]
theorem z5(S t J:Nat)(γ:Nat){a:Nat}(ha:a<S):gZ S t J (2+J+γ*S+a)=
  if a=0 then tv 4 γ 0 0 else if a=1 then tv 5 γ 1 0 else if a<2+t then tv 6 γ a (1+(γ:Int)*(4*(t:Int))+4*((a:Int)-2)) else tv 7 γ a 0:=by
 have e1:(2+J+γ*S+a-(2+J))%S=a:=by
  rw[show 2+J+γ*S+a-(2+J)=γ*S+a by omega,Nat.mul_comm,Nat.mul_add_mod,Nat.mod_eq_of_lt ha]
 have e2:(2+J+γ*S+a-(2+J))/S=γ:=by
  rw[show 2+J+γ*S+a-(2+J)=γ*S+a by omega,Nat.mul_comm,Nat.mul_add_div (by omega),Nat.div_eq_of_lt ha,Nat.add_zero]
 unfold gZ;rw[if_neg (by omega),if_neg (by omega),if_neg (by omega),e1,e2]
theorem AD:(Tryz.prog.info? 134).map (λi=>(i.zero,i.size,i.bytes))=some (some (.agg #[.int .u8 0,.int .i64 0,.int .i64 0,.int .i64 0]),4,32):=by kernel_rfl
theorem zV(W:World):(zeroValue 134).run Tryz.prog W= .ok (.agg #[.int .u8 0,.int .i64 0,.int .i64 0,.int .i64 0]) W:=by kernel_rfl
theorem Ab(a b c d:Int)(w:World):(Instr.buildSlice 130 1 #[(0,.agg #[.int .u8 a,.int .i64 b,.int .i64 c,.int .i64 d])]).run Tryz.prog w= .ok (.slice (some ⟨w.heap.size,0,none⟩) 1 1) (w.alloc (.cells #[.int .u8 a,.int .i64 b,.int .i64 c,.int .i64 d] 134)):=by kernel_rfl
theorem Aa(a b c d a' b' c' d':Int)(w:World):(Instr.buildSlice 130 2 #[(0,.agg #[.int .u8 a,.int .i64 b,.int .i64 c,.int .i64 d]),(1,.agg #[.int .u8 a',.int .i64 b',.int .i64 c',.int .i64 d'])]).run Tryz.prog w= .ok (.slice (some ⟨w.heap.size,0,none⟩) 2 2) (w.alloc (.cells #[.int .u8 a,.int .i64 b,.int .i64 c,.int .i64 d,.int .u8 a',.int .i64 b',.int .i64 c',.int .i64 d'] 134)):=by kernel_rfl
structure zU(w:World)(G S I J:Int)(f:Nat->List Value)(n:Nat)(v:Value)(W:World):Prop where
 g:At W w.heap.size 23 (ai G S I J)
 own:au W (w.heap.size+1) 134 4 v n f
 bel:Below w.heap.size w W
theorem zU.app{I:Int}{n:Nat}{v v':Value}{W:World}{vs:List Value}{k:Nat}(h:zU w G S I J f n v W)
  (ho:W'.ownsRow (w.heap.size+1) 134 4 v' (n+k) (Cs f n++vs)) (hg:(W.alloc (.cells vs.toArray T)).grownBy W' v.ownBlock) (hk:vs=Cs (λi=>f (n+i)) k):zU w G S I J f (n+k) v' W':=by
 have lR:∀q,v.ownBlock=some q->w.heap.size+1<=q:=λq hq=>(World.ownsRow.lt h.own q hq).1
 have hx:=h.g.alloc (.cells vs.toArray T);exact⟨(hg.block _ hx.lt (λe=>by have:=lR _ e.symm;omega)).trans hx,au.append ho hk,(h.bel.alloc h.bel.size _).grown hg (h.bel.alloc h.bel.size _).size (λq e=>by have:=lR q e;omega)⟩
theorem nK(G S I J:Int)(w:World):Calls Tryz.prog 57 #[bV G S I J] w λe w'=>Below w.heap.size w w'/\
  (aT G S I J=false/\e= .returned (.slice none 0 0)\/aT G S I J=true/\∃v,e= .returned v/\au w' (w.heap.size+1) 134 4 v (2+J.toNat+G.toNat*S.toNat) (gZ S.toNat (I.toNat/4) J.toNat)):=by
 have HA:=ah (At.new w 23 (ai G S I J));have HL:Hd (Below w.heap.size w (w.alloc (.cells (ai G S I J) 23))):=ag.alloc af _;have hal:=zV;go_enter Tryz.func57,Tryz.ntmps57;have hA:=HA.Z;go_wp2_with (first|(refine aB rfl 23 _ rfl _ _ _ rfl hA Tryz.underlying23 rfl (by kernel_rfl) ?_))
 refine(eu G S I J _).mono ?_;rintro e w1 ⟨rfl,hb1⟩;have gU:=hA.below hb1 hA.lt;have fW:Below w.heap.size w w1:=HL.Z.trans (hb1.mono HL.Z.size);clear hA HA HL hb1;cases hm:aT G S I J with
 |false=>
  have Mo:=ah hm;clear hm;go_wp2_with fail;go_ret;exact⟨fW,.inl ⟨Mo.Z,rfl⟩⟩
 |true=>
 have HM:=ah hm;obtain⟨h1,h2,h3,h4,h5,h6,h7,h8,h9,h10,h11⟩:=(bq G S I J).1 hm;clear hm;have adZ:=Ab;have adY:=Aa;obtain⟨i0,hi,hz0,hz1,hz2⟩:=info_parts AD;obtain⟨g,hg⟩:∃g:Nat,G=(g:Int):=⟨G.toNat,by omega⟩;obtain⟨s,hs⟩:∃s:Nat,S=(s:Int):=⟨S.toNat,by omega⟩;obtain⟨t,ht⟩:∃t:Nat,I=4*(t:Int):=⟨(I/4).toNat,by omega⟩;obtain⟨j,hj⟩:∃j:Nat,J=(j:Int):=⟨J.toNat,by omega⟩;have zz:Hd (2+J.toNat+G.toNat*S.toNat=2+j+g*s/\gZ S.toNat (I.toNat/4) J.toNat=gZ s t j):=by
  subst hg hs ht hj;exact⟨by simp,by rw[Int.toNat_natCast,Int.toNat_natCast,show(4*(t:Int)).toNat/4=t by omega]⟩
 have Wm:g*s<=2048:=by have:=(Cu h1 h2 h3 h4).2;rw[hg,hs] at this;exact_mod_cast this
 have st0:Hd (zU w G S I J (gZ s t j) 2 (.slice (some ⟨w1.heap.size,0,none⟩) 2 2) (w1.alloc (.cells #[.int .u8 1,.int .i64 0,.int .i64 0,.int .i64 0,.int .u8 2,.int .i64 0,.int .i64 0,.int .i64 0] 134))):=
  ⟨gU.alloc _,⟨by simp[Cs,gZ],.inr ⟨_,2,_,rfl,gU.lt,heap_alloc_new w1 _,by omega,by unfold maxLen;omega,rfl,by simp[Cs,gZ]⟩⟩,fW.alloc fW.size _⟩
 clear gU fW;go_wp2_with fail;have Qh:=st0.Z;clear st0;go_loopw [3,4] (λv u wr=>∃(k:Nat) (a:Option Addr) (cap:Nat),k<=j/\v= .slice a (2+k) cap/\u= .int .i64 (k:Int)/\zU w G S I J (gZ s t j) (2+k) (.slice a (2+k) cap) wr) (λ_ u _=>j-(intOf u).toNat)
 case atStart=>exact⟨0,_,2,by omega,rfl,rfl,Qh⟩
 clear Qh;obtain⟨k,a,cap,hk,rfl,rfl,st0⟩:=hrel;have c3:wr.cell? ⟨w.heap.size,3,none⟩=some (.int .i64 J):=st0.g.cell (i:=3) rfl
 by_cases hlt:k<j
 ·have l1:(k:Int)<J:=by omega
  have hown':=st0.own.alloc (.cells #[.int .u8 3,.int .i64 0,.int .i64 (k:Int),.int .i64 0] 134);have hnews:=eN wr [.int .u8 3,.int .i64 0,.int .i64 (k:Int),.int .i64 0] 134;have hone:∀u∈([.int .u8 3,.int .i64 0,.int .i64 (k:Int),.int .i64 0]:List Value),u.oneCell'=true:=by intro u hu;simp only[List.mem_cons,List.not_mem_nil,or_false] at hu;rcases hu with rfl|rfl|rfl|rfl<;>rfl
  have wu:=st0.g.lt;go_wp2_with (first|(refine wpList_append_own _ rfl _ _ 130 rfl (w.heap.size+1) 134 i0 (.agg #[.int .u8 0,.int .i64 0,.int .i64 0,.int .i64 0]) 4 32 Tryz.underlying130 hi hz0 hz1 hz2 rfl (by decide) _ (2+k) _ rfl hown' ⟨wr.heap.size,0,none⟩ 1 1 [.int .u8 3,.int .i64 0,.int .i64 (k:Int),.int .i64 0] rfl rfl hnews hone (by unfold maxLen;omega) (by omega) (by simp;omega) ?_))
  intro v' w7 fp wv _;have st:zU w G S I J (gZ s t j) (2+k+1) v' w7:=zU.app st0 fp wv (by show _=[]++gZ s t j (2+k+0);rw[Nat.add_zero,ER s t j hlt];rfl);obtain⟨a',cap',hv'⟩:=st.own.form;subst hv';clear st0 hown' fp wv hnews hone wu;clear c3;go_wp2_with fail;go_roundw
  case rel=>(try((repeat apply Exists.intro);refine⟨?_,rfl⟩));exact⟨k+1,a',cap',by omega,rfl,by go_num,st⟩
  simp[intOf];omega
 obtain rfl:k=j:=by omega
 have l1:¬(k:Int)<J:=by omega
 go_wp2_with fail;go_loopw [3,5,6] (λv q u wr=>∃(γ:Nat) (a:Option Addr) (cap:Nat),γ<=g/\v= .slice a (2+k+γ*s) cap/\q= .int .i64 (1+(γ:Int)*(4*(t:Int)))/\u= .int .i64 (γ:Int)/\zU w G S I J (gZ s t k) (2+k+γ*s) (.slice a (2+k+γ*s) cap) wr) (λ_ _ u _=>g-(intOf u).toNat)
 case atStart=>exact⟨0,a,cap,by omega,by rw[Nat.zero_mul,Nat.add_zero],by simp,rfl,by rw[Nat.zero_mul,Nat.add_zero];exact st0⟩
 clear st0 c3;obtain⟨γ,a1,cap1,hγ,rfl,rfl,rfl,st0⟩:=hrel;have c0:wr.cell? ⟨w.heap.size,0,none⟩=some (.int .i64 G):=st0.g.cell (i:=0) rfl;have c2:wr.cell? ⟨w.heap.size,2,none⟩=some (.int .i64 I):=st0.g.cell (i:=2) rfl
 by_cases hlt:γ<g
 ·have l1:(γ:Int)<G:=by omega
  have qA:Hd (∀a,a<s->gZ s t k (2+k+γ*s+a)=if a=0 then tv 4 γ 0 0 else if a=1 then tv 5 γ 1 0 else if a<2+t then tv 6 γ a (1+(γ:Int)*(4*(t:Int))+4*((a:Int)-2)) else tv 7 γ a 0):=λa ha=>z5 s t k γ ha
  have hps:γ*s+s<=2048:=by
   have:(γ+1)*s<=g*s:=Nat.mul_le_mul_right s hlt;rw[Nat.succ_mul] at this;omega
  have pJ:Hd ((γ+1)*s=γ*s+s):=Nat.succ_mul γ s;have HIX:Hd (1+((γ+1:Nat):Int)*(4*(t:Int))=1+(γ:Int)*(4*(t:Int))+4*(t:Int)):=by show _=_;rw[Int.natCast_add,Int.add_mul];omega
  have hib:0<=(γ:Int)*(4*(t:Int))/\(γ:Int)*(4*(t:Int))<=256:=by
   refine⟨Int.mul_nonneg (by omega) (by omega),?_⟩;have:=Int.mul_le_mul (show(γ:Int)<=4 by omega) (show 4*(t:Int)<=64 by omega) (by omega) (by omega:(0:Int)<=4);omega
  generalize DI:γ*s=pp at*;generalize hqq:(γ:Int)*(4*(t:Int))=qq at*;clear DI hqq;have hown':=st0.own.alloc (.cells #[.int .u8 4,.int .i64 (γ:Int),.int .i64 0,.int .i64 0,.int .u8 5,.int .i64 (γ:Int),.int .i64 1,.int .i64 0] 134);have hnews:=eN wr [.int .u8 4,.int .i64 (γ:Int),.int .i64 0,.int .i64 0,.int .u8 5,.int .i64 (γ:Int),.int .i64 1,.int .i64 0] 134;have hone:∀u∈([.int .u8 4,.int .i64 (γ:Int),.int .i64 0,.int .i64 0,.int .u8 5,.int .i64 (γ:Int),.int .i64 1,.int .i64 0]:List Value),u.oneCell'=true:=by intro u hu;simp only[List.mem_cons,List.not_mem_nil,or_false] at hu;rcases hu with rfl|rfl|rfl|rfl|rfl|rfl|rfl|rfl<;>rfl
  have wu:=st0.g.lt;go_wp2_with (first|(refine wpList_append_own _ rfl _ _ 130 rfl (w.heap.size+1) 134 i0 (.agg #[.int .u8 0,.int .i64 0,.int .i64 0,.int .i64 0]) 4 32 Tryz.underlying130 hi hz0 hz1 hz2 rfl (by decide) _ (2+k+pp) _ rfl hown' ⟨wr.heap.size,0,none⟩ 2 2 [.int .u8 4,.int .i64 (γ:Int),.int .i64 0,.int .i64 0,.int .u8 5,.int .i64 (γ:Int),.int .i64 1,.int .i64 0] rfl rfl hnews hone (by unfold maxLen;omega) (by omega) (by simp;omega) ?_))
  intro v' w7 fp wv _;have st:zU w G S I J (gZ s t k) (2+k+pp+2) v' w7:=zU.app st0 fp wv (by show _=[]++gZ s t k (2+k+pp+0)++gZ s t k (2+k+pp+1);rw[qA.Z 0 (by omega),qA.Z 1 (by omega)];rfl);obtain⟨a',cap',hv'⟩:=st.own.form;subst hv';clear st0 hown' fp wv hnews hone wu;clear c0 c2;go_wp2_with fail;go_loopw [3,5,7] (λv q u wr=>∃(κ:Nat) (a:Option Addr) (cap:Nat),κ<=t/\v= .slice a (2+k+pp+2+κ) cap/\q= .int .i64 (1+qq+4*(κ:Int))/\u= .int .i64 (4*(κ:Int))/\zU w G S I J (gZ s t k) (2+k+pp+2+κ) (.slice a (2+k+pp+2+κ) cap) wr) (λ_ _ u _=>4*t-(intOf u).toNat)
  case atStart=>exact⟨0,a',cap',by omega,rfl,by simp,rfl,st⟩
  clear st;obtain⟨κ,a2,cap2,hκ,rfl,rfl,rfl,st0⟩:=hrel;have c2:wr.cell? ⟨w.heap.size,2,none⟩=some (.int .i64 I):=st0.g.cell (i:=2) rfl
  by_cases kf:κ<t
  ·have l2:4*(κ:Int)<I:=by omega
   have t1:(4*(κ:Int)).tdiv 4=(κ:Int):=by rw[Int.tdiv_eq_ediv_of_nonneg (by omega)];omega
   have t2:4*(κ:Int)/4=(κ:Int):=by omega
   have hown':=st0.own.alloc (.cells #[.int .u8 6,.int .i64 (γ:Int),.int .i64 (2+(κ:Int)),.int .i64 (1+qq+4*(κ:Int))] 134);have hnews:=eN wr [.int .u8 6,.int .i64 (γ:Int),.int .i64 (2+(κ:Int)),.int .i64 (1+qq+4*(κ:Int))] 134;have hone:∀u∈([.int .u8 6,.int .i64 (γ:Int),.int .i64 (2+(κ:Int)),.int .i64 (1+qq+4*(κ:Int))]:List Value),u.oneCell'=true:=by intro u hu;simp only[List.mem_cons,List.not_mem_nil,or_false] at hu;rcases hu with rfl|rfl|rfl|rfl<;>rfl
   have wu:=st0.g.lt;go_wp2_with (first|(refine wpList_append_own _ rfl _ _ 130 rfl (w.heap.size+1) 134 i0 (.agg #[.int .u8 0,.int .i64 0,.int .i64 0,.int .i64 0]) 4 32 Tryz.underlying130 hi hz0 hz1 hz2 rfl (by decide) _ (2+k+pp+2+κ) _ rfl hown' ⟨wr.heap.size,0,none⟩ 1 1 [.int .u8 6,.int .i64 (γ:Int),.int .i64 (2+(κ:Int)),.int .i64 (1+qq+4*(κ:Int))] rfl rfl hnews hone (by unfold maxLen;omega) (by omega) (by simp;omega) ?_))
   intro v' w7 fp wv _;have st:zU w G S I J (gZ s t k) (2+k+pp+2+κ+1) v' w7:=zU.app st0 fp wv (by show _=[]++gZ s t k (2+k+pp+2+κ+0);rw[show 2+k+pp+2+κ+0=2+k+pp+(2+κ) by omega,qA.Z (2+κ) (by omega),if_neg (by omega),if_neg (by omega),if_pos (by omega),show((2+κ:Nat):Int)=2+(κ:Int) by omega,show 2+(κ:Int)-2=(κ:Int) by omega];rfl);obtain⟨a',cap',hv'⟩:=st.own.form;subst hv';clear st0 hown' fp wv hnews hone wu;clear c2;go_wp2_with fail;go_roundw
   case rel=>first|exact⟨κ+1,a',cap',by omega,rfl,by go_num,by go_num,st⟩|exact⟨κ+1,a',cap',by omega,rfl,int_eq (by omega),int_eq (by omega),st⟩|((repeat apply Exists.intro);exact⟨⟨κ+1,a',cap',by omega,rfl,int_eq (by omega),int_eq (by omega),st⟩,rfl⟩)
   simp[intOf];omega
  obtain rfl:κ=t:=by omega
  have l2:¬4*(κ:Int)<I:=by omega
  have t1:I.tdiv 4=(κ:Int):=by rw[Int.tdiv_eq_ediv_of_nonneg (by omega)];omega
  have t2:I/4=(κ:Int):=by omega
  go_wp2_with fail;go_loopw [3,8] (λv u wr=>∃(α:Nat) (a:Option Addr) (cap:Nat),2+κ<=α/\α<=s/\v= .slice a (2+k+pp+α) cap/\u= .int .i64 (α:Int)/\zU w G S I J (gZ s κ k) (2+k+pp+α) (.slice a (2+k+pp+α) cap) wr) (λ_ u _=>s-(intOf u).toNat)
  case atStart=>exact⟨2+κ,a2,cap2,by omega,by omega,by rw[Nat.add_assoc (2+k+pp) 2 κ],int_eq (by omega),by rw[<-Nat.add_assoc (2+k+pp) 2 κ];exact st0⟩
  clear st0 c2;obtain⟨α,a3,cap3,hα0,hα,rfl,rfl,st0⟩:=hrel;have c1:wr.cell? ⟨w.heap.size,1,none⟩=some (.int .i64 S):=st0.g.cell (i:=1) rfl
  by_cases Ra:α<s
  ·have l3:(α:Int)<S:=by omega
   have hown':=st0.own.alloc (.cells #[.int .u8 7,.int .i64 (γ:Int),.int .i64 (α:Int),.int .i64 0] 134);have hnews:=eN wr [.int .u8 7,.int .i64 (γ:Int),.int .i64 (α:Int),.int .i64 0] 134;have hone:∀u∈([.int .u8 7,.int .i64 (γ:Int),.int .i64 (α:Int),.int .i64 0]:List Value),u.oneCell'=true:=by intro u hu;simp only[List.mem_cons,List.not_mem_nil,or_false] at hu;rcases hu with rfl|rfl|rfl|rfl<;>rfl
   have wu:=st0.g.lt;go_wp2_with (first|(refine wpList_append_own _ rfl _ _ 130 rfl (w.heap.size+1) 134 i0 (.agg #[.int .u8 0,.int .i64 0,.int .i64 0,.int .i64 0]) 4 32 Tryz.underlying130 hi hz0 hz1 hz2 rfl (by decide) _ (2+k+pp+α) _ rfl hown' ⟨wr.heap.size,0,none⟩ 1 1 [.int .u8 7,.int .i64 (γ:Int),.int .i64 (α:Int),.int .i64 0] rfl rfl hnews hone (by unfold maxLen;omega) (by omega) (by simp;omega) ?_))
   intro v' w7 fp wv _;have st:zU w G S I J (gZ s κ k) (2+k+pp+α+1) v' w7:=zU.app st0 fp wv (by show _=[]++gZ s κ k (2+k+pp+α+0);rw[Nat.add_zero,qA.Z α Ra,if_neg (by omega),if_neg (by omega),if_neg (by omega)];rfl);obtain⟨a',cap',hv'⟩:=st.own.form;subst hv';clear st0 hown' fp wv hnews hone wu;clear c1;go_wp2_with fail;go_roundw
   case rel=>(try((repeat apply Exists.intro);refine⟨?_,rfl⟩));exact⟨α+1,a',cap',by omega,by omega,rfl,by go_num,st⟩
   simp[intOf];omega
  obtain rfl:α=s:=by omega
  have l3:¬(α:Int)<S:=by omega
  go_wp2_with fail;go_roundw
  case rel=>(try((repeat apply Exists.intro);refine⟨?_,rfl⟩));exact⟨γ+1,a3,cap3,by omega,by rw[pJ.Z,Nat.add_assoc],by rw[HIX.Z],by go_num,by rw[pJ.Z,<-Nat.add_assoc];exact st0⟩
  simp[intOf];omega
 obtain rfl:γ=g:=by omega
 have l1:¬(γ:Int)<G:=by omega
 have fin:Hd (Below w.heap.size w wr/\(aT G S I J=false/\(Ending.returned (.slice a1 (2+k+γ*s) cap1))= .returned (.slice none 0 0)\/aT G S I J=true/\∃v,(Ending.returned (.slice a1 (2+k+γ*s) cap1))= .returned v/\au wr (w.heap.size+1) 134 4 v (2+J.toNat+G.toNat*S.toNat) (gZ S.toNat (I.toNat/4) J.toNat))):=
  ⟨st0.bel,.inr ⟨HM.Z,_,rfl,by rw[zz.Z.1,zz.Z.2];exact st0.own⟩⟩
 go_wp2_with fail;go_ret;subst hg hs ht hj;exact fin.Z
def pj(G S I J:Int):Int:=if aT G S I J then 2+J+G*S else 0
theorem yb(G S I J:Int)(w:World):Calls Tryz.prog 113 #[bV G S I J] w λe w'=>e= .returned (.int .i64 (pj G S I J))/\Below w.heap.size w w':=by
 have HA:=ah (At.new w 23 (ai G S I J));have HL:Hd (Below w.heap.size w (w.alloc (.cells (ai G S I J) 23))):=ag.alloc af _;go_enter Tryz.func113,Tryz.ntmps113;have hA:=HA.Z;go_wp2_with (first|(refine aB rfl 23 _ rfl _ _ _ rfl hA Tryz.underlying23 rfl (by kernel_rfl) ?_))
 refine(nK G S I J _).mono ?_;rintro e w1 ⟨hb1,hlr⟩;have fW:Below w.heap.size w w1:=HL.Z.trans (hb1.mono HL.Z.size);clear hA HA HL hb1;rcases hlr with⟨hm,rfl⟩|⟨hm,v,rfl,hown⟩
 ·have HN:Hd (pj G S I J=0):=by show _=_;unfold pj;rw[hm];rfl
  clear hm;go_wp2_with fail;go_ret;exact⟨by rw[HN.Z];rfl,fW⟩
 obtain⟨a,cap,rfl⟩:=hown.form;have HN:Hd (pj G S I J=((2+J.toNat+G.toNat*S.toNat:Nat):Int)):=by
  show _=_;unfold pj;obtain⟨h1,h2,h3,h4,h5,h6,h7,h8,h9,h10,h11⟩:=(bq G S I J).1 hm;rw[hm,if_pos rfl,Int.natCast_add,Int.natCast_add,Int.natCast_mul,Int.toNat_of_nonneg (by omega),Int.toNat_of_nonneg (by omega),Int.toNat_of_nonneg (by omega)];rfl
 clear hm hown;generalize 2+J.toNat+G.toNat*S.toNat=n at*;go_wp2_with fail;go_ret;exact⟨by rw[HN.Z];rfl,fW⟩
def qn(G S I J:Int):Int:=if aT G S I J then G*I else 0
def ti(G S I J:Int):Int:=if aT G S I J then S-2-I/4 else 0
theorem Cv{I:Int}(h1:1<=G)(h2:G<=4)(h3:4<=I)(h4:I<=64):4<=G*I/\G*I<=256:=by
 have h:=Int.mul_le_mul h2 h4 (by omega) (by omega:(0:Int)<=4);have h':=Int.mul_le_mul h1 h3 (by omega) (by omega:(0:Int)<=G);omega
theorem FU(G S I J:Int):0<=qn G S I J/\qn G S I J<=256:=by
 unfold qn;cases h:aT G S I J with
 |false=>simp
 |true=>
  obtain⟨h1,h2,h3,h4,h5,h6,h7,h8,h9,h10,h11⟩:=(bq G S I J).1 h;have:=Cv h1 h2 h5 h6;simp only[if_true];omega
theorem Au(G S I J:Int):0<=ti G S I J/\ti G S I J<=512:=by
 unfold ti;cases h:aT G S I J with
 |false=>simp
 |true=>
  obtain⟨h1,h2,h3,h4,h5,h6,h7,h8,h9,h10,h11⟩:=(bq G S I J).1 h;simp only[if_true];omega
theorem jr(G S I J:Int)(w:World):Calls Tryz.prog 23 #[bV G S I J] w λe w'=>e= .returned (.int .i64 (qn G S I J))/\Below w.heap.size w w':=by
 have HA:=ah (At.new w 23 (ai G S I J));have HL:Hd (Below w.heap.size w (w.alloc (.cells (ai G S I J) 23))):=ag.alloc af _;go_enter Tryz.func23,Tryz.ntmps23;have hA:=HA.Z;go_wp2_with (first|(refine aB rfl 23 _ rfl _ _ _ rfl hA Tryz.underlying23 rfl (by kernel_rfl) ?_))
 refine(eJ G S I J _).mono ?_;rintro e w1 ⟨rfl,hb1⟩;have gU:=hA.below hb1 hA.lt;have fW:Below w.heap.size w w1:=HL.Z.trans (hb1.mono HL.Z.size);clear hA HA HL hb1;cases hm:aT G S I J with
 |false=>
  have HN:Hd (qn G S I J=0):=by show _=_;unfold qn;rw[hm];rfl
  clear hm;go_wp2_with fail;go_ret;exact⟨by rw[HN.Z];rfl,fW⟩
 |true=>
  have HN:Hd (qn G S I J=G*I):=by show _=_;unfold qn;rw[hm];rfl
  obtain⟨h1,h2,h3,h4,h5,h6,h7,h8,h9,h10,h11⟩:=(bq G S I J).1 hm;have BW:=Cv h1 h2 h5 h6;have hw:IntKind.i64.wrap (G*I)=G*I:=IntWalk.i64_in _ (by omega);have c0:w1.cell? ⟨w.heap.size,0,none⟩=some (.int .i64 G):=gU.cell (i:=0) rfl;have c2:w1.cell? ⟨w.heap.size,2,none⟩=some (.int .i64 I):=gU.cell (i:=2) rfl;clear hm h11;go_wp2_with fail;go_ret;exact⟨by rw[HN.Z];rfl,fW⟩
theorem yS(G S I J:Int)(w:World):Calls Tryz.prog 89 #[bV G S I J] w λe w'=>e= .returned (.int .i64 (ti G S I J))/\Below w.heap.size w w':=by
 have HA:=ah (At.new w 23 (ai G S I J));have HL:Hd (Below w.heap.size w (w.alloc (.cells (ai G S I J) 23))):=ag.alloc af _;go_enter Tryz.func89,Tryz.ntmps89;have hA:=HA.Z;go_wp2_with (first|(refine aB rfl 23 _ rfl _ _ _ rfl hA Tryz.underlying23 rfl (by kernel_rfl) ?_))
 refine(eJ G S I J _).mono ?_;rintro e w1 ⟨rfl,hb1⟩;have gU:=hA.below hb1 hA.lt;have fW:Below w.heap.size w w1:=HL.Z.trans (hb1.mono HL.Z.size);clear hA HA HL hb1;cases hm:aT G S I J with
 |false=>
  have HN:Hd (ti G S I J=0):=by show _=_;unfold ti;rw[hm];rfl
  clear hm;go_wp2_with fail;go_ret;exact⟨by rw[HN.Z];rfl,fW⟩
 |true=>
  have HN:Hd (ti G S I J=S-2-I/4):=by show _=_;unfold ti;rw[hm];rfl
  obtain⟨h1,h2,h3,h4,h5,h6,h7,h8,h9,h10,h11⟩:=(bq G S I J).1 hm;have c0:w1.cell? ⟨w.heap.size,1,none⟩=some (.int .i64 S):=gU.cell (i:=1) rfl;have c2:w1.cell? ⟨w.heap.size,2,none⟩=some (.int .i64 I):=gU.cell (i:=2) rfl;have t1:=nU I h5;clear hm h11;go_wp2_with fail;go_ret;exact⟨by rw[HN.Z];rfl,fW⟩
theorem MG(S t J i:Nat)(hS:0<S)(ht:2+t<S):∃kd gr a n:Int,gZ S t J i=tv kd gr a n/\((kd=7/\gr=0)↔(4+J+t<=i/\i<2+J+S)):=by
 unfold gZ;split
 ·exact⟨_,_,_,_,rfl,by omega⟩
 split
 ·exact⟨_,_,_,_,rfl,by omega⟩
 split
 ·exact⟨_,_,_,_,rfl,by omega⟩
 have yI:=Nat.div_add_mod (i-(2+J)) S;have Pm:=Nat.mod_lt (i-(2+J)) hS;have hd0:(i-(2+J))/S=0↔i-(2+J)<S:=Nat.div_eq_zero_iff_lt hS;have Q9:i-(2+J)<S->(i-(2+J))%S=i-(2+J):=Nat.mod_eq_of_lt;generalize (i-(2+J))%S=r at*;generalize (i-(2+J))/S=q at*;split
 ·exact⟨_,_,_,_,rfl,by constructor<;>intro h<;>omega⟩
 split
 ·exact⟨_,_,_,_,rfl,by constructor<;>intro h<;>omega⟩
 split
 ·exact⟨_,_,_,_,rfl,by constructor<;>intro h<;>omega⟩
 exact⟨_,_,_,_,rfl,by constructor<;>intro h<;>omega⟩
theorem ry(G S I J:Int)(w:World):Calls Tryz.prog 58 #[bV G S I J] w λe w'=>e= .returned (.int .i64 (ti G S I J))/\Below w.heap.size w w':=by
 have HA:=ah (At.new w 23 (ai G S I J));have HL:Hd (Below w.heap.size w (w.alloc (.cells (ai G S I J) 23))):=ag.alloc af _;go_enter Tryz.func58,Tryz.ntmps58;have hA:=HA.Z;go_wp2_with (first|(refine aB rfl 23 _ rfl _ _ _ rfl hA Tryz.underlying23 rfl (by kernel_rfl) ?_))
 refine(nK G S I J _).mono ?_;rintro e w1 ⟨hb1,hlr⟩;have fW:Below w.heap.size w w1:=HL.Z.trans (hb1.mono HL.Z.size);clear hA HA HL hb1;have hfull:∃(n:Nat) (a:Option Addr) (cap:Nat) (q b:Nat),e= .returned (.slice a n cap)/\ti G S I J=((b-q:Nat):Int)/\b<=n/\n<=10000/\∀i,i<n->∃g off kd gr,a=some ⟨g,off,none⟩/\w1.cell? ⟨g,off+i*4,none⟩=some (.int .u8 kd)/\w1.cell? ⟨g,off+i*4+1,none⟩=some (.int .i64 gr)/\((kd=7/\gr=0)↔(q<=i/\i<b)):=by
  rcases hlr with⟨hm,rfl⟩|⟨hm,v,rfl,hown⟩
  ·exact⟨0,none,0,0,0,rfl,by unfold ti;rw[hm];rfl,by omega,by omega,λi hi=>by omega⟩
  obtain⟨a,cap,rfl⟩:=hown.form;obtain⟨h1,h2,h3,h4,h5,h6,h7,h8,h9,h10,h11⟩:=(bq G S I J).1 hm;obtain⟨g,rfl⟩:∃g:Nat,G=(g:Int):=⟨G.toNat,by omega⟩;obtain⟨s,rfl⟩:∃s:Nat,S=(s:Int):=⟨S.toNat,by omega⟩;obtain⟨t,rfl⟩:∃t:Nat,I=4*(t:Int):=⟨(I/4).toNat,by omega⟩;obtain⟨j,rfl⟩:∃j:Nat,J=(j:Int):=⟨J.toNat,by omega⟩;have Wm:g*s<=2048:=by have:=(Cu h1 h2 h3 h4).2;exact_mod_cast this
  have J1:s<=g*s:=Nat.le_mul_of_pos_left s (by omega);simp only[Int.toNat_natCast,show(4*(t:Int)).toNat/4=t by omega] at hown ⊢;refine⟨2+j+g*s,a,cap,4+j+t,2+j+s,rfl,by unfold ti;rw[hm,if_pos rfl];omega,by omega,by omega,λi hi=> ?_⟩;have hrow:=hown.row (λi=>qd s t j i);rcases hrow with h0|⟨b,off,rfl,lQ⟩
  ·omega
  obtain⟨kd,gr,a',n',he,Gr⟩:=MG s t j i (by omega) (by omega);exact⟨b,off,kd,gr,rfl,lQ i hi 0 _ (by rw[he];rfl),lQ i hi 1 _ (by rw[he];rfl),Gr⟩
 obtain⟨n,a,cap,q,b,rfl,hN,ll,hn,hcells⟩:=hfull;have HN:=ah hN;have HC:=ah hcells;clear hlr hN hcells;go_wp2_with fail
 go_loop [4,5] (λc k=>∃i:Nat,i<=n/\k= .int .i64 i/\c= .int .i64 ((min i b-q:Nat):Int)) (λ_ k=>n-(intOf k).toNat)
 case atStart=>exact⟨0,by omega,rfl,by rw[show min 0 b-q=0 by omega];rfl⟩
 obtain⟨i,hi,rfl,rfl⟩:=hrel
 by_cases hlt:i<n
 ·obtain⟨g,off,kd,gr,rfl,hc0,hc1,Gr⟩:=HC.Z i hlt
  obtain⟨c,hc⟩:=ae (min i b-q);have hcn:c<=10000:=by omega
  have HX:Hd (min (i+1) b-q=if kd=7/\gr=0 then c+1 else c):=by
   show _=_
   by_cases h:kd=7/\gr=0
   ·rw[if_pos h];have:=Gr.1 h;omega
   rw[if_neg h];have:¬(q<=i/\i<b):=λh'=>h (Gr.2 h')
   omega
  rw[hc];clear Gr hc
  by_cases hk:kd=7
  ·have k1:(kd==7)=true:=by simpa using hk
   by_cases hg:gr=0
   ·have g1:(gr==0)=true:=by simpa using hg
    have Mk:Hd (min (i+1) b-q=c+1):=by show _=_;rw[HX.Z,if_pos ⟨hk,hg⟩]
    clear HX hk hg;go_wp2_with fail
    go_round
    case rel=>exact⟨i+1,by omega,by go_num,by rw[Mk.Z];go_num⟩
    simp[intOf];omega
   have g1:(gr==0)=false:=by simpa using hg
   have Mk:Hd (min (i+1) b-q=c):=by show _=_;rw[HX.Z,if_neg (λh=>hg h.2)]
   clear HX hk hg;go_wp2_with fail
   go_round
   case rel=>exact⟨i+1,by omega,by go_num,by rw[Mk.Z]⟩
   simp[intOf];omega
  have k1:(kd==7)=false:=by simpa using hk
  have Mk:Hd (min (i+1) b-q=c):=by show _=_;rw[HX.Z,if_neg (λh=>hk h.1)]
  clear HX hk;go_wp2_with fail
  go_round
  case rel=>exact⟨i+1,by omega,by go_num,by rw[Mk.Z]⟩
  simp[intOf];omega
 obtain rfl:i=n:=by omega
 have hE:min i b=b:=by omega
 rw[hE];go_wp2_with fail;go_ret;exact⟨by rw[HN.Z];rfl,fW⟩
theorem tK(W:World):(zeroValue 108).run Tryz.prog W= .ok (.agg (Ks .u8 256 (λ_=>0)).toArray) W:=by kernel_rfl
theorem Dx:(Tryz.prog.info? 108).map (·.size)=some 256:=by kernel_rfl
theorem rV(z:Nat->Int):(Tryz.prog.info? 108).map (·.size)=some (Ks .u8 256 z).toArray.size:=by rw[bE];exact Dx
abbrev L3(g:Nat):Value:=.func (.func 42) #[.pointer (some ⟨g,0,none⟩)] #[]
theorem j4(g:Nat)(z:Nat->Int)(hzb:bu z)(k:Nat)(K:Int)(hK:K=(k:Int))(hk:k+4<=256)(w:World)(hB:aU w g T 256 z):
  Calls Tryz.prog 87 #[.pointer (some ⟨g,0,none⟩),.int .i64 K] w λe w'=>e= .returned (.int .u32 (cR z k))/\w=w':=by
 subst hK;have hsa:=λW=>bw g 0 W
 have hgt:=iB g 0 256 256 (k:Int) z w (by omega) (by omega) (by omega) hB.bQ hzb;rw[Int.toNat_natCast] at hgt;have HG:=ah hgt;clear hgt;go_enter Tryz.func87,Tryz.ntmps87;go_wp2_with fail;refine HG.Z.mono ?_;rintro e w1 ⟨rfl,rfl⟩;go_wp2_with fail;go_ret;exact⟨rfl,rfl⟩
theorem jd(g:Nat)(z:Nat->Int)(hzb:bu z)(k:Nat)(K:Int)(hK:K=2*(k:Int))(hk:k<128)(w:World)(hB:aU w g T 256 z):
  Calls Tryz.prog 42 #[.pointer (some ⟨g,0,none⟩),.int .i64 K] w λe w'=>e= .returned (.int .i64 (hd z k))/\w=w':=by
 have hsa:=λW=>bw g 0 W
 have hgt:=uy g 0 256 256 K z w (by omega) (by omega) (by omega) hB.bQ hzb;rw[show K.toNat=2*k by omega] at hgt;have hb:=oS hzb (2*k);have HG:=ah hgt;have HD:Hd (hd z k=g16 z (2*k)):=rfl;clear hgt hK;generalize g16 z (2*k)=x at*;go_enter Tryz.func42,Tryz.ntmps42;go_wp2_with fail;refine HG.Z.mono ?_;rintro e w1 ⟨rfl,rfl⟩;go_wp2_with fail;go_ret;exact⟨by rw[HD.Z];rfl,rfl⟩
theorem th(g:Nat)(z:Nat->Int)(hzb:bu z)(w:World)(hB:aU w g T 256 z)(hT:Tab w):
  Calls Tryz.prog 88 #[.pointer (some ⟨g,0,none⟩)] w λe w'=>e= .returned (.int .u32 (kh z 252))/\Below w.heap.size w w':=by
 have hsa:=λW=>ct g 0 0 252 0 252 rfl rfl (by omega) (by omega) (by omega) W
 have HT:=ah hT;clear hT;go_enter Tryz.func88,Tryz.ntmps88;go_wp2_with fail;have hP:Hg (w.alloc (.cells #[.slice (some ⟨g,0,none⟩) 252 256] 119)) (some ⟨w.heap.size,0,none⟩) 1 (λ_=>252) (λ_=>z):=⟨λk hk=>by
  obtain rfl:k=0:=by omega
  exact⟨_,_,rfl,_,_,aF (heap_alloc_new w _) rfl,.inr ⟨g,0,rfl,((hB.alloc _).bQ.take 252 (by omega))⟩,by omega⟩⟩
 refine(AZ _ 1 1 _ _ _ (by omega) hP (λ_=>hzb) (HT.Z.alloc _)).mono ?_;rintro e w1 ⟨rfl,rfl⟩;clear hP;go_wp2_with fail;go_ret;exact⟨rfl,ag.alloc af _⟩
theorem At.grown{w':World}{cs:Array Value}{row:Option Nat}(h:At w g T cs)(hb:w.grownBy w' row)(hg:some g≠row):At w' g T cs:=(hb.block g h.lt hg).trans h
theorem kY(g:Nat)(z:Nat->Int)(hzb:bu z)(w:World)(hB:aU w g T 256 z)(hT:Tab w):
  Calls Tryz.prog 39 #[.pointer (some ⟨g,0,none⟩)] w λe w'=>e= .returned (.bool (xK z))/\Below w.heap.size w w':=by
 have HN:Hd (xK z=(cR z 252==kh z 252)):=rfl;go_enter Tryz.func39,Tryz.ntmps39;go_wp2_with fail;refine(j4 g z hzb 252 252 rfl (by omega) w hB).mono ?_;rintro e w0 ⟨rfl,rfl⟩;go_wp2_with fail;refine(th g z hzb w hB hT).mono ?_;rintro e w1 ⟨rfl,hb1⟩;go_wp2_with fail;go_ret;exact⟨by rw[HN.Z];rfl,hb1⟩
theorem gR(g:Nat)(z:Nat->Int)(lo hi:Nat)(L H:Int)(hL:L=(lo:Int))(hH:H=(hi:Int))(h1:lo<=hi)(h2:hi<=256)(h3:lo<256)(w:World)(hB:aU w g T 256 z):
  Calls Tryz.prog 40 #[.pointer (some ⟨g,0,none⟩),.int .i64 L,.int .i64 H] w λe w'=>e= .returned (.bool (dw (λi=>z (lo+i)) (hi-lo)))/\w=w':=by
 have hsa:=λW=>ct g 0 lo hi L H hL hH h1 h2 h3 W
 have HZ:=ah (nh (some ⟨g,0+lo,none⟩) (hi-lo) (256-lo) (λi=>z (lo+i)) w (by omega) (.inr ⟨g,0+lo,rfl,hB.bQ.sub lo (hi-lo) (by omega)⟩));clear hL hH hB;rw[Nat.zero_add] at hsa HZ;go_enter Tryz.func40,Tryz.ntmps40;go_wp2_with fail;refine HZ.Z.mono ?_;rintro e w1 ⟨rfl,rfl⟩;go_wp2_with fail;go_ret;exact⟨rfl,rfl⟩
def Xr(l:Nat->Int)(G S I J:Int):Nat->Int:=upd (upd (upd (upd l 4 G) 5 S) 6 I) 7 J
abbrev gJ(G S I J O:Int):Value:=.agg #[.int .i64 G,.int .i64 S,.int .i64 I,.int .i64 J,.int .u32 O]
abbrev ax(G S I J O:Int):Array Value:=#[.int .i64 G,.int .i64 S,.int .i64 I,.int .i64 J,.int .u32 O]
abbrev kF(B I D:Int):Value:=.agg #[.int .i64 B,.int .i64 I,.int .i64 D]
abbrev gV(B I D:Int):Array Value:=#[.int .i64 B,.int .i64 I,.int .i64 D]
theorem xx(W:World):(zeroValue 23).run Tryz.prog W= .ok (bV 0 0 0 0) W:=by kernel_rfl
theorem fv(W:World):(zeroValue 47).run Tryz.prog W= .ok (gJ 0 0 0 0 0) W:=by kernel_rfl
theorem ou(W:World):(zeroValue 67).run Tryz.prog W= .ok (kF 0 0 0) W:=by kernel_rfl
theorem AX(g:Nat)(z:Nat->Int)(hzb:bu z)(w:World)(hB:aU w g T 256 z):
  Calls Tryz.prog 156 #[L3 g] w λe w'=>e= .returned (bV (hd z 4) (hd z 5) (hd z 6) (hd z 7))/\Below w.heap.size w w':=by
 have hal:=xx;have HA:=ah (At.new w 23 (ai 0 0 0 0));have HL:Hd (Below w.heap.size w (w.alloc (.cells (ai 0 0 0 0) 23))):=ag.alloc af _;have HG:Hd (∀(W:World) (k:Nat) (K:Int),aU W g T 256 z->K=2*(k:Int)->k<128->Calls Tryz.prog 42 #[.pointer (some ⟨g,0,none⟩),.int .i64 K] W λe w'=>e= .returned (.int .i64 (hd z k))/\W=w'):=
  λW k K hB hK hk=>jd g z hzb k K hK hk W hB
 have HB:=ah (hB.alloc (.cells (ai 0 0 0 0) 23));clear hB;go_enter Tryz.func156,Tryz.ntmps156;go_wp2_with fail;refine(HG.Z _ 4 8 HB.Z rfl (by omega)).mono ?_;rintro e w1 ⟨rfl,rfl⟩;go_wp2_with fail;refine(HG.Z _ 5 10 HB.Z rfl (by omega)).mono ?_;rintro e w1 ⟨rfl,rfl⟩;go_wp2_with fail;refine(HG.Z _ 6 12 HB.Z rfl (by omega)).mono ?_;rintro e w1 ⟨rfl,rfl⟩;go_wp2_with fail;refine(HG.Z _ 7 14 HB.Z rfl (by omega)).mono ?_;rintro e w1 ⟨rfl,rfl⟩;go_wp2_with fail;exact bodyPost_ret (kT rfl _ _ _ _ _ _ _ rfl (At.new w 23 (ai (hd z 4) (hd z 5) (hd z 6) (hd z 7))) Tryz.underlying23 rfl (by kernel_rfl)) rfl ⟨rfl,ag.alloc af _⟩
theorem yR(g:Nat)(z:Nat->Int)(hzb:bu z)(k:Nat)(K:Int)(hK:K=8*(k:Int))(hk:k<31)(w:World)(hB:aU w g T 256 z):
  Calls Tryz.prog 41 #[.int .i64 K,L3 g] w λe w'=>e= .returned (kF (hd z (4*k)) (hd z (4*k+1)) (hd z (4*k+2)))/\Below w.heap.size w w':=by
 have hal:=ou;have HA:=ah (At.new w 67 (gV 0 0 0));have HL:Hd (Below w.heap.size w (w.alloc (.cells (gV 0 0 0) 67))):=ag.alloc af _;have HG:Hd (∀(W:World) (j:Nat) (K':Int),aU W g T 256 z->K'=K+2*(j:Int)->j<3->Calls Tryz.prog 42 #[.pointer (some ⟨g,0,none⟩),.int .i64 K'] W λe w'=>e= .returned (.int .i64 (hd z (4*k+j)))/\W=w'):=
  λW j K' hB hK' hj=>jd g z hzb (4*k+j) K' (by omega) (by omega) W hB
 have HB:=ah (hB.alloc (.cells (gV 0 0 0) 67));have hKb:0<=K/\K<250:=by omega
 clear hB hK;go_enter Tryz.func41,Tryz.ntmps41;go_wp2_with fail;refine(HG.Z _ 0 K HB.Z (by omega) (by omega)).mono ?_;rintro e w1 ⟨rfl,rfl⟩;go_wp2_with fail;refine(HG.Z _ 1 (K+2) HB.Z (by omega) (by omega)).mono ?_;rintro e w1 ⟨rfl,rfl⟩;go_wp2_with fail;refine(HG.Z _ 2 (K+4) HB.Z (by omega) (by omega)).mono ?_;rintro e w1 ⟨rfl,rfl⟩;go_wp2_with fail;exact bodyPost_ret (kT rfl _ _ _ _ _ _ _ rfl (At.new w 67 (gV (hd z (4*k)) (hd z (4*k+1)) (hd z (4*k+2)))) Tryz.underlying67 rfl (by kernel_rfl)) rfl ⟨rfl,ag.alloc af _⟩
structure T6(w:World)(G S I J O:Int)(W:World):Prop where
 s:At W w.heap.size 47 (ax G S I J O)
 bel:Below w.heap.size w W
theorem vM(G S I J O:Int)(hO:0<=O/\O<4294967296)(w:World):
  Calls Tryz.prog 157 #[gJ G S I J O] w λe w'=>e= .returned (.bool (decide (O<=qn G S I J)))/\Below w.heap.size w w':=by
 have hA:At (w.alloc (.cells (ax G S I J O) 47)) w.heap.size 47 (ax G S I J O):=At.new _ _ _;have hL:Below w.heap.size w (w.alloc (.cells (ax G S I J O) 47)):=ag.alloc af _;have hwr:O%18446744073709551616=O:=by omega
 have hb:=FU G S I J;have HN:Hd (∀W,Calls Tryz.prog 23 #[bV G S I J] W λe w'=>e= .returned (.int .i64 (qn G S I J))/\Below W.heap.size W w'):=λW=>jr G S I J W
 generalize qn G S I J=n at*;have hwn:n%18446744073709551616=n:=by omega
 go_enter Tryz.func157,Tryz.ntmps157;go_wp2_with fail;have Rf:Hd (∀W W',T6 w G S I J O W->Below W.heap.size W W'->T6 w G S I J O W'):=λW W' h hb=>⟨h.s.below hb h.s.lt,h.bel.trans (hb.mono h.bel.size)⟩
 refine ar (T6 w G S I J O) ⟨hA,hL.drew⟩ ?_;clear hA hL;intro hne;have hc:∀s:a9 (T6 w G S I J O),s.W.cell? ⟨w.heap.size,4,none⟩=some (.int .u32 O):=λs=>s.h.s.cell (i:=4) rfl
 iterate 4 go_big_quiet_step (fail)
 refine aO rfl 23 (.tmp 6) rfl w.heap.size 0 rfl (ai G S I J).toList _ (λW h j v hj=> ?_) Tryz.underlying23 rfl (by kernel_rfl) ?_
 ·have hj4:j<4:=(List.getElem?_eq_some_iff.1 hj).1
  refine h.s.cell (i:=0+j) ?_;rw[Nat.zero_add,<-hj];obtain rfl|rfl|rfl|rfl:j=0\/j=1\/j=2\/j=3:=by omega
  all_goals rfl
 refine aj ?_
 go_big_quiet_want
 go_big_quiet_op
 refine⟨_,λs=>aN s (λW hW=>(HN.Z W).mono λe w' h=>⟨h.1,Rf.Z W w' hW h.2⟩),?_⟩
 go_big_quiet_on
 repeat go_big_quiet_step (fail)
 refine wpQuiet_nil ?_;intro w5 h5;have hL5:Below w.heap.size w w5:=h5.Z.bel;clear h5 hne;go_wp2_with fail;go_ret;exact⟨rfl,hL5⟩
def IZ(G S I J O:Int):Nat->Int:=qL (Xr (upd (upd (qL (λ_=>0) 0 827216465) 2 1) 3 256) G S I J) 8 O
def qN(G S I J O:Int):Bool:=aT G S I J&&decide (O<=qn G S I J)
def xJ(G S I J O:Int):Int:=if aT G S I J then(if O<=qn G S I J then 0 else 2) else 50
def oz(G S I J O:Int):Nat->Int:=if qN G S I J O then me (hz (IZ G S I J O)) elseλ_=>0
theorem At.lT{I O:Int}(h:At w g T (ax G S I J O)):w.rangeAt g 0 (ai G S I J).toList:=λj v hj=>by
 have hj4:j<4:=(List.getElem?_eq_some_iff.1 hj).1;refine h.cell (i:=0+j) ?_;rw[Nat.zero_add,<-hj];obtain rfl|rfl|rfl|rfl:j=0\/j=1\/j=2\/j=3:=by omega
 all_goals rfl
theorem nr{P:Program}{ops:Array Oper}{rest:List Oper}{o:Oper}{a:Act}{Q:Exit->Act->World->Prop}(hw:Region.wanted o (yielded ops a.tmps)=true)(T:TypeId)(p:Operand)(ho:o.op= .load T p)
  (g off:Nat) (cs:List Value) (d:TypeDesc) (hx:a.eval p= .pointer (some ⟨g,off,none⟩)) (hI:w.rangeAt g off cs) (hu:P.underlying T=some d) (hd:d.isRow=true) (hi:(P.info? T).map (·.size)=some cs.length)
  (h:wpList P ops Q rest (a.put o.dst (.agg cs.toArray)) w):wpList P ops Q (o::rest) a w:=
 BigFrame.wpList_want hw λ_ hK=>wp_load_mid T p ho g off hx cs d hI hu hd hi (hK _ _ h)
def df(B I D:Nat->Int)(i:Nat):List Value:=[.int .i64 (B i),.int .i64 (I i),.int .i64 (D i)]
theorem ss(B I D:Nat->Int)(i:Nat):(df B I D i).length=3:=rfl
theorem uG(B I D:Nat->Int)(i:Nat):df B I D i≠[]:=by intro h;cases h
theorem GW(B I D:Nat->Int)(i:Nat):∀v∈df B I D i,v.oneCell'=true:=by
 intro v hv;simp only[df,List.mem_cons,List.not_mem_nil,or_false] at hv;rcases hv with rfl|rfl|rfl<;>rfl
def okD(da im b i d:Int):Bool:=decide (0<=b/\b<=da/\0<=i/\i<=im/\0<=d/\d<=im-i)
theorem vO(da im b i d:Int):okD da im b i d=true↔0<=b/\b<=da/\0<=i/\i<=im/\0<=d/\d<=im-i:=by unfold okD;exact decide_eq_true_iff
theorem gu{da im b i d:Int}(h:¬(0<=b/\b<=da/\0<=i/\i<=im/\0<=d/\d<=im-i)):okD da im b i d=false:=by unfold okD;exact decide_eq_false h
def aK(p:Nat->Bool):Nat->Bool
 |0=>true
 |n+1=>aK p n&&p n
theorem aY(p:Nat->Bool)(n:Nat):aK p n=true↔∀i,i<n->p i=true:=by
 induction n with
 |zero=>simp[aK]
 |succ n ih=>
  unfold aK;rw[Bool.and_eq_true,ih];constructor
  ·rintro⟨h,g⟩ i hi
   by_cases e:i=n
   ·rw[e];exact g
   exact h i (by omega)
  intro h;exact⟨λi hi=>h i (by omega),h n (by omega)⟩
theorem bR{p:Nat->Bool}{n j:Nat}(hj:j<n)(h:p j=false):aK p n=false:=by
 cases e:aK p n with
 |false=>rfl
 |true=>have:=(aY p n).1 e j hj;rw[h] at this;cases this
def j5(G S I J:Int)(n:Nat)(b i d:Nat->Int):Bool:=decide ((n:Int)=G)&&aK (λk=>okD (ti G S I J) I (b k) (i k) (d k)) n
structure Sq(w:World)(G S I J:Int)(a:Option Addr)(n:Nat)(f:Nat->List Value)(W:World):Prop where
 s:At W w.heap.size 23 (ai G S I J)
 r:cU W a 3 n f
 bel:Below w.heap.size w W
theorem Sq.below{I:Int}{a:Option Addr}{n:Nat}{W:World}(h:Sq w G S I J a n f W)(hf:f 0≠[])(hb:Below W.heap.size W W'):Sq w G S I J a n f W':=
 ⟨h.s.below hb h.s.lt,h.r.below hf hb,h.bel.trans (hb.mono h.bel.size)⟩
theorem DB:(Tryz.prog.info? 67).map (·.size)=some 3:=by kernel_rfl
theorem vj(G S I J:Int)(hm:aT G S I J=true)(a:Option Addr)(n cap:Nat)(b i d:Nat->Int)(hn:(n:Int)<=9223372036854775807)(w:World)(hr:cU w a 3 n (df b i d)):
  Calls Tryz.prog 43 #[bV G S I J,.slice a n cap] w λe w'=>e= .returned (.bool (j5 G S I J n b i d))/\Below w.heap.size w w':=by
 have st0:Sq w G S I J a n (df b i d) (w.alloc (.cells (ai G S I J) 23)):=⟨At.new _ _ _,hr.below (uG _ _ _ _) (ag.alloc af _),ag.alloc af _⟩;have hI:4<=I/\I<=64:=by
  obtain⟨h1,h2,h3,h4,h5,h6,h7,h8,h9,h10,h11⟩:=(bq G S I J).1 hm;exact⟨h5,h6⟩
 have c0:(w.alloc (.cells #[.int .i64 G,.int .i64 S,.int .i64 I,.int .i64 J] 23)).cell? ⟨w.heap.size,0,none⟩=some (.int .i64 G):=st0.s.cell (i:=0) rfl;have Gt:=st0.s;have dt:=ah st0;clear st0 hr hm;go_enter Tryz.func43,Tryz.ntmps43
 by_cases hg:(n:Int)=G
 rotate_left
 ·have hg':((n:Int) !=G)=true:=by simpa using hg
  have HN:Hd (j5 G S I J n b i d=false):=by show _=_;unfold j5;simp[hg]
  clear hg;go_wp2_with fail;go_ret;exact⟨by rw[HN.Z];rfl,dt.Z.bel⟩
 have hg':((n:Int) !=G)=false:=by simpa using hg
 have HD:Hd (j5 G S I J n b i d=aK (λk=>okD (ti G S I J) I (b k) (i k) (d k)) n):=by show _=_;unfold j5;simp[hg]
 clear hg;go_wp2_with (first|(refine aB rfl 23 _ rfl _ _ _ rfl Gt Tryz.underlying23 rfl (by kernel_rfl) ?_))
 refine(yS G S I J _).mono ?_;rintro e w1 ⟨rfl,hb1⟩;have fj:=dt.Z.below (uG _ _ _ _) hb1;clear dt Gt c0 hb1 hg';have hda:=Au G S I J;generalize ti G S I J=da at*;go_wp2_with fail;go_loopw [17] (λu wr=>∃k:Nat,k<=n/\u= .int .i64 (k:Int)/\Hd (aK (λk=>okD da I (b k) (i k) (d k)) k=true)/\Sq w G S I J a n (df b i d) wr) (λu _=>n-(intOf u).toNat)
 case atStart=>exact⟨0,by omega,rfl,rfl,fj⟩
 clear fj;obtain⟨k,hk,rfl,eW,st⟩:=hrel
 by_cases hlt:k<n
 ·rcases st.r with h0|⟨bb,off,rfl,lQ⟩
  ·omega
  have r0:wr.cell? ⟨bb,off+k*3,none⟩=some (.int .i64 (b k)):=lQ k hlt 0 _ rfl;have r1:wr.cell? ⟨bb,off+k*3+1,none⟩=some (.int .i64 (i k)):=lQ k hlt 1 _ rfl;have r2:wr.cell? ⟨bb,off+k*3+2,none⟩=some (.int .i64 (d k)):=lQ k hlt 2 _ rfl;have hA:=At.new wr 67 (gV (b k) (i k) (d k));have d0:(wr.alloc (.cells #[.int .i64 (b k),.int .i64 (i k),.int .i64 (d k)] 67)).cell? ⟨wr.heap.size,0,none⟩=some (.int .i64 (b k)):=hA.cell (i:=0) rfl;have d1:(wr.alloc (.cells #[.int .i64 (b k),.int .i64 (i k),.int .i64 (d k)] 67)).cell? ⟨wr.heap.size,1,none⟩=some (.int .i64 (i k)):=hA.cell (i:=1) rfl;have d2:(wr.alloc (.cells #[.int .i64 (b k),.int .i64 (i k),.int .i64 (d k)] 67)).cell? ⟨wr.heap.size,2,none⟩=some (.int .i64 (d k)):=hA.cell (i:=2) rfl;have g2:(wr.alloc (.cells #[.int .i64 (b k),.int .i64 (i k),.int .i64 (d k)] 67)).cell? ⟨w.heap.size,2,none⟩=some (.int .i64 I):=(st.s.alloc _).cell (i:=2) rfl;have ST:=ah (st.below (uG _ _ _ _) (ag.alloc af (.cells (gV (b k) (i k) (d k)) 67)));have HK:Hd (∀c,okD da I (b k) (i k) (d k)=c->(c=true->aK (λk=>okD da I (b k) (i k) (d k)) (k+1)=true)/\(c=false->aK (λk=>okD da I (b k) (i k) (d k)) n=false)):=λc hc=>
   ⟨λh=>by show(aK _ k&&okD da I (b k) (i k) (d k))=true;rw[eW.Z,hc,h];rfl,λh=>bR hlt (by rw[hc,h])⟩
  clear lQ hA st eW;generalize b k=x at*;generalize i k=y at*;generalize d k=v at*;have hnl:(n:Int)<=9223372036854775807:=hn
  by_cases h1:0<=x
  rotate_left
  ·have HF:Hd (aK (λk=>okD da I (b k) (i k) (d k)) n=false):=(HK.Z false (gu λh=>h1 (h.1))).2 rfl
   have q1:decide (x<0)=true:=by rw[decide_eq_true_eq];omega
   go_wp2_with fail;go_ret;exact⟨by rw[HD.Z,HF.Z];rfl,ST.Z.bel⟩
  have q1:decide (x<0)=false:=by rw[decide_eq_false_iff_not];omega
  by_cases h2:x<=da
  rotate_left
  ·have HF:Hd (aK (λk=>okD da I (b k) (i k) (d k)) n=false):=(HK.Z false (gu λh=>h2 (h.2.1))).2 rfl
   have q2:decide (da<x)=true:=by rw[decide_eq_true_eq];omega
   go_wp2_with fail;go_ret;exact⟨by rw[HD.Z,HF.Z];rfl,ST.Z.bel⟩
  have q2:decide (da<x)=false:=by rw[decide_eq_false_iff_not];omega
  by_cases h3:0<=y
  rotate_left
  ·have HF:Hd (aK (λk=>okD da I (b k) (i k) (d k)) n=false):=(HK.Z false (gu λh=>h3 (h.2.2.1))).2 rfl
   have q3:decide (y<0)=true:=by rw[decide_eq_true_eq];omega
   go_wp2_with fail;go_ret;exact⟨by rw[HD.Z,HF.Z];rfl,ST.Z.bel⟩
  have q3:decide (y<0)=false:=by rw[decide_eq_false_iff_not];omega
  by_cases h4:y<=I
  rotate_left
  ·have HF:Hd (aK (λk=>okD da I (b k) (i k) (d k)) n=false):=(HK.Z false (gu λh=>h4 (h.2.2.2.1))).2 rfl
   have q4:decide (I<y)=true:=by rw[decide_eq_true_eq];omega
   go_wp2_with fail;go_ret;exact⟨by rw[HD.Z,HF.Z];rfl,ST.Z.bel⟩
  have q4:decide (I<y)=false:=by rw[decide_eq_false_iff_not];omega
  by_cases h5:0<=v
  rotate_left
  ·have HF:Hd (aK (λk=>okD da I (b k) (i k) (d k)) n=false):=(HK.Z false (gu λh=>h5 (h.2.2.2.2.1))).2 rfl
   have q5:decide (v<0)=true:=by rw[decide_eq_true_eq];omega
   go_wp2_with fail;go_ret;exact⟨by rw[HD.Z,HF.Z];rfl,ST.Z.bel⟩
  have q5:decide (v<0)=false:=by rw[decide_eq_false_iff_not];omega
  by_cases h6:v<=I-y
  rotate_left
  ·have HF:Hd (aK (λk=>okD da I (b k) (i k) (d k)) n=false):=(HK.Z false (gu λh=>h6 (h.2.2.2.2.2))).2 rfl
   have q6:decide (I-y<v)=true:=by rw[decide_eq_true_eq];omega
   go_wp2_with fail;go_ret;exact⟨by rw[HD.Z,HF.Z];rfl,ST.Z.bel⟩
  have q6:decide (I-y<v)=false:=by rw[decide_eq_false_iff_not];omega
  have HY:Hd (aK (λk=>okD da I (b k) (i k) (d k)) (k+1)=true):=(HK.Z true ((vO _ _ _ _ _).2 ⟨h1,h2,h3,h4,h5,h6⟩)).1 rfl;go_wp2_with fail;go_roundw
  case rel=>first|exact⟨k+1,by omega,by go_num,HY,ST.Z⟩|exact⟨k+1,by omega,rfl,HY,ST.Z⟩
  simp[intOf];omega
 obtain rfl:k=n:=by omega
 go_wp2_with fail;go_ret;exact⟨by rw[HD.Z,eW.Z];rfl,st.bel⟩
end Go.Proofs.YtphamecphmbipaaGreatDoor
