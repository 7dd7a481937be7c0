/- Texts of this claim, merged. -/
import Derived.Test.YtphamecphmbipaaGreatDoorK05
import Derived.ProofKit
import Derived.Deep.DeepAppendRoom
set_option linter.unusedVariables false
set_option maxRecDepth 100000
set_option maxHeartbeats 16000000

namespace Go.Proofs.YtphamecphmbipaaGreatDoor
open Go.RowKit
open Lib (hid)
variable {a:Option Addr} {w W' w':World} {G:Int} {f:Nat->List Value} {v:Value} {T:TypeId} {k g b off:Nat} {fn:Func} {p:Tmp} {z m:Nat->Int} {cs:Array Value}
abbrev tv(kind group at' ino:Int):List Value:=[.int .u8 kind,.int .i64 group,.int .i64 at',.int .i64 ino]
def gN(S t J:Nat)(k:Nat):List Value:=
 if k=0 then tv 1 0 0 0 else if k=1 then tv 2 0 0 0 else if k<2+J then tv 3 0 ((k:Int)-2) 0 else
 if(k-(2+J))%S=0 then tv 4 ((k-(2+J))/S:Nat) 0 0 else
 if(k-(2+J))%S=1 then tv 5 ((k-(2+J))/S:Nat) 1 0 else
 if(k-(2+J))%S<2+t then tv 6 ((k-(2+J))/S:Nat) ((k-(2+J))%S:Nat) (1+((k-(2+J))/S:Nat)*(4*(t:Int))+4*(((k-(2+J))%S:Nat)-2)) else
 tv 7 ((k-(2+J))/S:Nat) ((k-(2+J))%S:Nat) 0
theorem pL(S t J k:Nat):(gN S t J k).length=4:=by unfold gN;repeat(first|split|rfl)
theorem Ey(S t J:Nat){i:Nat}(h:i<J):gN S t J (2+i)=tv 3 0 (i:Int) 0:=by
 unfold gN;rw[if_neg (by omega),if_neg (by omega),if_pos (by omega)];rw[show((2+i:Nat):Int)-2=(i:Int) by omega]
theorem zI(S t J:Nat)(γ:Nat){a:Nat}(ha:a<S):gN S t J (2+J+γ*S+a)=
  if a=0 then tv 4 γ 0 0 else if a=1 then tv 5 γ 1 0 else if a<2+t then tv 6 γ a (1+(γ:Int)*(4*(t:Int))+4*((a:Int)-2)) else tv 7 γ a 0:=by
 have e1:(2+J+γ*S+a-(2+J))%S=a:=by
  rw[show 2+J+γ*S+a-(2+J)=γ*S+a by omega,Nat.mul_comm,Nat.mul_add_mod,Nat.mod_eq_of_lt ha]
 have e2:(2+J+γ*S+a-(2+J))/S=γ:=by
  rw[show 2+J+γ*S+a-(2+J)=γ*S+a by omega,Nat.mul_comm,Nat.mul_add_div (by omega),Nat.div_eq_of_lt ha,Nat.add_zero]
 unfold gN;rw[if_neg (by omega),if_neg (by omega),if_neg (by omega),e1,e2]
theorem Ak:(Tryz.prog.info? 134).map (λi=>(i.zero,i.size,i.bytes))=some (some (.agg #[.int .u8 0,.int .i64 0,.int .i64 0,.int .i64 0]),4,32):=by kernel_rfl
theorem zC(W:World):(zeroValue 134).run Tryz.prog W= .ok (.agg #[.int .u8 0,.int .i64 0,.int .i64 0,.int .i64 0]) W:=by kernel_rfl
theorem zO(a b c d:Int)(w:World):(Instr.buildSlice 130 1 #[(0,.agg #[.int .u8 a,.int .i64 b,.int .i64 c,.int .i64 d])]).run Tryz.prog w= .ok (.slice (some ⟨w.heap.size,0,none⟩) 1 1) (w.alloc (.cells #[.int .u8 a,.int .i64 b,.int .i64 c,.int .i64 d] 134)):=by kernel_rfl
theorem zN(a b c d a' b' c' d':Int)(w:World):(Instr.buildSlice 130 2 #[(0,.agg #[.int .u8 a,.int .i64 b,.int .i64 c,.int .i64 d]),(1,.agg #[.int .u8 a',.int .i64 b',.int .i64 c',.int .i64 d'])]).run Tryz.prog w= .ok (.slice (some ⟨w.heap.size,0,none⟩) 2 2) (w.alloc (.cells #[.int .u8 a,.int .i64 b,.int .i64 c,.int .i64 d,.int .u8 a',.int .i64 b',.int .i64 c',.int .i64 d'] 134)):=by kernel_rfl
structure zB(w:World)(G S I J:Int)(f:Nat->List Value)(n:Nat)(v:Value)(W:World):Prop where
 g:At W w.heap.size 23 (aa G S I J)
 own:ah W (w.heap.size+1) 134 4 v n f
 bel:Below w.heap.size w W
theorem zB.app{S I J:Int}{n:Nat}{v':Value}{W:World}{vs:List Value}(h:zB w G S I J f n v W)
  (ho:W'.ownsRow (w.heap.size+1) 134 4 v' (n+k) (Cs f n++vs)) (hg:(W.alloc (.cells vs.toArray T)).grownBy W' v.ownBlock) (hk:vs=Cs (λi=>f (n+i)) k):zB w G S I J f (n+k) v' W':=by
 have lG:∀q,v.ownBlock=some q->w.heap.size+1<=q:=λq hq=>(World.ownsRow.lt h.own q hq).1
 have hx:=h.g.alloc (.cells vs.toArray T);exact⟨(hg.block _ hx.lt (λe=>by have:=lG _ e.symm;omega)).trans hx,ah.append ho hk,(h.bel.alloc h.bel.size _).grown hg (h.bel.alloc h.bel.size _).size (λq e=>by have:=lG q e;omega)⟩
theorem nu(G S I J:Int)(w:World):Calls Tryz.prog 57 #[bN G S I J] w λe w'=>Below w.heap.size w w'/\
  (aM G S I J=false/\e= .returned (.slice none 0 0)\/aM G S I J=true/\∃v,e= .returned v/\ah w' (w.heap.size+1) 134 4 v (2+J.toNat+G.toNat*S.toNat) (gN S.toNat (I.toNat/4) J.toNat)):=by
 have HA:=hid (At.new w 23 (aa G S I J));have HL:Hid (Below w.heap.size w (w.alloc (.cells (aa G S I J) 23))):=(Below.refl _ _).alloc (Nat.le_refl _) _;have hal:=zC;go_enter Tryz.func57,Tryz.ntmps57;have hA:=HA.out;go_wp2_with (first|(refine ar rfl 23 _ rfl _ _ _ rfl hA Tryz.underlying23 rfl (by kernel_rfl) ?_))
 refine(dY G S I J _).mono ?_;rintro e w1 ⟨rfl,hb1⟩;have gJ:=hA.below hb1 hA.lt;have fR:Below w.heap.size w w1:=HL.out.trans (hb1.mono HL.out.size);clear hA HA HL hb1;cases hm:aM G S I J with
 |false=>
  have LV:=hid hm;clear hm;go_wp2_with fail;go_ret;exact⟨fR,.inl ⟨LV.out,rfl⟩⟩
 |true=>
 have HM:=hid hm;obtain⟨h1,h2,h3,h4,h5,h6,h7,h8,h9,h10,h11⟩:=(aX G S I J).1 hm;clear hm;have adw:=zO;have adv:=zN;obtain⟨i0,hi,hz0,hz1,hz2⟩:=info_parts Ak;obtain⟨g,hg⟩:∃g:Nat,G=(g:Int):=⟨G.toNat,by omega⟩;obtain⟨s,hs⟩:∃s:Nat,S=(s:Int):=⟨S.toNat,by omega⟩;obtain⟨t,ht⟩:∃t:Nat,I=4*(t:Int):=⟨(I/4).toNat,by omega⟩;obtain⟨j,hj⟩:∃j:Nat,J=(j:Int):=⟨J.toNat,by omega⟩;have ze:Hid (2+J.toNat+G.toNat*S.toNat=2+j+g*s/\gN S.toNat (I.toNat/4) J.toNat=gN s t j):=by
  subst hg hs ht hj;exact⟨by simp,by rw[Int.toNat_natCast,Int.toNat_natCast,show(4*(t:Int)).toNat/4=t by omega]⟩
 have VF:g*s<=2048:=by have:=(Ce h1 h2 h3 h4).2;rw[hg,hs] at this;exact_mod_cast this
 have st0:Hid (zB w G S I J (gN s t j) 2 (.slice (some ⟨w1.heap.size,0,none⟩) 2 2) (w1.alloc (.cells #[.int .u8 1,.int .i64 0,.int .i64 0,.int .i64 0,.int .u8 2,.int .i64 0,.int .i64 0,.int .i64 0] 134))):=
  ⟨gJ.alloc _,⟨by simp[Cs,gN],.inr ⟨_,2,_,rfl,gJ.lt,heap_alloc_new w1 _,by omega,by unfold maxLen;omega,rfl,by simp[Cs,gN]⟩⟩,fR.alloc fR.size _⟩
 clear gJ fR;go_wp2_with fail;have PO:=st0.out;clear st0;go_loopw [3,4] (λv u wr=>∃(k:Nat) (a:Option Addr) (cap:Nat),k<=j/\v= .slice a (2+k) cap/\u= .int .i64 (k:Int)/\zB w G S I J (gN s t j) (2+k) (.slice a (2+k) cap) wr) (λ_ u _=>j-(intOf u).toNat)
 case atStart=>exact⟨0,_,2,by omega,rfl,rfl,PO⟩
 case round=>
  clear PO;obtain⟨k,a,cap,hk,rfl,rfl,st0⟩:=hrel;have c3:wr.cell? ⟨w.heap.size,3,none⟩=some (.int .i64 J):=st0.g.cell (i:=3) rfl
  by_cases hlt:k<j
  ·have l1:(k:Int)<J:=by omega
   have hown':=st0.own.alloc (.cells #[.int .u8 3,.int .i64 0,.int .i64 (k:Int),.int .i64 0] 134);have hnews:=ez wr [.int .u8 3,.int .i64 0,.int .i64 (k:Int),.int .i64 0] 134;have hone:∀u∈([.int .u8 3,.int .i64 0,.int .i64 (k:Int),.int .i64 0]:List Value),u.oneCell'=true:=by intro u hu;simp only[List.mem_cons,List.not_mem_nil,or_false] at hu;rcases hu with rfl|rfl|rfl|rfl<;>rfl
   have vS:=st0.g.lt;go_wp2_with (first|(refine wpList_append_own _ rfl _ _ 130 rfl (w.heap.size+1) 134 i0 (.agg #[.int .u8 0,.int .i64 0,.int .i64 0,.int .i64 0]) 4 32 Tryz.underlying130 hi hz0 hz1 hz2 rfl (by decide) _ (2+k) _ rfl hown' ⟨wr.heap.size,0,none⟩ 1 1 [.int .u8 3,.int .i64 0,.int .i64 (k:Int),.int .i64 0] rfl rfl hnews hone (by unfold maxLen;omega) (by omega) (by simp;omega) ?_))
   intro v' w7 eV vT _;have st:zB w G S I J (gN s t j) (2+k+1) v' w7:=zB.app st0 eV vT (by show _=[]++gN s t j (2+k+0);rw[Nat.add_zero,Ey s t j hlt];rfl);obtain⟨a',cap',hv'⟩:=st.own.form;subst hv';clear st0 hown' eV vT hnews hone vS;clear c3;go_wp2_with fail;go_roundw
   case rel=>(try((repeat apply Exists.intro);refine⟨?_,rfl⟩));exact⟨k+1,a',cap',by omega,rfl,by go_num,st⟩
   case measure=>simp[intOf];omega
  ·obtain rfl:k=j:=by omega
   have l1:¬(k:Int)<J:=by omega
   go_wp2_with fail;go_loopw [3,5,6] (λv q u wr=>∃(γ:Nat) (a:Option Addr) (cap:Nat),γ<=g/\v= .slice a (2+k+γ*s) cap/\q= .int .i64 (1+(γ:Int)*(4*(t:Int)))/\u= .int .i64 (γ:Int)/\zB w G S I J (gN s t k) (2+k+γ*s) (.slice a (2+k+γ*s) cap) wr) (λ_ _ u _=>g-(intOf u).toNat)
   case atStart=>exact⟨0,a,cap,by omega,by rw[Nat.zero_mul,Nat.add_zero],by simp,rfl,by rw[Nat.zero_mul,Nat.add_zero];exact st0⟩
   case round=>
    clear st0 c3;obtain⟨γ,a1,RC,hγ,rfl,rfl,rfl,st0⟩:=hrel;have c0:wr.cell? ⟨w.heap.size,0,none⟩=some (.int .i64 G):=st0.g.cell (i:=0) rfl;have c2:wr.cell? ⟨w.heap.size,2,none⟩=some (.int .i64 I):=st0.g.cell (i:=2) rfl
    by_cases hlt:γ<g
    ·have l1:(γ:Int)<G:=by omega
     have G3:Hid (∀a,a<s->gN s t k (2+k+γ*s+a)=if a=0 then tv 4 γ 0 0 else if a=1 then tv 5 γ 1 0 else if a<2+t then tv 6 γ a (1+(γ:Int)*(4*(t:Int))+4*((a:Int)-2)) else tv 7 γ a 0):=λa ha=>zI s t k γ ha
     have hps:γ*s+s<=2048:=by
      have:(γ+1)*s<=g*s:=Nat.mul_le_mul_right s hlt;rw[Nat.succ_mul] at this;omega
     have pk:Hid ((γ+1)*s=γ*s+s):=Nat.succ_mul γ s;have HIX:Hid (1+((γ+1:Nat):Int)*(4*(t:Int))=1+(γ:Int)*(4*(t:Int))+4*(t:Int)):=by show _=_;rw[Int.natCast_add,Int.add_mul];omega
     have hib:0<=(γ:Int)*(4*(t:Int))/\(γ:Int)*(4*(t:Int))<=256:=by
      refine⟨Int.mul_nonneg (by omega) (by omega),?_⟩;have:=Int.mul_le_mul (show(γ:Int)<=4 by omega) (show 4*(t:Int)<=64 by omega) (by omega) (by omega:(0:Int)<=4);omega
     generalize Ds:γ*s=pp at*;generalize hqq:(γ:Int)*(4*(t:Int))=qq at*;clear Ds hqq;have hown':=st0.own.alloc (.cells #[.int .u8 4,.int .i64 (γ:Int),.int .i64 0,.int .i64 0,.int .u8 5,.int .i64 (γ:Int),.int .i64 1,.int .i64 0] 134);have hnews:=ez wr [.int .u8 4,.int .i64 (γ:Int),.int .i64 0,.int .i64 0,.int .u8 5,.int .i64 (γ:Int),.int .i64 1,.int .i64 0] 134;have hone:∀u∈([.int .u8 4,.int .i64 (γ:Int),.int .i64 0,.int .i64 0,.int .u8 5,.int .i64 (γ:Int),.int .i64 1,.int .i64 0]:List Value),u.oneCell'=true:=by intro u hu;simp only[List.mem_cons,List.not_mem_nil,or_false] at hu;rcases hu with rfl|rfl|rfl|rfl|rfl|rfl|rfl|rfl<;>rfl
     have vS:=st0.g.lt;go_wp2_with (first|(refine wpList_append_own _ rfl _ _ 130 rfl (w.heap.size+1) 134 i0 (.agg #[.int .u8 0,.int .i64 0,.int .i64 0,.int .i64 0]) 4 32 Tryz.underlying130 hi hz0 hz1 hz2 rfl (by decide) _ (2+k+pp) _ rfl hown' ⟨wr.heap.size,0,none⟩ 2 2 [.int .u8 4,.int .i64 (γ:Int),.int .i64 0,.int .i64 0,.int .u8 5,.int .i64 (γ:Int),.int .i64 1,.int .i64 0] rfl rfl hnews hone (by unfold maxLen;omega) (by omega) (by simp;omega) ?_))
     intro v' w7 eV vT _;have st:zB w G S I J (gN s t k) (2+k+pp+2) v' w7:=zB.app st0 eV vT (by show _=[]++gN s t k (2+k+pp+0)++gN s t k (2+k+pp+1);rw[G3.out 0 (by omega),G3.out 1 (by omega)];rfl);obtain⟨a',cap',hv'⟩:=st.own.form;subst hv';clear st0 hown' eV vT hnews hone vS;clear c0 c2;go_wp2_with fail;go_loopw [3,5,7] (λv q u wr=>∃(κ:Nat) (a:Option Addr) (cap:Nat),κ<=t/\v= .slice a (2+k+pp+2+κ) cap/\q= .int .i64 (1+qq+4*(κ:Int))/\u= .int .i64 (4*(κ:Int))/\zB w G S I J (gN s t k) (2+k+pp+2+κ) (.slice a (2+k+pp+2+κ) cap) wr) (λ_ _ u _=>4*t-(intOf u).toNat)
     case atStart=>exact⟨0,a',cap',by omega,rfl,by simp,rfl,st⟩
     case round=>
      clear st;obtain⟨κ,a2,cap2,hκ,rfl,rfl,rfl,st0⟩:=hrel;have c2:wr.cell? ⟨w.heap.size,2,none⟩=some (.int .i64 I):=st0.g.cell (i:=2) rfl
      by_cases jX:κ<t
      ·have l2:4*(κ:Int)<I:=by omega
       have t1:(4*(κ:Int)).tdiv 4=(κ:Int):=by rw[Int.tdiv_eq_ediv_of_nonneg (by omega)];omega
       have t2:4*(κ:Int)/4=(κ:Int):=by omega
       have hown':=st0.own.alloc (.cells #[.int .u8 6,.int .i64 (γ:Int),.int .i64 (2+(κ:Int)),.int .i64 (1+qq+4*(κ:Int))] 134);have hnews:=ez wr [.int .u8 6,.int .i64 (γ:Int),.int .i64 (2+(κ:Int)),.int .i64 (1+qq+4*(κ:Int))] 134;have hone:∀u∈([.int .u8 6,.int .i64 (γ:Int),.int .i64 (2+(κ:Int)),.int .i64 (1+qq+4*(κ:Int))]:List Value),u.oneCell'=true:=by intro u hu;simp only[List.mem_cons,List.not_mem_nil,or_false] at hu;rcases hu with rfl|rfl|rfl|rfl<;>rfl
       have vS:=st0.g.lt;go_wp2_with (first|(refine wpList_append_own _ rfl _ _ 130 rfl (w.heap.size+1) 134 i0 (.agg #[.int .u8 0,.int .i64 0,.int .i64 0,.int .i64 0]) 4 32 Tryz.underlying130 hi hz0 hz1 hz2 rfl (by decide) _ (2+k+pp+2+κ) _ rfl hown' ⟨wr.heap.size,0,none⟩ 1 1 [.int .u8 6,.int .i64 (γ:Int),.int .i64 (2+(κ:Int)),.int .i64 (1+qq+4*(κ:Int))] rfl rfl hnews hone (by unfold maxLen;omega) (by omega) (by simp;omega) ?_))
       intro v' w7 eV vT _;have st:zB w G S I J (gN s t k) (2+k+pp+2+κ+1) v' w7:=zB.app st0 eV vT (by show _=[]++gN s t k (2+k+pp+2+κ+0);rw[show 2+k+pp+2+κ+0=2+k+pp+(2+κ) by omega,G3.out (2+κ) (by omega),if_neg (by omega),if_neg (by omega),if_pos (by omega),show((2+κ:Nat):Int)=2+(κ:Int) by omega,show 2+(κ:Int)-2=(κ:Int) by omega];rfl);obtain⟨a',cap',hv'⟩:=st.own.form;subst hv';clear st0 hown' eV vT hnews hone vS;clear c2;go_wp2_with fail;go_roundw
       case rel=>first|exact⟨κ+1,a',cap',by omega,rfl,by go_num,by go_num,st⟩|exact⟨κ+1,a',cap',by omega,rfl,int_eq (by omega),int_eq (by omega),st⟩|((repeat apply Exists.intro);exact⟨⟨κ+1,a',cap',by omega,rfl,int_eq (by omega),int_eq (by omega),st⟩,rfl⟩)
       case measure=>simp[intOf];omega
      ·obtain rfl:κ=t:=by omega
       have l2:¬4*(κ:Int)<I:=by omega
       have t1:I.tdiv 4=(κ:Int):=by rw[Int.tdiv_eq_ediv_of_nonneg (by omega)];omega
       have t2:I/4=(κ:Int):=by omega
       go_wp2_with fail;go_loopw [3,8] (λv u wr=>∃(α:Nat) (a:Option Addr) (cap:Nat),2+κ<=α/\α<=s/\v= .slice a (2+k+pp+α) cap/\u= .int .i64 (α:Int)/\zB w G S I J (gN s κ k) (2+k+pp+α) (.slice a (2+k+pp+α) cap) wr) (λ_ u _=>s-(intOf u).toNat)
       case atStart=>exact⟨2+κ,a2,cap2,by omega,by omega,by rw[Nat.add_assoc (2+k+pp) 2 κ],int_eq (by omega),by rw[<-Nat.add_assoc (2+k+pp) 2 κ];exact st0⟩
       case round=>
        clear st0 c2;obtain⟨α,a3,RB,hα0,hα,rfl,rfl,st0⟩:=hrel;have c1:wr.cell? ⟨w.heap.size,1,none⟩=some (.int .i64 S):=st0.g.cell (i:=1) rfl
        by_cases QH:α<s
        ·have l3:(α:Int)<S:=by omega
         have hown':=st0.own.alloc (.cells #[.int .u8 7,.int .i64 (γ:Int),.int .i64 (α:Int),.int .i64 0] 134);have hnews:=ez wr [.int .u8 7,.int .i64 (γ:Int),.int .i64 (α:Int),.int .i64 0] 134;have hone:∀u∈([.int .u8 7,.int .i64 (γ:Int),.int .i64 (α:Int),.int .i64 0]:List Value),u.oneCell'=true:=by intro u hu;simp only[List.mem_cons,List.not_mem_nil,or_false] at hu;rcases hu with rfl|rfl|rfl|rfl<;>rfl
         have vS:=st0.g.lt;go_wp2_with (first|(refine wpList_append_own _ rfl _ _ 130 rfl (w.heap.size+1) 134 i0 (.agg #[.int .u8 0,.int .i64 0,.int .i64 0,.int .i64 0]) 4 32 Tryz.underlying130 hi hz0 hz1 hz2 rfl (by decide) _ (2+k+pp+α) _ rfl hown' ⟨wr.heap.size,0,none⟩ 1 1 [.int .u8 7,.int .i64 (γ:Int),.int .i64 (α:Int),.int .i64 0] rfl rfl hnews hone (by unfold maxLen;omega) (by omega) (by simp;omega) ?_))
         intro v' w7 eV vT _;have st:zB w G S I J (gN s κ k) (2+k+pp+α+1) v' w7:=zB.app st0 eV vT (by show _=[]++gN s κ k (2+k+pp+α+0);rw[Nat.add_zero,G3.out α QH,if_neg (by omega),if_neg (by omega),if_neg (by omega)];rfl);obtain⟨a',cap',hv'⟩:=st.own.form;subst hv';clear st0 hown' eV vT hnews hone vS;clear c1;go_wp2_with fail;go_roundw
         case rel=>(try((repeat apply Exists.intro);refine⟨?_,rfl⟩));exact⟨α+1,a',cap',by omega,by omega,rfl,by go_num,st⟩
         case measure=>simp[intOf];omega
        ·obtain rfl:α=s:=by omega
         have l3:¬(α:Int)<S:=by omega
         go_wp2_with fail;go_roundw
         case rel=>(try((repeat apply Exists.intro);refine⟨?_,rfl⟩));exact⟨γ+1,a3,RB,by omega,by rw[pk.out,Nat.add_assoc],by rw[HIX.out],by go_num,by rw[pk.out,<-Nat.add_assoc];exact st0⟩
         case measure=>simp[intOf];omega
    ·obtain rfl:γ=g:=by omega
     have l1:¬(γ:Int)<G:=by omega
     have fin:Hid (Below w.heap.size w wr/\(aM G S I J=false/\(Ending.returned (.slice a1 (2+k+γ*s) RC))= .returned (.slice none 0 0)\/aM G S I J=true/\∃v,(Ending.returned (.slice a1 (2+k+γ*s) RC))= .returned v/\ah wr (w.heap.size+1) 134 4 v (2+J.toNat+G.toNat*S.toNat) (gN S.toNat (I.toNat/4) J.toNat))):=
      ⟨st0.bel,.inr ⟨HM.out,_,rfl,by rw[ze.out.1,ze.out.2];exact st0.own⟩⟩
     go_wp2_with fail;go_ret;subst hg hs ht hj;exact fin.out
def oV(G S I J:Int):Int:=if aM G S I J then 2+J+G*S else 0
theorem xQ(G S I J:Int)(w:World):Calls Tryz.prog 113 #[bN G S I J] w λe w'=>e= .returned (.int .i64 (oV G S I J))/\Below w.heap.size w w':=by
 have HA:=hid (At.new w 23 (aa G S I J));have HL:Hid (Below w.heap.size w (w.alloc (.cells (aa G S I J) 23))):=(Below.refl _ _).alloc (Nat.le_refl _) _;go_enter Tryz.func113,Tryz.ntmps113;have hA:=HA.out;go_wp2_with (first|(refine ar rfl 23 _ rfl _ _ _ rfl hA Tryz.underlying23 rfl (by kernel_rfl) ?_))
 refine(nu G S I J _).mono ?_;rintro e w1 ⟨hb1,hlr⟩;have fR:Below w.heap.size w w1:=HL.out.trans (hb1.mono HL.out.size);clear hA HA HL hb1;rcases hlr with⟨hm,rfl⟩|⟨hm,v,rfl,hown⟩
 ·have HN:Hid (oV G S I J=0):=by show _=_;unfold oV;rw[hm];rfl
  clear hm;go_wp2_with fail;go_ret;exact⟨by rw[HN.out];rfl,fR⟩
 ·obtain⟨a,cap,rfl⟩:=hown.form
  have HN:Hid (oV G S I J=((2+J.toNat+G.toNat*S.toNat:Nat):Int)):=by
   show _=_;unfold oV;obtain⟨h1,h2,h3,h4,h5,h6,h7,h8,h9,h10,h11⟩:=(aX G S I J).1 hm;rw[hm,if_pos rfl,Int.natCast_add,Int.natCast_add,Int.natCast_mul,Int.toNat_of_nonneg (by omega),Int.toNat_of_nonneg (by omega),Int.toNat_of_nonneg (by omega)];rfl
  clear hm hown;generalize 2+J.toNat+G.toNat*S.toNat=n at*;go_wp2_with fail;go_ret;exact⟨by rw[HN.out];rfl,fR⟩
def pX(G S I J:Int):Int:=if aM G S I J then G*I else 0
def sX(G S I J:Int):Int:=if aM G S I J then S-2-I/4 else 0
theorem Cf{I:Int}(h1:1<=G)(h2:G<=4)(h3:4<=I)(h4:I<=64):4<=G*I/\G*I<=256:=by
 have h:=Int.mul_le_mul h2 h4 (by omega) (by omega:(0:Int)<=4);have h':=Int.mul_le_mul h1 h3 (by omega) (by omega:(0:Int)<=G);omega
theorem Fy(G S I J:Int):0<=pX G S I J/\pX G S I J<=256:=by
 unfold pX;cases h:aM G S I J with
 |false=>simp
 |true=>
  obtain⟨h1,h2,h3,h4,h5,h6,h7,h8,h9,h10,h11⟩:=(aX G S I J).1 h;have:=Cf h1 h2 h5 h6;simp only[if_true];omega
theorem Ad(G S I J:Int):0<=sX G S I J/\sX G S I J<=512:=by
 unfold sX;cases h:aM G S I J with
 |false=>simp
 |true=>
  obtain⟨h1,h2,h3,h4,h5,h6,h7,h8,h9,h10,h11⟩:=(aX G S I J).1 h;simp only[if_true];omega
theorem jb(G S I J:Int)(w:World):Calls Tryz.prog 23 #[bN G S I J] w λe w'=>e= .returned (.int .i64 (pX G S I J))/\Below w.heap.size w w':=by
 have HA:=hid (At.new w 23 (aa G S I J));have HL:Hid (Below w.heap.size w (w.alloc (.cells (aa G S I J) 23))):=(Below.refl _ _).alloc (Nat.le_refl _) _;go_enter Tryz.func23,Tryz.ntmps23;have hA:=HA.out;go_wp2_with (first|(refine ar rfl 23 _ rfl _ _ _ rfl hA Tryz.underlying23 rfl (by kernel_rfl) ?_))
 refine(eu G S I J _).mono ?_;rintro e w1 ⟨rfl,hb1⟩;have gJ:=hA.below hb1 hA.lt;have fR:Below w.heap.size w w1:=HL.out.trans (hb1.mono HL.out.size);clear hA HA HL hb1;cases hm:aM G S I J with
 |false=>
  have HN:Hid (pX G S I J=0):=by show _=_;unfold pX;rw[hm];rfl
  clear hm;go_wp2_with fail;go_ret;exact⟨by rw[HN.out];rfl,fR⟩
 |true=>
  have HN:Hid (pX G S I J=G*I):=by show _=_;unfold pX;rw[hm];rfl
  obtain⟨h1,h2,h3,h4,h5,h6,h7,h8,h9,h10,h11⟩:=(aX G S I J).1 hm;have BI:=Cf h1 h2 h5 h6;have hw:IntKind.i64.wrap (G*I)=G*I:=IntWalk.i64_in _ (by omega);have c0:w1.cell? ⟨w.heap.size,0,none⟩=some (.int .i64 G):=gJ.cell (i:=0) rfl;have c2:w1.cell? ⟨w.heap.size,2,none⟩=some (.int .i64 I):=gJ.cell (i:=2) rfl;clear hm h11;go_wp2_with fail;go_ret;exact⟨by rw[HN.out];rfl,fR⟩
theorem yA(G S I J:Int)(w:World):Calls Tryz.prog 89 #[bN G S I J] w λe w'=>e= .returned (.int .i64 (sX G S I J))/\Below w.heap.size w w':=by
 have HA:=hid (At.new w 23 (aa G S I J));have HL:Hid (Below w.heap.size w (w.alloc (.cells (aa G S I J) 23))):=(Below.refl _ _).alloc (Nat.le_refl _) _;go_enter Tryz.func89,Tryz.ntmps89;have hA:=HA.out;go_wp2_with (first|(refine ar rfl 23 _ rfl _ _ _ rfl hA Tryz.underlying23 rfl (by kernel_rfl) ?_))
 refine(eu G S I J _).mono ?_;rintro e w1 ⟨rfl,hb1⟩;have gJ:=hA.below hb1 hA.lt;have fR:Below w.heap.size w w1:=HL.out.trans (hb1.mono HL.out.size);clear hA HA HL hb1;cases hm:aM G S I J with
 |false=>
  have HN:Hid (sX G S I J=0):=by show _=_;unfold sX;rw[hm];rfl
  clear hm;go_wp2_with fail;go_ret;exact⟨by rw[HN.out];rfl,fR⟩
 |true=>
  have HN:Hid (sX G S I J=S-2-I/4):=by show _=_;unfold sX;rw[hm];rfl
  obtain⟨h1,h2,h3,h4,h5,h6,h7,h8,h9,h10,h11⟩:=(aX G S I J).1 hm;have c0:w1.cell? ⟨w.heap.size,1,none⟩=some (.int .i64 S):=gJ.cell (i:=1) rfl;have c2:w1.cell? ⟨w.heap.size,2,none⟩=some (.int .i64 I):=gJ.cell (i:=2) rfl;have t1:=nI I h5;clear hm h11;go_wp2_with fail;go_ret;exact⟨by rw[HN.out];rfl,fR⟩
theorem Mf(S t J i:Nat)(hS:0<S)(ht:2+t<S):∃kd gr a n:Int,gN S t J i=tv kd gr a n/\((kd=7/\gr=0)↔(4+J+t<=i/\i<2+J+S)):=by
 unfold gN;split
 ·exact⟨_,_,_,_,rfl,by omega⟩
 split
 ·exact⟨_,_,_,_,rfl,by omega⟩
 split
 ·exact⟨_,_,_,_,rfl,by omega⟩
 have yq:=Nat.div_add_mod (i-(2+J)) S;have OQ:=Nat.mod_lt (i-(2+J)) hS;have hd0:(i-(2+J))/S=0↔i-(2+J)<S:=Nat.div_eq_zero_iff_lt hS;have QG:i-(2+J)<S->(i-(2+J))%S=i-(2+J):=Nat.mod_eq_of_lt;generalize (i-(2+J))%S=r at*;generalize (i-(2+J))/S=q at*;split
 ·exact⟨_,_,_,_,rfl,by constructor<;>intro h<;>omega⟩
 split
 ·exact⟨_,_,_,_,rfl,by constructor<;>intro h<;>omega⟩
 split
 ·exact⟨_,_,_,_,rfl,by constructor<;>intro h<;>omega⟩
 ·exact⟨_,_,_,_,rfl,by constructor<;>intro h<;>omega⟩
theorem qV(G S I J:Int)(w:World):Calls Tryz.prog 58 #[bN G S I J] w λe w'=>e= .returned (.int .i64 (sX G S I J))/\Below w.heap.size w w':=by
 have HA:=hid (At.new w 23 (aa G S I J));have HL:Hid (Below w.heap.size w (w.alloc (.cells (aa G S I J) 23))):=(Below.refl _ _).alloc (Nat.le_refl _) _;go_enter Tryz.func58,Tryz.ntmps58;have hA:=HA.out;go_wp2_with (first|(refine ar rfl 23 _ rfl _ _ _ rfl hA Tryz.underlying23 rfl (by kernel_rfl) ?_))
 refine(nu G S I J _).mono ?_;rintro e w1 ⟨hb1,hlr⟩;have fR:Below w.heap.size w w1:=HL.out.trans (hb1.mono HL.out.size);clear hA HA HL hb1;have hfull:∃(n:Nat) (a:Option Addr) (cap:Nat) (q b:Nat),e= .returned (.slice a n cap)/\sX G S I J=((b-q:Nat):Int)/\b<=n/\n<=10000/\∀i,i<n->∃g off kd gr,a=some ⟨g,off,none⟩/\w1.cell? ⟨g,off+i*4,none⟩=some (.int .u8 kd)/\w1.cell? ⟨g,off+i*4+1,none⟩=some (.int .i64 gr)/\((kd=7/\gr=0)↔(q<=i/\i<b)):=by
  rcases hlr with⟨hm,rfl⟩|⟨hm,v,rfl,hown⟩
  ·exact⟨0,none,0,0,0,rfl,by unfold sX;rw[hm];rfl,by omega,by omega,λi hi=>by omega⟩
  ·obtain⟨a,cap,rfl⟩:=hown.form
   obtain⟨h1,h2,h3,h4,h5,h6,h7,h8,h9,h10,h11⟩:=(aX G S I J).1 hm;obtain⟨g,rfl⟩:∃g:Nat,G=(g:Int):=⟨G.toNat,by omega⟩;obtain⟨s,rfl⟩:∃s:Nat,S=(s:Int):=⟨S.toNat,by omega⟩;obtain⟨t,rfl⟩:∃t:Nat,I=4*(t:Int):=⟨(I/4).toNat,by omega⟩;obtain⟨j,rfl⟩:∃j:Nat,J=(j:Int):=⟨J.toNat,by omega⟩;have VF:g*s<=2048:=by have:=(Ce h1 h2 h3 h4).2;exact_mod_cast this
   have Jz:s<=g*s:=Nat.le_mul_of_pos_left s (by omega);simp only[Int.toNat_natCast,show(4*(t:Int)).toNat/4=t by omega] at hown ⊢;refine⟨2+j+g*s,a,cap,4+j+t,2+j+s,rfl,by unfold sX;rw[hm,if_pos rfl];omega,by omega,by omega,λi hi=> ?_⟩;have hrow:=hown.row (λi=>pL s t j i);rcases hrow with h0|⟨b,off,rfl,lF⟩
   ·omega
   obtain⟨kd,gr,a',n',he,F4⟩:=Mf s t j i (by omega) (by omega);exact⟨b,off,kd,gr,rfl,lF i hi 0 _ (by rw[he];rfl),lF i hi 1 _ (by rw[he];rfl),F4⟩
 obtain⟨n,a,cap,q,b,rfl,hN,kU,hn,hcells⟩:=hfull;have HN:=hid hN;have HC:=hid hcells;clear hlr hN hcells;go_wp2_with fail
 go_loop [4,5] (λc k=>∃i:Nat,i<=n/\k= .int .i64 i/\c= .int .i64 ((min i b-q:Nat):Int)) (λ_ k=>n-(intOf k).toNat)
 case atStart=>exact⟨0,by omega,rfl,by rw[show min 0 b-q=0 by omega];rfl⟩
 case round=>
  obtain⟨i,hi,rfl,rfl⟩:=hrel
  by_cases hlt:i<n
  ·obtain⟨g,off,kd,gr,rfl,hc0,hc1,F4⟩:=HC.out i hlt
   obtain⟨c,hc⟩:∃c,min i b-q=c:=⟨_,rfl⟩;have hcn:c<=10000:=by omega
   have HX:Hid (min (i+1) b-q=if kd=7/\gr=0 then c+1 else c):=by
    show _=_
    by_cases h:kd=7/\gr=0
    ·rw[if_pos h];have:=F4.1 h;omega
    ·rw[if_neg h]
     have:¬(q<=i/\i<b):=λh'=>h (F4.2 h')
     omega
   rw[hc];clear F4 hc
   by_cases hk:kd=7
   ·have k1:(kd==7)=true:=by simpa using hk
    by_cases hg:gr=0
    ·have g1:(gr==0)=true:=by simpa using hg
     have LQ:Hid (min (i+1) b-q=c+1):=by show _=_;rw[HX.out,if_pos ⟨hk,hg⟩]
     clear HX hk hg;go_wp2_with fail
     go_round
     case rel=>exact⟨i+1,by omega,by go_num,by rw[LQ.out];go_num⟩
     case measure=>simp[intOf];omega
    ·have g1:(gr==0)=false:=by simpa using hg
     have LQ:Hid (min (i+1) b-q=c):=by show _=_;rw[HX.out,if_neg (λh=>hg h.2)]
     clear HX hk hg;go_wp2_with fail
     go_round
     case rel=>exact⟨i+1,by omega,by go_num,by rw[LQ.out]⟩
     case measure=>simp[intOf];omega
   ·have k1:(kd==7)=false:=by simpa using hk
    have LQ:Hid (min (i+1) b-q=c):=by show _=_;rw[HX.out,if_neg (λh=>hk h.1)]
    clear HX hk;go_wp2_with fail
    go_round
    case rel=>exact⟨i+1,by omega,by go_num,by rw[LQ.out]⟩
    case measure=>simp[intOf];omega
  ·obtain rfl:i=n:=by omega
   have hE:min i b=b:=by omega
   rw[hE];go_wp2_with fail;go_ret;exact⟨by rw[HN.out];rfl,fR⟩
theorem kK{P:Program}{ty:TypeId}(h:fn.results= #[.cell p ty])(tmps:Array Value)(w:World)(g:Nat)(t:TypeId)(cs:Array Value)(fr:Nat×Nat)(d:TypeDesc)
  (hp:tmps.getD p undef= .pointer (some ⟨g,0,none⟩)) (hg:w.heap[g]? =some (.cells cs t fr))
  (hu:P.underlying ty=some d) (hd:(match d with| .struct _| .array _ _=>true|_=>false)=true) (hi:(P.info? ty).map (·.size)=some cs.size):
  (results fn tmps).run P w= .ok (.agg cs) w:=by
 have hp':tmps[p]?.getD undef= .pointer (some ⟨g,0,none⟩):=by simpa using hp
 simp[results,h,hp',asAddr,run_loadVar_row w g t ty cs fr d hg hu hd hi]
theorem iO(h:fn.results= #[.cell p 32])(tmps:Array Value)(w:World)(g:Nat)(z:Nat->Int)
  (hp:tmps.getD p undef= .pointer (some ⟨g,0,none⟩)) (hg:aQ w g 32 256 z):(results fn tmps).run Tryz.prog w= .ok (aL z) w:=
 kK h tmps w g 32 (Ks .u8 256 z).toArray (0,0) _ hp hg Tryz.underlying32 rfl (a9 _)
theorem bV{u:Tmp}(h:fn.results= #[.cell p 32,.tmp u])(tmps:Array Value)(w:World)(g:Nat)(z:Nat->Int)
  (hp:tmps.getD p undef= .pointer (some ⟨g,0,none⟩)) (hg:aQ w g 32 256 z):(results fn tmps).run Tryz.prog w= .ok (.tuple #[aL z,tmps.getD u undef]) w:=
 bH h tmps w g 32 (Ks .u8 256 z).toArray (0,0) _ hp hg Tryz.underlying32 rfl (a9 _)
theorem AT{y:Nat->Int}(h:∀i,i<256->z i=y i):aL z=aL y:=by unfold aL;rw[y7 h]
theorem Fa(s:Int)(w:World):Calls Tryz.prog 100 #[.int .u32 s] w λe w'=>e= .returned (.bool (seqB s))/\w=w':=by
 by_cases h1:1<=s
 ·by_cases h2:s<=2147483648
  ·have hd:Hid (seqB s=true):=by show _=_;simp[seqB,h1,h2]
   go_enter Tryz.func100,Tryz.ntmps100
   go_wp2
   go_ret;exact⟨aC hd.out.symm,rfl⟩
  ·have hd:Hid (seqB s=false):=by show _=_;simp[seqB,h1,h2]
   go_enter Tryz.func100,Tryz.ntmps100
   go_wp2
   go_ret;exact⟨aC hd.out.symm,rfl⟩
 ·have hd:Hid (seqB s=false):=by show _=_;simp[seqB,h1]
  go_enter Tryz.func100,Tryz.ntmps100
  go_wp2
  go_ret;exact⟨aC hd.out.symm,rfl⟩
theorem ts(W:World):(zeroValue 108).run Tryz.prog W= .ok (.agg (Ks .u8 256 (λ_=>0)).toArray) W:=by kernel_rfl
theorem Di:(Tryz.prog.info? 108).map (·.size)=some 256:=by kernel_rfl
theorem rC(z:Nat->Int):(Tryz.prog.info? 108).map (·.size)=some (Ks .u8 256 z).toArray.size:=by rw[bK];exact Di
abbrev Lx(g:Nat):Value:=.func (.func 42) #[.pointer (some ⟨g,0,none⟩)] #[]
theorem jQ(g:Nat)(z:Nat->Int)(hzb:bm z)(k:Nat)(K:Int)(hK:K=(k:Int))(hk:k+4<=256)(w:World)(hB:aQ w g T 256 z):
  Calls Tryz.prog 87 #[.pointer (some ⟨g,0,none⟩),.int .i64 K] w λe w'=>e= .returned (.int .u32 (b9 z k))/\w=w':=by
 subst hK;have hsa:=λW=>a7 g 0 W
 have hgt:=g7 g 0 256 256 (k:Int) z w (by omega) (by omega) (by omega) hB.bI hzb;rw[Int.toNat_natCast] at hgt;have HG:=hid hgt;clear hgt;go_enter Tryz.func87,Tryz.ntmps87;go_wp2_with fail;refine HG.out.mono ?_;rintro e w1 ⟨rfl,rfl⟩;go_wp2_with fail;go_ret;exact⟨rfl,rfl⟩
theorem iP(g:Nat)(z:Nat->Int)(hzb:bm z)(k:Nat)(K:Int)(hK:K=2*(k:Int))(hk:k<128)(w:World)(hB:aQ w g T 256 z):
  Calls Tryz.prog 42 #[.pointer (some ⟨g,0,none⟩),.int .i64 K] w λe w'=>e= .returned (.int .i64 (hd z k))/\w=w':=by
 have hsa:=λW=>a7 g 0 W
 have hgt:=ud g 0 256 256 K z w (by omega) (by omega) (by omega) hB.bI hzb;rw[show K.toNat=2*k by omega] at hgt;have hb:=oD hzb (2*k);have HG:=hid hgt;have HD:Hid (hd z k=g16 z (2*k)):=rfl;clear hgt hK;generalize g16 z (2*k)=x at*;go_enter Tryz.func42,Tryz.ntmps42;go_wp2_with fail;refine HG.out.mono ?_;rintro e w1 ⟨rfl,rfl⟩;go_wp2_with fail;go_ret;exact⟨by rw[HD.out];rfl,rfl⟩
theorem sW(g:Nat)(z:Nat->Int)(hzb:bm z)(w:World)(hB:aQ w g T 256 z)(hT:Tab w):
  Calls Tryz.prog 88 #[.pointer (some ⟨g,0,none⟩)] w λe w'=>e= .returned (.int .u32 (jZ z 252))/\Below w.heap.size w w':=by
 have hsa:=λW=>bU g 0 0 252 0 252 rfl rfl (by omega) (by omega) (by omega) W
 have HT:=hid hT;clear hT;go_enter Tryz.func88,Tryz.ntmps88;go_wp2_with fail;have hP:GQ (w.alloc (.cells #[.slice (some ⟨g,0,none⟩) 252 256] 119)) (some ⟨w.heap.size,0,none⟩) 1 (λ_=>252) (λ_=>z):=⟨λk hk=>by
  obtain rfl:k=0:=by omega
  exact⟨_,_,rfl,_,_,ay (heap_alloc_new w _) rfl,.inr ⟨g,0,rfl,((hB.alloc _).bI.take 252 (by omega))⟩,by omega⟩⟩
 refine(AK _ 1 1 _ _ _ (by omega) hP (λ_=>hzb) (HT.out.alloc _)).mono ?_;rintro e w1 ⟨rfl,rfl⟩;clear hP;go_wp2_with fail;go_ret;exact⟨rfl,(Below.refl _ _).alloc (Nat.le_refl _) _⟩
theorem At.grown{row:Option Nat}(h:At w g T cs)(hb:w.grownBy w' row)(hg:some g≠row):At w' g T cs:=(hb.block g h.lt hg).trans h
theorem kO(g:Nat)(z:Nat->Int)(hzb:bm z)(w:World)(hB:aQ w g T 256 z)(hT:Tab w):
  Calls Tryz.prog 39 #[.pointer (some ⟨g,0,none⟩)] w λe w'=>e= .returned (.bool (xr z))/\Below w.heap.size w w':=by
 have HN:Hid (xr z=(b9 z 252==jZ z 252)):=rfl;go_enter Tryz.func39,Tryz.ntmps39;go_wp2_with fail;refine(jQ g z hzb 252 252 rfl (by omega) w hB).mono ?_;rintro e w0 ⟨rfl,rfl⟩;go_wp2_with fail;refine(sW g z hzb w hB hT).mono ?_;rintro e w1 ⟨rfl,hb1⟩;go_wp2_with fail;go_ret;exact⟨by rw[HN.out];rfl,hb1⟩
theorem gG(g:Nat)(z:Nat->Int)(lo hi:Nat)(L H:Int)(hL:L=(lo:Int))(hH:H=(hi:Int))(h1:lo<=hi)(h2:hi<=256)(h3:lo<256)(w:World)(hB:aQ w g T 256 z):
  Calls Tryz.prog 40 #[.pointer (some ⟨g,0,none⟩),.int .i64 L,.int .i64 H] w λe w'=>e= .returned (.bool (de (λi=>z (lo+i)) (hi-lo)))/\w=w':=by
 have hsa:=λW=>bU g 0 lo hi L H hL hH h1 h2 h3 W
 have HZ:=hid (mV (some ⟨g,0+lo,none⟩) (hi-lo) (256-lo) (λi=>z (lo+i)) w (by omega) (.inr ⟨g,0+lo,rfl,hB.bI.sub lo (hi-lo) (by omega)⟩));clear hL hH hB;rw[Nat.zero_add] at hsa HZ;go_enter Tryz.func40,Tryz.ntmps40;go_wp2_with fail;refine HZ.out.mono ?_;rintro e w1 ⟨rfl,rfl⟩;go_wp2_with fail;go_ret;exact⟨rfl,rfl⟩
def WL(l:Nat->Int)(G S I J:Int):Nat->Int:=upd (upd (upd (upd l 4 G) 5 S) 6 I) 7 J
def ja(s t:Int):Bool:=seqB s&&decide (0<=t/\t<=255)
def kT(s t:Int):Nat->Int:=if ja s t then wz (jw 4 s t nz) elseλ_=>0
def Rq(b:Bool)(e:Int):Int:=if b then 0 else e
def bit(b:Bool):Int:=if b then 1 else 0
def iC(w:World)(b off n:Nat)(m:Nat->Int):Prop:=∀i,i<n->w.cell? ⟨b,off+i,none⟩=some (.int .u32 (m i))
def lj(w:World)(a:Option Addr)(n:Nat)(m:Nat->Int):Prop:=n=0\/∃b off,a=some ⟨b,off,none⟩/\iC w b off n m
theorem iC.below{n:Nat}(h:iC w b off n m){B:Nat}(hb:Below B w w')(hB:b<B):iC w' b off n m:=
 λi hi=>(hb.cell (p:=⟨b,off+i,none⟩) hB).trans (h i hi)
theorem iC.lt{n:Nat}(h:iC w b off n m)(hn:0<n):b<w.heap.size:=World.block_lt_of_cell? w _ (h 0 hn)
theorem iC.only{n:Nat}(h:iC w b off n m)(hb:an g w w')(hg:b≠g):iC w' b off n m:=
 λi hi=>(hb.cell (p:=⟨b,off+i,none⟩) hg).trans (h i hi)
theorem lj.below{n:Nat}(h:lj w a n m)(hb:Below w.heap.size w w'):lj w' a n m:=by
 rcases h with h|⟨b,off,rfl,h⟩
 ·exact .inl h
 ·by_cases h0:n=0
  ·exact .inl h0
  ·exact .inr ⟨b,off,rfl,h.below hb (h.lt (by omega))⟩
def py(m:Nat->Int)(k:Nat)(j:Nat):Int:=if j<k then m j else 0
theorem qY{W:World}{base:Nat}{e:TypeId}{size:Nat}{xs:List Value}(h:W.ownsRow base e size v (k+1) xs):∃g cap,v= .slice (some ⟨g,0,none⟩) (k+1) cap:=by
 rcases h.2 with⟨_,h0⟩|⟨g',cap',cur,hv,_⟩
 ·omega
 ·exact⟨g',cap',hv⟩
theorem lj.block{n:Nat}(h:lj w a n m)(hn:0<n):∀x,a=some x->x.block<w.heap.size:=by
 rcases h with h|⟨b,off,rfl,h⟩
 ·omega
 ·intro x hx;cases hx;exact h.lt hn
def Mi(c r:Int):Int:=
 if c<0\/r<0\/2048<c\/2048<r\/(c=0/\r=0) then 0 else c+(c+29)/30+(r+59)/60+1
structure Tr where
 s:Int
 n:Nat
 cb:Nat->Int
 cd:Nat->Nat->Int
 m:Nat
 rv:Nat->Int
structure Tr.Ok(t:Tr):Prop where
 s:0<=t.s/\t.s<4294967296
 cb:∀i,-9223372036854775808<=t.cb i/\t.cb i<=9223372036854775807
 cd:∀i,bm (t.cd i)
 rv:∀i,-9223372036854775808<=t.rv i/\t.rv i<=9223372036854775807
 n:(t.n:Int)<=9223372036854775807
 m:(t.m:Int)<=9223372036854775807
 cb0:∀i,t.n<=i->t.cb i=0
 X9:∀i,t.m<=i->t.rv i=0
def E5(b:Nat->Int):Nat->Bool
 |0=>true
 |i+1=>E5 b i&&(decide ((if i=0 then -1 else b (i-1))<b i)&&decide (b i<2048))
def UH(s:Int)(n:Nat)(cb:Nat->Int)(m:Nat)(rv:Nat->Int):Bool:=seqB s&&(decide (0<n+m)&&(E5 cb n&&E5 rv m))
def Tr.may(t:Tr):Bool:=UH t.s t.n t.cb t.m t.rv
def dN(n:Nat):Nat:=n+(n+29)/30
def rN(m:Nat):Nat:=(m+59)/60
def Tr.c(t:Tr):Nat:=dN t.n+rN t.m
def Tr.size(t:Tr):Int:=Mi t.n t.m
def dW(B:Nat->Nat->Int)(i:Nat):List Value:=Ks .u8 256 (B i)
def inF(b:Nat->Int)(i:Nat):List Value:=[.int .i64 (b i)]
theorem aZ(B:Nat->Nat->Int)(i:Nat):(dW B i).length=256:=by simp[dW,Ks]
theorem B6(k:IntKind)(n:Nat)(z:Nat->Int):∀v∈Ks k n z,v.oneCell'=true:=by
 intro v hv;unfold Ks at hv;obtain⟨i,_,rfl⟩:=List.mem_map.1 hv
 rfl
theorem Kc(B:Nat->Nat->Int)(i:Nat):∀v∈dW B i,v.oneCell'=true:=B6 _ _ _
theorem Ac{W:World}:∀(j:Nat) (u:Value),(Ks .u8 256 z)[j]? =some u->(W.alloc (.cells (Ks .u8 256 z).toArray 32)).cell? ((⟨W.heap.size,0,none⟩:Addr).add j)=some u:=λj u hj=>by
 rw[bh,Nat.zero_add];exact ay (heap_alloc_new W _) (by simpa using hj)
def tD(B:Nat->Nat->Int)(N:Nat)(z:Nat->Int)(i:Nat):Nat->Int:=if i<N then B i else z
theorem zS(z:Nat->Int)(W:World):(Instr.buildSlice 29 1 #[(0,aL z)]).run Tryz.prog W= .ok (.slice (some ⟨W.heap.size,0,none⟩) 1 1) (W.alloc (.cells (Ks .u8 256 z).toArray 32)):=by kernel_rfl
theorem tU:(Tryz.prog.info? 32).map (λi=>(i.zero,i.size,i.bytes))=some (some (aL λ_=>0),256,256):=by kernel_rfl
theorem cY.only{W:World}{m n p:Nat}(h:cY W a m n f)(ho:an p W W')(hne:∀b off,a=some ⟨b,off,none⟩->b≠p):cY W' a m n f:=by
 rcases h with h|⟨b,off,rfl,h⟩
 ·exact .inl h
 ·exact .inr ⟨b,off,rfl,λi hi j v hj=>(ho.cell (p:=⟨b,off+i*m+j,none⟩) (hne b off rfl)).trans (h i hi j v hj)⟩
theorem Ck:bm (λ_=>0):=λ_=>⟨Int.le_refl 0,(by decide:(0:Int)<256)⟩
section
open Go.Shelf
attribute [local go_sem] Oper.semAt_some
section
variable {w:World} {t:Tr} {ca:Option Addr} {cc:Nat} {ra:Option Addr} {rc q p5 p6 cnt cap:Nat} {W W':World}
end
theorem At.fF{W W1:World}{q:Nat}(h:At W g T cs)(hg:W.grownBy W1 (some q))(hne:g≠q):At W1 g T cs:=(hg.block _ h.lt (by intro e;injection e with e;exact hne e)).trans h
end
end Go.Proofs.YtphamecphmbipaaGreatDoor
