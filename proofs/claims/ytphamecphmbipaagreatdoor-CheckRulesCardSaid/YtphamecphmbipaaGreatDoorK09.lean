/- Texts of this claim, merged. -/
import Derived.Test.YtphamecphmbipaaGreatDoorK08
import Derived.Laws.CopyRow
import Derived.Deep.RegionLaw
set_option linter.unusedVariables false
namespace Go.Proofs.YtphamecphmbipaaGreatDoor
open Go.RowKit
open Lib (hid)
variable {j g:Nat} {o:Oper} {Q:Exit->Act->World->Prop} {w:World}
def mf(md:Region.Mode)(n:Nat)(ops:Array Oper):Bool:=
 (List.range ops.size).all λj=>match ops[j]? with
  |none=>true
  |some o=>if j<n then(match o.guard with|none=>true|some (g,_)=>decide (g<n)) else(List.range j).all λi=>Mv.kL md ops ops.size j i
section
variable {P:Program} {md:Region.Mode} {ops:Array Oper}
theorem mL{n:Nat}(h:mf md n ops=true)(hj:ops[j]? =some o)(hn:n<=j){i:Nat}(hi:i<j):Mv.kL md ops ops.size j i=true:=by
 unfold mf at h;rw[List.all_eq_true] at h;have h1:=h j (List.mem_range.2 (Array.getElem?_eq_some_iff.1 hj).1);simp only[hj,if_neg (show¬j<n by omega),List.all_eq_true] at h1;exact h1 i (List.mem_range.2 hi)
theorem ph{n:Nat}(h:mf md n ops=true)(hj:ops[j]? =some o)(hn:j<n){b:Bool}(hg:o.guard=some (g,b)):g<n:=by
 unfold mf at h;rw[List.all_eq_true] at h;have h1:=h j (List.mem_range.2 (Array.getElem?_eq_some_iff.1 hj).1);simp only[hj,if_pos hn,hg,decide_eq_true_eq] at h1;exact h1
theorem oK{n:Nat}(hb:mf md n ops=true)(hd:eX md ops=true):∀(l:List Oper) (k x:Nat) (listed:Array Bool) (a:Act) (w:World),n<=k->(∀j,l[j]? =ops[k+j]?)->listed.size=ops.size->
  (∀i,i<k->listed.getD i false=true)->(∀i,k<=i->i<ops.size->listed.getD i true=false)->wpList P ops Q l a w->wpAny P md ops Q (l.length+x) listed a w
 |[],k,x,listed,a,w,hk,hl,hs,h1,h0,h=>by
  have hsz:ops.size<=k:=by have:=(hl 0).symm;simp at this;omega
  have hr:Region.ready md ops listed=[]:=by
   cases hr:Region.ready md ops listed with
   |nil=>rfl
   |cons i r=>
    have hi:i∈Region.ready md ops listed:=by rw[hr];simp
    obtain⟨hu,o,ho,_⟩:=mem_ready.1 hi;have hlt:=(Array.getElem?_eq_some_iff.1 ho).1;have:=h1 i (by omega);rw[Array.getD_eq_getD_getElem?,Array.getElem?_eq_getElem (by omega)] at hu this;simp at hu this;rw[this] at hu;cases hu
  cases x with
  |zero=>exact⟨hr,h⟩
  |succ x=>
   rw[show([]:List Oper).length+(x+1)=x+1 by simp];exact⟨λ_=>h,λi hi=>by rw[hr] at hi;cases hi⟩
 |o::l,k,x,listed,a,w,hk,hl,hs,h1,h0,h=>by
  have ho:ops[k]? =some o:=by simpa using(hl 0).symm
  have hlt:=(Array.getElem?_eq_some_iff.1 ho).1;have hin:k∈Region.ready md ops listed:=mem_ready.2 ⟨h0 k (Nat.le_refl _) hlt,o,ho,λe he o4=>h1 _ (cw hd ho he o4)⟩;rw[show(o::l).length+x=(l.length+x)+1 by simp;omega];refine⟨λhr=>(by rw[hr] at hin;cases hin),λi hi=> ?_⟩;obtain⟨hu,oi,hoi,hall⟩:=mem_ready.1 hi;have ac7:=(Array.getElem?_eq_some_iff.1 hoi).1;have hik:i=k:=by
   rcases Nat.lt_trichotomy i k with hh|hh|hh
   ·have:=h1 i hh
    rw[Array.getD_eq_getD_getElem?,Array.getElem?_eq_getElem (by omega)] at hu this;simp at hu this;rw[this] at hu;cases hu
   ·exact hh
   ·have hcl:Mv.Cl md ops listed:=λj oj hj Ec e he o4=>by
     have hjk:j<k:=by
      rcases Nat.lt_or_ge j k with h'|h'
      ·exact h'
      ·have h2:=h0 j h' (Array.getElem?_eq_some_iff.1 hj).1
       rw[Array.getD_eq_getD_getElem?,Array.getElem?_eq_getElem (by have:=(Array.getElem?_eq_some_iff.1 hj).1;omega)] at h2 Ec;simp at h2 Ec;rw[h2] at Ec;cases Ec
     have:=cw hd hj he o4;exact h1 _ (by omega)
    have hx:=hcl.reach hall hoi (mL hb hoi (by omega) hh);have h2:=h0 k (Nat.le_refl _) hlt;rw[Array.getD_eq_getD_getElem?,Array.getElem?_eq_getElem (by omega)] at hx h2;simp at hx h2;rw[hx] at h2;cases h2
  subst hik;have key:wpOp P ops Q i (wpList P ops Q l) a w:=by
   unfold wpOp;simp only[ho];exact h
  refine wpOp_mono (λa' w' h'=>oK hb hd l (i+1) x _ a' w' (by omega) (λj=>by have:=hl (j+1);simpa[Nat.add_assoc,Nat.add_comm 1 j] using this) (by simpa using hs) (λj hj=> ?_) (λj hj hjs=> ?_) h') key
  ·by_cases rH:j=i
   ·subst rH;simp[Array.getD_eq_getD_getElem?,hs,hlt]
   ·rw[Array.getD_eq_getD_getElem?,Array.getElem?_setIfInBounds_ne (Ne.symm rH),<-Array.getD_eq_getD_getElem?];exact h1 j (by omega)
  ·rw[Array.getD_eq_getD_getElem?,Array.getElem?_setIfInBounds_ne (by omega),<-Array.getD_eq_getD_getElem?];exact h0 j (by omega) hjs
theorem DS{n:Nat}{ops1:Array Oper}{l2:List Oper}{C:World->Prop}(hb:mf md n ops=true)(hd:eX md ops=true)(hd1:eX md ops1=true)(tW:ops1.size=n)(h1:∀i,i<n->ops1[i]? =ops[i]?)(hl:∀j,l2[j]? =ops[n+j]?)
  {Q:Exit->Act->World->Prop} {Q1:Act->Prop} (hQ:∀a w,C w->Q1 a->wpList P ops Q l2 a w):∀(fuel:Nat) (aU listed:Array Bool) (a:Act) (w:World),C w->Mv.Cl md ops listed->aU.size=n->listed.size=ops.size->
   (∀i,i<n->aU[i]? =listed[i]?)->(∀i,n<=i->i<ops.size->listed.getD i true=false)->wpAnyQ P md ops1 C Q1 fuel aU a->wpAny P md ops Q (l2.length+fuel) listed a w:=by
 have hnn:n<=ops.size:=by
  rcases Nat.lt_or_ge ops.size n with h|h
  ·have:=h1 ops.size h
   rw[Array.getElem?_eq_none (Nat.le_refl _),Array.getElem?_eq_none_iff] at this;omega
  ·exact h
 have done:∀(fuel:Nat) (aU listed:Array Bool) (a:Act) (w:World),C w->aU.size=n->listed.size=ops.size->(∀i,i<n->aU[i]? =listed[i]?)->(∀i,n<=i->i<ops.size->listed.getD i true=false)->
   Region.ready md ops1 aU=[]->Q1 a->wpAny P md ops Q (l2.length+fuel) listed a w:=λfuel aU listed a w hw hs1 hs hll h0 hr hq=>by
  refine oK hb hd l2 n fuel listed a w (Nat.le_refl _) hl hs (λi hi=> ?_) h0 (hQ a w hw hq);have:=om hd1 (by omega) hr i (by omega);rw[Array.getD_eq_getD_getElem?,hll i hi,<-Array.getD_eq_getD_getElem?] at this;exact this
 intro fuel
 induction fuel with
 |zero=>intro aU listed a w hw hcl hs1 hs hll h0 h;exact done 0 aU listed a w hw hs1 hs hll h0 h.1 h.2
 |succ fuel ih=>
  intro aU listed a w hw hcl hs1 hs hll h0 h
  by_cases hr:Region.ready md ops1 aU=[]
  ·exact done _ aU listed a w hw hs1 hs hll h0 hr (h.1 hr)
  ·obtain⟨i0,hi0⟩:=List.exists_mem_of_ne_nil _ hr
   obtain⟨hu0,o0,ho0,Gd⟩:=mem_ready.1 hi0;have AA:i0<n:=by rw[<-tW];exact(Array.getElem?_eq_some_iff.1 ho0).1
   have get:∀i,i<n->∀d,aU.getD i d=listed.getD i d:=λi hi d=>by rw[Array.getD_eq_getD_getElem?,Array.getD_eq_getD_getElem?,hll i hi]
   have up:i0∈Region.ready md ops listed:=mem_ready.2 ⟨by rw[<-get i0 AA];exact hu0,o0,by rw[<-h1 i0 AA];exact ho0,λe he o4=>by
    have hlt:=cw hd1 ho0 he o4;rw[<-get e.on (by omega)];exact Gd e he o4⟩
   rw[show l2.length+(fuel+1)=(l2.length+fuel)+1 by omega];refine⟨λM8=>(by rw[M8] at up;cases up),λi hi=> ?_⟩;obtain⟨hu,o,ho,hall⟩:=mem_ready.1 hi;have hin:i<n:=by
    rcases Nat.lt_or_ge i n with hh|hh
    ·exact hh
    ·have hx:=hcl.reach hall ho (mL hb ho hh (i:=i0) (by omega))
     rw[<-get i0 AA] at hx;rw[Array.getD_eq_getD_getElem?,Array.getElem?_eq_getElem (by omega)] at hx hu0;simp at hx hu0;rw[hx] at hu0;cases hu0
   have vQ:ops1[i]? =some o:=by rw[h1 i hin];exact ho
   have hi1:i∈Region.ready md ops1 aU:=mem_ready.2 ⟨by rw[get i hin];exact hu,o,vQ,λe he o4=>by
    have hlt:=cw hd1 vQ he o4;rw[get e.on (by omega)];exact hall e he o4⟩
   have hq:=h.2 i hi1;have hwant:∀a:Act,Region.wanted o (yielded ops1 a.tmps)=Region.wanted o (yielded ops a.tmps):=λa=>by
    unfold Region.wanted;cases hg:o.guard with
    |none=>rfl
    |some p=>
     obtain⟨g,b⟩:=p;have:=ph hb ho hin hg;simp only[yielded,h1 g this]
   have hq':qOp P ops C i (wpAnyQ P md ops1 C Q1 fuel (aU.setIfInBounds i true)) a:=by
    unfold qOp at hq ⊢;simp only[vQ] at hq;simp only[ho];rw[<-hwant];exact hq
   refine wpOp_of_qOp hw (λa' w' hw' h'=>ih (aU.setIfInBounds i true) (listed.setIfInBounds i true) a' w' hw' (hcl.next hi) (by simpa using hs1) (by simpa using hs) (λj hj=> ?_) (λj hj hjs=> ?_) h') hq'
   ·by_cases rH:i=j
    ·subst rH;simp[hs1,hs,hj,show i<ops.size by omega]
    ·rw[Array.getElem?_setIfInBounds_ne rH,Array.getElem?_setIfInBounds_ne rH];exact hll j hj
   ·rw[Array.getD_eq_getD_getElem?,Array.getElem?_setIfInBounds_ne (by omega),<-Array.getD_eq_getD_getElem?];exact h0 j hj hjs
theorem aA(S:World->Prop)(n:Nat){id:Nat}{a:Act}{L:List Oper}(hm:P.follows .mixedOrders=true)(hB:Region.lexB .any (L.take n).toArray=true)
  (hb:mf .any n L.toArray=true) (hd:eX .any L.toArray=true) (hd1:eX .any (L.take n).toArray=true) (hn:n<=L.length) (hS:S {w with drawn:=w.drawn+1})
  (h:Nonempty (aT S)->wpQuiet P (L.take n).toArray (λw'=>∃s:aT S,w'=s.W) (λa'=>∀w',RX S w'->wpList P L.toArray Q (L.drop n) a' w') (L.take n) a):(Code.region id L.toArray true).wp P Q a w:=by
 have hC:∃s:aT S,{w with drawn:=w.drawn+1}=s.W:=⟨⟨_,hS⟩,rfl⟩;simp only[Region.lexB,Bool.and_eq_true] at hB;have hq:=wpAnyQ_lex (C:=λw'=>∃s:aT S,w'=s.W) (md:=.any) hB.1 (L.take n) 0 (Array.replicate n false) a (by simp) (by have:=hB.2;simpa[Nat.min_eq_left hn] using this) (h ⟨⟨_,hS⟩⟩);have hlen:(L.take n).length=n:=by simp[Nat.min_eq_left hn]
 rw[hlen] at hq;have:=DS (P:=P) (md:=.any) (ops:=L.toArray) (ops1:=(L.take n).toArray) (l2:=L.drop n) (n:=n) (C:=λw'=>∃s:aT S,w'=s.W) hb hd hd1 (by simp[Nat.min_eq_left hn]) (λi hi=>by simp[hi]) (λj=>by simp)
  (Q:=Q) (Q1:=λa'=>∀w',RX S w'->wpList P L.toArray Q (L.drop n) a' w') (λa w hw h=>h w hw) n (Array.replicate n false) (Array.replicate L.length false) a {w with drawn:=w.drawn+1} hC (λj oj hj hl e he o4=>by
   rcases Nat.lt_or_ge j L.length with h'|h'
   ·simp[h'] at hl
   ·simp[h'] at hl) (by simp) (by simp)
  (λi hi=>by simp[hi,show i<L.length by omega]) (λi hi hs=>by simp at hs;simp[hs]) hq
 rw[show(L.drop n).length+n=L.length by simp;omega] at this;refine wp_region_any hm ?_;simpa using this
end
def rV(B C:Nat->Nat->Int):Nat->Bool
 |0=>true
 |k+1=>rV B C k&&me (B k) (C k) 256
theorem uj(B C:Nat->Nat->Int)(k:Nat):rV B C (k+1)=(rV B C k&&me (B k) (C k) 256):=rfl
theorem yJ(B C:Nat->Nat->Int)(n:Nat):rV B C n=true↔∀i,i<n->∀j,j<256->B i j=C i j:=by
 induction n with
 |zero=>simp[rV]
 |succ n ih=>
  rw[uj,Bool.and_eq_true,ih,iT];constructor
  ·rintro⟨h,g⟩ i hi
   by_cases e:i=n
   ·rw[e];exact g
   ·exact h i (by omega)
  ·intro h;exact⟨λi hi=>h i (by omega),h n (by omega)⟩
theorem JY{B C:Nat->Nat->Int}{n k:Nat}(hk:k<n)(h:me (B k) (C k) 256=false):rV B C n=false:=by
 cases e:rV B C n with
 |false=>rfl
 |true=>
  have:=(iT (B k) (C k) 256).2 ((yJ B C n).1 e k hk);rw[h] at this;cases this
def qI(B C:Nat->Nat->Int)(n m:Nat):Bool:=(n==m)&&rV B C n
set_option maxRecDepth 100000 in
set_option maxHeartbeats 4000000 in
theorem qH(a c:Option Addr)(n m cap cap':Nat)(B C:Nat->Nat->Int)(hn:(n:Int)<=9223372036854775807)(hm:(m:Int)<=9223372036854775807)(w:World)(ha:cY w a 256 n (dW B))(hc:cY w c 256 m (dW C)):
  Calls Tryz.prog 35 #[.slice a n cap,.slice c m cap'] w λe w'=>e= .returned (.bool (qI B C n m))/\∃d,w'=w.drewN d:=by
 by_cases wO:n=m
 rotate_left
 ·have hq:((n:Int)==(m:Int))=false:=by rw[beq_eq_false_iff_ne];omega
  have hq':((n:Int) !=(m:Int))=true:=by rw[bne,hq];rfl
  have HO:Hid (qI B C n m=false):=by show _=_;unfold qI;rw[show(n==m)=false by rw[beq_eq_false_iff_ne];exact wO];rfl
  clear wO ha hc;go_enter Tryz.func35,Tryz.ntmps35;go_wp2_with fail;go_ret;exact⟨by rw[HO.out];rfl,0,rfl⟩
 subst wO;have HA:=hid ha;have HC:=hid hc;have HS:Hid (∀b,rV B C n=b->qI B C n n=b):=λb hb=>by unfold qI;rw[hb,beq_self_eq_true];rfl
 clear ha hc;go_enter Tryz.func35,Tryz.ntmps35;go_wp2_with fail;go_loopw [5] (λu wr=>∃k:Nat,k<=n/\u= .int .i64 (k:Int)/\Hid (rV B C k=true)/\∃d,wr=w.drewN d) (λu _=>n-(intOf u).toNat)
 case atStart=>exact⟨0,by omega,rfl,rfl,0,rfl⟩
 case round=>
  obtain⟨k,hk,rfl,HK,d,hd⟩:=hrel;have hS:(∃d,wr=w.drewN d):=⟨d,hd⟩;clear hd
  by_cases hlt:k<n
  ·have hlt':(k:Int)<(n:Int):=by omega
   have k0:(0:Int)<=(k:Int):=by omega
   obtain⟨b,off,rfl,h1⟩:∃b off,a=some ⟨b,off,none⟩/\aF w b off 256 n (dW B):=by
    rcases HA.out with h|h
    ·omega
    ·exact h
   obtain⟨b2,Uv,rfl,h2⟩:∃b off,c=some ⟨b,off,none⟩/\aF w b off 256 n (dW C):=by
    rcases HC.out with h|h
    ·omega
    ·exact h
   have r1:=h1.range k hlt;have r2:=h2.range k hlt;clear h1 h2;go_wp2_with fail;refine ai (λW=>∃d,W=w.drewN d) (by kernel_rfl) (by kernel_rfl) (by obtain⟨d,rfl⟩:=hS;exact⟨d+1,rfl⟩) ?_;clear hS;intro hne;iterate 3 go_big_quiet_step (fail)
   refine aH rfl 32 (.tmp 19) rfl b (off+k*256) rfl (dW B k) _ (λW h=>by obtain⟨d,rfl⟩:=h;exact r1) Tryz.underlying32 rfl (by rw[aZ];exact au) ?_;refine ae ?_;iterate 3 go_big_quiet_step (fail)
   refine aH rfl 32 (.tmp 23) rfl b2 (Uv+k*256) rfl (dW C k) _ (λW h=>by obtain⟨d,rfl⟩:=h;exact r2) Tryz.underlying32 rfl (by rw[aZ];exact au) ?_;refine ae ?_;refine PS rfl (.bool (!me (B k) (C k) 256)) (λW=>by
    refine Eq.trans (b:=((do pure (.value (<-binOp .neq 32 (aL (B k)) (aL (C k))))):Sem Next).run Tryz.prog W) (by kernel_rfl) ?_;rw[Sem.run_bind,sT];rfl) ?_
   refine ae ?_;refine wpQuiet_nil ?_;intro w9 h9;have Hl:=h9.out;clear h9 hne r1 r2;cases he:me (B k) (C k) 256 with
   |false=>
    have HO:=hid (HS.out false (JY hlt he));clear he;go_wp2_with fail;go_ret;exact⟨by rw[HO.out];rfl,Hl⟩
   |true=>
    have LW:Hid (rV B C (k+1)=true):=by show _=_;rw[uj,HK.out,he];rfl
    have Ov:=hid Hl;clear he Hl;go_wp2_with fail;go_roundw
    case rel=>first|exact⟨k+1,by omega,by go_num,LW,Ov.out⟩|exact⟨k+1,by omega,rfl,LW,Ov.out⟩
    case measure=>simp[intOf];omega
  ·obtain rfl:k=n:=by omega
   have HO:=hid (HS.out true HK.out);have Se:=hid hS;clear hS;go_wp2_with fail;go_ret;exact⟨by rw[HO.out];rfl,Se.out⟩
def tr0(s:Int):Tr:=⟨s,0,λ_=>0,λ_ _=>0,0,λ_=>0⟩
section
variable {w:World} {la:Option Addr} {N:Nat} {L:Nat->Nat->Int} {n m:Nat} {s:Int} {cb:Nat->Int} {cd:Nat->Nat->Int} {rv:Nat->Int} {ca:Option Addr} {cc:Nat} {ra:Option Addr} {rc:Nat} {W W':World}
end
theorem dq{W W1:World}{T:TypeId}{cs:Array Value}{row:Option Nat}(h:At W g T cs)(hg:W.grownBy W1 row)(hne:row≠some g):At W1 g T cs:=(hg.block _ h.lt (λe=>hne e.symm)).trans h
theorem Dk:(Tryz.prog.info? 3).map (λi=>(i.zero,i.size,i.bytes))=some (some (.int .i64 0),1,8):=by kernel_rfl
theorem oz:∃i,Tryz.prog.info? 3=some i/\i.zero=some (.int .i64 0)/\i.size=1/\i.bytes=8:=by
 obtain⟨i,hi,hz⟩:=Option.map_eq_some_iff.1 Dk;simp only[Prod.mk.injEq] at hz;exact⟨i,hi,hz.1,hz.2.1,hz.2.2⟩
structure Pf(t:Tr)(s:Int)(K:Nat):Prop where
 s:t.s=s
 cb:∀i,0<=t.cb i/\t.cb i<4294967296
 cd:∀i,bm (t.cd i)
 rv:∀i,0<=t.rv i/\t.rv i<4294967296
 n:t.n<=K
 m:t.m<=60*K
 cb0:∀i,t.n<=i->t.cb i=0
 X9:∀i,t.m<=i->t.rv i=0
theorem Pf.ok{t:Tr}{s:Int}{n:Nat}(h:Pf t s n)(hs:0<=s/\s<4294967296)(hn:n<=255):t.Ok:=
 ⟨by rw[h.s];exact hs,λi=>by have:=h.cb i;omega,h.cd,λi=>by have:=h.rv i;omega,by have:=h.n;omega,by have:=h.m;omega,h.cb0,h.X9⟩
theorem Pf.zero(s:Int):Pf (tr0 s) s 0:=⟨rfl,λi=>⟨Int.le_refl 0,(by decide:(0:Int)<4294967296)⟩,λi=>Ck,λi=>⟨Int.le_refl 0,(by decide:(0:Int)<4294967296)⟩,Nat.le_refl _,Nat.le_refl _,λi _=>rfl,λi _=>rfl⟩
theorem cY.take{a:Option Addr}{m n:Nat}{f:Nat->List Value}(h:cY w a m n f)(k:Nat)(hk:k<=n):cY w a m k f:=by
 rcases h with h|⟨b,off,rfl,h⟩
 ·exact .inl (by omega)
 ·exact .inr ⟨b,off,rfl,λi hi=>h i (by omega)⟩
section
variable {t:Tr} {L:Nat->Nat->Int} {N:Nat}
end
section
variable {L:Nat->Nat->Int} {N:Nat}
end
end Go.Proofs.YtphamecphmbipaaGreatDoor
