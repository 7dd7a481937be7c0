/- Texts of this claim, merged. -/
import Derived.Test.YtphamecphmbipaaGreatDoorZ08
import Derived.OrdersIn
import Derived.Laws.CopyRow
import Derived.Deep.RegionLaw
set_option linter.unusedVariables false
set_option maxRecDepth 100000
set_option maxHeartbeats 16000000

namespace Go.Proofs.YtphamecphmbipaaGreatDoor
open Go.RowKit
variable {g i:Nat} {T:TypeId} {w:World} {a:Act} {f:Int} {o:Oper} {Q':Exit->Act->World->Prop} {mg:Bool} {z z':Nat->Int}
def sr(B C:Nat->Nat->Int):Nat->Bool
 |0=>true
 |k+1=>sr B C k&&mr (B k) (C k) 256
theorem uE(B C:Nat->Nat->Int)(k:Nat):sr B C (k+1)=(sr B C k&&mr (B k) (C k) 256):=rfl
theorem y7(B C:Nat->Nat->Int)(n:Nat):sr B C n=true↔∀i,i<n->∀j,j<256->B i j=C i j:=by
 induction n with
 |zero=>simp[sr]
 |succ n ih=>
  rw[uE,Bool.and_eq_true,ih,jg];constructor
  ·rintro⟨h,g⟩ i hi
   by_cases e:i=n
   ·rw[e];exact g
   exact h i (by omega)
  intro h;exact⟨λi hi=>h i (by omega),h n (by omega)⟩
theorem Ko{B C:Nat->Nat->Int}{n k:Nat}(hk:k<n)(h:mr (B k) (C k) 256=false):sr B C n=false:=by
 cases e:sr B C n with
 |false=>rfl
 |true=>
  have:=(jg (B k) (C k) 256).2 ((y7 B C n).1 e k hk);rw[h] at this;cases this
def qY(B C:Nat->Nat->Int)(n m:Nat):Bool:=(n==m)&&sr B C n
theorem qX(a c:Option Addr)(n m cap cap':Nat)(B C:Nat->Nat->Int)(hn:(n:Int)<=9223372036854775807)(hm:(m:Int)<=9223372036854775807)(w:World)(ha:cU w a 256 n (dR B))(hc:cU w c 256 m (dR C)):
  Calls Tryz.prog 35 #[.slice a n cap,.slice c m cap'] w λe w'=>e= .returned (.bool (qY B C n m))/\∃d,w'=w.drewN d:=by
 by_cases xj:n=m
 rotate_left
 ·have hq:((n:Int)==(m:Int))=false:=by rw[beq_eq_false_iff_ne];omega
  have hq':((n:Int) !=(m:Int))=true:=by rw[bne,hq];rfl
  have HO:Hd (qY B C n m=false):=by show _=_;unfold qY;rw[show(n==m)=false by rw[beq_eq_false_iff_ne];exact xj];rfl
  clear xj ha hc;go_enter Tryz.func35,Tryz.ntmps35;go_wp2_with fail;go_ret;exact⟨by rw[HO.Z];rfl,0,rfl⟩
 subst xj;have HA:=ah ha;have HC:=ah hc;have HS:Hd (∀b,sr B C n=b->qY B C n n=b):=λb hb=>by unfold qY;rw[hb,beq_self_eq_true];rfl
 clear ha hc;go_enter Tryz.func35,Tryz.ntmps35;go_wp2_with fail;go_loopw [5] (λu wr=>∃k:Nat,k<=n/\u= .int .i64 (k:Int)/\Hd (sr B C k=true)/\∃d,wr=w.drewN d) (λu _=>n-(intOf u).toNat)
 case atStart=>exact⟨0,by omega,rfl,rfl,0,rfl⟩
 obtain⟨k,hk,rfl,HK,d,hd⟩:=hrel;have hS:(∃d,wr=w.drewN d):=⟨d,hd⟩;clear hd
 by_cases hlt:k<n
 ·have hlt':(k:Int)<(n:Int):=by omega
  have k0:(0:Int)<=(k:Int):=by omega
  obtain⟨b,off,rfl,h1⟩:∃b off,a=some ⟨b,off,none⟩/\aM w b off 256 n (dR B):=by
   rcases HA.Z with h|h
   ·omega
   exact h
  obtain⟨b2,UX,rfl,h2⟩:∃b off,c=some ⟨b,off,none⟩/\aM w b off 256 n (dR C):=by
   rcases HC.Z with h|h
   ·omega
   exact h
  have r1:=h1.range k hlt;have r2:=h2.range k hlt;clear h1 h2;go_wp2_with fail;refine ar (λW=>∃d,W=w.drewN d) (by obtain⟨d,rfl⟩:=hS;exact⟨d+1,rfl⟩) ?_;clear hS;intro hne;iterate 3 go_big_quiet_step (fail)
  refine aO rfl 32 (.tmp 19) rfl b (off+k*256) rfl (dR B k) _ (λW h=>by obtain⟨d,rfl⟩:=h;exact r1) Tryz.underlying32 rfl (by rw[aZ];exact aA) ?_;refine aj ?_;iterate 3 go_big_quiet_step (fail)
  refine aO rfl 32 (.tmp 23) rfl b2 (UX+k*256) rfl (dR C k) _ (λW h=>by obtain⟨d,rfl⟩:=h;exact r2) Tryz.underlying32 rfl (by rw[aZ];exact aA) ?_;refine aj ?_;refine Qk rfl (.bool (!mr (B k) (C k) 256)) (λW=>by
   refine Eq.trans (b:=((do pure (.value (<-binOp .neq 32 (aR (B k)) (aR (C k))))):Sem Next).run Tryz.prog W) (by kernel_rfl) ?_;rw[Sem.run_bind,te];rfl) ?_
  refine aj ?_;refine wpQuiet_nil ?_;intro w9 h9;have Il:=h9.Z;clear h9 hne r1 r2;cases he:mr (B k) (C k) 256 with
  |false=>
   have HO:=ah (HS.Z false (Ko hlt he));clear he;go_wp2_with fail;go_ret;exact⟨by rw[HO.Z];rfl,Il⟩
  |true=>
   have Mp:Hd (sr B C (k+1)=true):=by show _=_;rw[uE,HK.Z,he];rfl
   have O0:=ah Il;clear he Il;go_wp2_with fail;go_roundw
   case rel=>first|exact⟨k+1,by omega,by go_num,Mp,O0.Z⟩|exact⟨k+1,by omega,rfl,Mp,O0.Z⟩
   simp[intOf];omega
 obtain rfl:k=n:=by omega
 have HO:=ah (HS.Z true HK.Z);have SG:=ah hS;clear hS;go_wp2_with fail;go_ret;exact⟨by rw[HO.Z];rfl,SG.Z⟩
def tr0(s:Int):Tr:=⟨s,0,λ_=>0,λ_ _=>0,0,λ_=>0⟩
section
variable {w:World} {la:Option Addr} {N:Nat} {L:Nat->Nat->Int} {n m:Nat} {s:Int} {cb:Nat->Int} {cd:Nat->Nat->Int} {rv:Nat->Int} {ca:Option Addr} {cc:Nat} {ra:Option Addr} {rc:Nat} {W W':World}
end
theorem dE{W W1:World}{cs:Array Value}{row:Option Nat}(h:At W g T cs)(hg:W.grownBy W1 row)(hne:row≠some g):At W1 g T cs:=(hg.block _ h.lt (λe=>hne e.symm)).trans h
theorem Dz:(Tryz.prog.info? 3).map (λi=>(i.zero,i.size,i.bytes))=some (some (.int .i64 0),1,8):=by kernel_rfl
theorem oO:∃i,Tryz.prog.info? 3=some i/\i.zero=some (.int .i64 0)/\i.size=1/\i.bytes=8:=by
 obtain⟨i,hi,hz⟩:=Option.map_eq_some_iff.1 Dz;simp only[Prod.mk.injEq] at hz;exact⟨i,hi,hz.1,hz.2.1,hz.2.2⟩
structure PL(t:Tr)(s:Int)(K:Nat):Prop where
 s:t.s=s
 cb:∀i,0<=t.cb i/\t.cb i<4294967296
 cd:∀i,bu (t.cd i)
 rv:∀i,0<=t.rv i/\t.rv i<4294967296
 n:t.n<=K
 m:t.m<=60*K
 cb0:∀i,t.n<=i->t.cb i=0
 YF:∀i,t.m<=i->t.rv i=0
theorem PL.ok{t:Tr}{s:Int}{n:Nat}(h:PL t s n)(hs:0<=s/\s<4294967296)(hn:n<=255):t.Ok:=
 ⟨by rw[h.s];exact hs,λi=>by have:=h.cb i;omega,h.cd,λi=>by have:=h.rv i;omega,by have:=h.n;omega,by have:=h.m;omega,h.cb0,h.YF⟩
theorem PL.zero(s:Int):PL (tr0 s) s 0:=⟨rfl,λi=>⟨Int.le_refl 0,(by decide:(0:Int)<4294967296)⟩,λi=>CA,λi=>⟨Int.le_refl 0,(by decide:(0:Int)<4294967296)⟩,Nat.le_refl _,Nat.le_refl _,λi _=>rfl,λi _=>rfl⟩
theorem cU.take{a:Option Addr}{m n:Nat}{f:Nat->List Value}(h:cU w a m n f)(k:Nat)(hk:k<=n):cU w a m k f:=by
 rcases h with h|⟨b,off,rfl,h⟩
 ·exact .inl (by omega)
 exact .inr ⟨b,off,rfl,λi hi=>h i (by omega)⟩
section
variable {t:Tr} {L:Nat->Nat->Int} {N:Nat}
end
section
open Go.Shelf
attribute [local go_sem] Oper.semAt_some
abbrev aP(kind group RT size place:Int):Array Value:=#[.int .u8 kind,.int .i64 group,.int .i64 RT,.int .i64 size,.int .i64 place]
def pO(S t J:Int)(k:Nat):Array Value:=
 if k=0 then aP 1 0 0 1 0 else if k=1 then aP 2 0 1 1 0 else if k=2 then aP 3 0 2 J 0 else
 if(k-3)%4=0 then aP 4 ((k-3)/4:Nat) (2+J+((k-3)/4:Nat)*S) 1 0 else
 if(k-3)%4=1 then aP 5 ((k-3)/4:Nat) (2+J+((k-3)/4:Nat)*S+1) 1 1 else
 if(k-3)%4=2 then aP 6 ((k-3)/4:Nat) (2+J+((k-3)/4:Nat)*S+2) t 2 else
 aP 7 ((k-3)/4:Nat) (2+J+((k-3)/4:Nat)*S+2+t) (S-2-t) (2+t)
theorem vJ(S t J:Int)(γ:Nat)(hi:i<4):pO S t J (3+4*γ+i)=if i=0 then aP 4 γ (2+J+(γ:Int)*S) 1 0 else if i=1 then aP 5 γ (2+J+(γ:Int)*S+1) 1 1 else if i=2 then aP 6 γ (2+J+(γ:Int)*S+2) t 2 else aP 7 γ (2+J+(γ:Int)*S+2+t) (S-2-t) (2+t):=by
 have e1:(3+4*γ+i-3)%4=i:=by omega
 have e2:(3+4*γ+i-3)/4=γ:=by omega
 unfold pO;rw[if_neg (by omega),if_neg (by omega),if_neg (by omega),e1,e2]
def iP(B:Nat)(G S I J:Int):Nat->World->Prop:=λ_ W=>At W B 23 (ai G S I J)
theorem ot(W:World):(zeroValue 117).run Tryz.prog W= .ok (.agg (aP 0 0 0 0 0)) W:=by kernel_rfl
theorem Nr(J:Int)(W:World):(Instr.index 164 (.agg #[.int .u8 1,.int .i64 0,.int .i64 0,.int .i64 1,.int .i64 0,.int .u8 2,.int .i64 0,.int .i64 1,.int .i64 1,.int .i64 0,.int .u8 3,.int .i64 0,.int .i64 2,.int .i64 J,.int .i64 0]) (.int .i64 0)).run Tryz.prog W= .ok (.agg (aP 1 0 0 1 0)) W:=by kernel_rfl
theorem Nq(J:Int)(W:World):(Instr.index 164 (.agg #[.int .u8 1,.int .i64 0,.int .i64 0,.int .i64 1,.int .i64 0,.int .u8 2,.int .i64 0,.int .i64 1,.int .i64 1,.int .i64 0,.int .u8 3,.int .i64 0,.int .i64 2,.int .i64 J,.int .i64 0]) (.int .i64 1)).run Tryz.prog W= .ok (.agg (aP 2 0 1 1 0)) W:=by kernel_rfl
theorem Np(J:Int)(W:World):(Instr.index 164 (.agg #[.int .u8 1,.int .i64 0,.int .i64 0,.int .i64 1,.int .i64 0,.int .u8 2,.int .i64 0,.int .i64 1,.int .i64 1,.int .i64 0,.int .u8 3,.int .i64 0,.int .i64 2,.int .i64 J,.int .i64 0]) (.int .i64 2)).run Tryz.prog W= .ok (.agg (aP 3 0 2 J 0)) W:=by kernel_rfl
theorem No(g a b c d t s p:Int)(W:World):(Instr.index 165 (.agg #[.int .u8 4,.int .i64 g,.int .i64 a,.int .i64 1,.int .i64 0,.int .u8 5,.int .i64 g,.int .i64 b,.int .i64 1,.int .i64 1,.int .u8 6,.int .i64 g,.int .i64 c,.int .i64 t,.int .i64 2,.int .u8 7,.int .i64 g,.int .i64 d,.int .i64 s,.int .i64 p]) (.int .i64 0)).run Tryz.prog W= .ok (.agg (aP 4 g a 1 0)) W:=by kernel_rfl
theorem Nn(g a b c d t s p:Int)(W:World):(Instr.index 165 (.agg #[.int .u8 4,.int .i64 g,.int .i64 a,.int .i64 1,.int .i64 0,.int .u8 5,.int .i64 g,.int .i64 b,.int .i64 1,.int .i64 1,.int .u8 6,.int .i64 g,.int .i64 c,.int .i64 t,.int .i64 2,.int .u8 7,.int .i64 g,.int .i64 d,.int .i64 s,.int .i64 p]) (.int .i64 1)).run Tryz.prog W= .ok (.agg (aP 5 g b 1 1)) W:=by kernel_rfl
theorem Nl(g a b c d t s p:Int)(W:World):(Instr.index 165 (.agg #[.int .u8 4,.int .i64 g,.int .i64 a,.int .i64 1,.int .i64 0,.int .u8 5,.int .i64 g,.int .i64 b,.int .i64 1,.int .i64 1,.int .u8 6,.int .i64 g,.int .i64 c,.int .i64 t,.int .i64 2,.int .u8 7,.int .i64 g,.int .i64 d,.int .i64 s,.int .i64 p]) (.int .i64 2)).run Tryz.prog W= .ok (.agg (aP 6 g c t 2)) W:=by kernel_rfl
theorem Nk(g a b c d t s p:Int)(W:World):(Instr.index 165 (.agg #[.int .u8 4,.int .i64 g,.int .i64 a,.int .i64 1,.int .i64 0,.int .u8 5,.int .i64 g,.int .i64 b,.int .i64 1,.int .i64 1,.int .u8 6,.int .i64 g,.int .i64 c,.int .i64 t,.int .i64 2,.int .u8 7,.int .i64 g,.int .i64 d,.int .i64 s,.int .i64 p]) (.int .i64 3)).run Tryz.prog W= .ok (.agg (aP 7 g d s p)) W:=by kernel_rfl
theorem oN:(Tryz.prog.info? 117).map (·.size)=some 5:=by kernel_rfl
theorem po:(Tryz.prog.info? 164).map (·.size)=some 15:=by kernel_rfl
theorem pn:(Tryz.prog.info? 165).map (·.size)=some 20:=by kernel_rfl
abbrev TU(J:Int):Array Value:=#[.int .u8 1,.int .i64 0,.int .i64 0,.int .i64 1,.int .i64 0,.int .u8 2,.int .i64 0,.int .i64 1,.int .i64 1,.int .i64 0,.int .u8 3,.int .i64 0,.int .i64 2,.int .i64 J,.int .i64 0]
theorem KO(J:Int):(TU J).all (·.oneCell')=true:=by kernel_rfl
theorem Ha(a b c d e:Int):(aP a b c d e).all (·.oneCell')=true:=by kernel_rfl
abbrev UD:Array Value:=#[.int .u8 0,.int .i64 0,.int .i64 0,.int .i64 0,.int .i64 0,.int .u8 0,.int .i64 0,.int .i64 0,.int .i64 0,.int .i64 0,.int .u8 0,.int .i64 0,.int .i64 0,.int .i64 0,.int .i64 0]
abbrev h20(γ a b c d t s p:Int):Array Value:=#[.int .u8 4,.int .i64 γ,.int .i64 a,.int .i64 1,.int .i64 0,.int .u8 5,.int .i64 γ,.int .i64 b,.int .i64 1,.int .i64 1,.int .u8 6,.int .i64 γ,.int .i64 c,.int .i64 t,.int .i64 2,.int .u8 7,.int .i64 γ,.int .i64 d,.int .i64 s,.int .i64 p]
theorem KN(γ a b c d t s p:Int):(h20 γ a b c d t s p).all (·.oneCell')=true:=by kernel_rfl
abbrev UC:Array Value:=#[.int .u8 0,.int .i64 0,.int .i64 0,.int .i64 0,.int .i64 0,.int .u8 0,.int .i64 0,.int .i64 0,.int .i64 0,.int .i64 0,.int .u8 0,.int .i64 0,.int .i64 0,.int .i64 0,.int .i64 0,.int .u8 0,.int .i64 0,.int .i64 0,.int .i64 0,.int .i64 0]
theorem CB(W:World):(zeroValue 165).run Tryz.prog W= .ok (.agg UC) W:=by kernel_rfl
theorem CC(W:World):(zeroValue 164).run Tryz.prog W= .ok (.agg UD) W:=by kernel_rfl
theorem ig{w':World}{o:Obj}(ho:az w.heap.size (w.alloc o) w'):Below w.heap.size w w':=(ag.alloc af o).trans (ho.below af)
theorem Aq(n:Nat)(hn:1<=n)(B:Nat)(G S I J:Int)(hm:aT G S I J=true):
  lF Fence.wide n Tryz.prog 90 #[.pointer (some ⟨B,0,none⟩)] (λk=> #[.agg (pO S (I/4) J k)]) (3+4*G.toNat) (λ_=>False) (iP B G S I J):=by
 obtain⟨h1,h2,h3,h4,h5,h6,h7,h8,h9,h10,h11⟩:=(bq G S I J).1 hm;obtain⟨g,rfl⟩:∃g:Nat,G=(g:Int):=⟨G.toNat,by omega⟩;rw[Int.toNat_natCast];intro l F Fx W TQ Oe hY h0 hN;have HY:=ah hY;have HJO:=ah TQ;clear hY TQ Oe;have hc0:W.cell? ⟨B,0,none⟩=some (.int .i64 (g:Int)):=hN.cell (i:=0) rfl;have hc1:W.cell? ⟨B,1,none⟩=some (.int .i64 S):=hN.cell (i:=1) rfl;have hc2:W.cell? ⟨B,2,none⟩=some (.int .i64 I):=hN.cell (i:=2) rfl;have hc3:W.cell? ⟨B,3,none⟩=some (.int .i64 J):=hN.cell (i:=3) rfl;have t1:=nU I h5;refine callsIn_of_wp Tryz.func90 rfl trivial ?_ rfl;simp only[Tryz.ntmps90,List.size_toArray,List.length_cons,List.length_nil,Nat.reduceAdd,Nat.reduceSub,Array.replicate_succ,Array.replicate_zero,List.push_toArray,List.append_toArray,List.nil_append,List.cons_append];have Um:Hd (∀k (A A':World),F k A->Below A.heap.size A A'->F k A'):=λk A A' h hb=>HJO.Z k A _ h ⟨none,bB hb,λr e=>by cases e⟩
 have ad5:=CC;have hA0:=At.new W 164 UD
 gi_wp2_with (first|(refine fQ rfl 164 (.tmp 4) (.tmp 20) rfl W.heap.size (TU J) UD rfl rfl hA0 po rfl (KO J) ?_))
 intro w1 gU wm;have ZQ:iP B g S I J 0 w1:=At.below hN (ig wm) hN.lt;have Z1:=Um.Z _ _ _ h0 (ig wm);clear hc0 hc1 hc2 hc3 hA0 hN h0 wm
 gi_wp2_with (first|(refine iZ rfl 164 (.tmp 4) rfl W.heap.size (TU J) _ rfl gU Tryz.underlying164 rfl po ?_))
 clear gU
 gi_loopw [22] (λu wr=>∃k:Nat,k<=3/\u= .int .i64 (k:Int)/\F k wr/\iP B g S I J 0 wr) (λu _=>3-(intOf u).toNat)
 case atStart=>exact⟨0,by omega,rfl,Z1,ZQ⟩
 clear Z1 ZQ;obtain⟨k,hk,rfl,hF,hnd⟩:=hrel
 by_cases hlt:k<3
 ·have K7:Hd (k=0/\pO S (I/4) J k=aP 1 0 0 1 0\/k=1/\pO S (I/4) J k=aP 2 0 1 1 0\/k=2/\pO S (I/4) J k=aP 3 0 2 J 0):=by
   have:k=0\/k=1\/k=2:=by omega
   rcases this with rfl|rfl|rfl
   ·exact .inl ⟨rfl,rfl⟩
   ·exact .inr (.inl ⟨rfl,rfl⟩)
   exact .inr (.inr ⟨rfl,rfl⟩)
  have N4:=λA h1 h2=>HY.Z k A (by omega) h1 h2
  obtain⟨cs,hcs⟩:=ae (pO S (I/4) J k);rw[hcs] at N4;have tG:=ah N4;have JY:∀W,(Instr.index 164 (.agg (TU J)) (.int .i64 (k:Int))).run Tryz.prog W= .ok (.agg cs) W:=λW=>by
   rcases K7.Z with⟨rfl,e⟩|⟨rfl,e⟩|⟨rfl,e⟩
   ·rw[<-hcs,e];exact Nr J W
   ·rw[<-hcs,e];exact Nq J W
   rw[<-hcs,e];exact Np J W
  have r5:cs.size=5:=by rcases K7.Z with⟨rfl,e⟩|⟨rfl,e⟩|⟨rfl,e⟩<;>(rw[<-hcs,e];rfl)
  have hc1:cs.all (·.oneCell')=true:=by rcases K7.Z with⟨rfl,e⟩|⟨rfl,e⟩|⟨rfl,e⟩<;>(rw[<-hcs,e];exact Ha _ _ _ _ _)
  clear hcs K7 N4;have AP:(Tryz.prog.info? 117).map (·.size)=some cs.size:=by rw[r5];exact oN
  have hA:=At.new wr 117 (aP 0 0 0 0 0);have hal:=ot;have hs0:(aP 0 0 0 0 0).size=cs.size:=by rw[r5];rfl
  have l3:(k:Int)<3:=by omega
  have zz:Hd (F k wr/\iP B g S I J 0 wr):=⟨hF,hnd⟩;clear hF hnd r5
  gi_wp2_with (first|(refine fQ rfl 117 (.tmp 6) (.tmp 24) rfl wr.heap.size cs (aP 0 0 0 0 0) rfl rfl hA AP hs0 hc1 ?_))
  intro w2 sR eI;have WZ:iP B g S I J 0 w2:=At.below zz.Z.2 (ig eI) (At.lt zz.Z.2);have hF2:=Um.Z _ _ _ zz.Z.1 (ig eI);obtain⟨fn,tmps,assign,body,hy,hR⟩:=tG.Z w2 hF2 WZ;clear zz hA eI JY tG hc1 hs0
  gi_wp2_with (first|(refine iZ rfl 117 (.tmp 6) rfl wr.heap.size cs _ rfl sR Tryz.underlying117 rfl AP ?_))
  refine hR.mono ?_;rintro e W3 (⟨rfl,hJ3,Py⟩|⟨rfl,AU⟩)
  ·gi_wp2
   go_roundw
   case rel=>exact⟨k+1,by omega,int_eq (by omega),hJ3,Py⟩
   simp[intOf];omega
  gi_wp2
  refine bodyPost_ret (results_none rfl _ _ _) rfl ?_;exact⟨⟨_,rfl⟩,.inr ⟨k,by omega,AU⟩⟩
 obtain rfl:k=3:=by omega
 have hc0:wr.cell? ⟨B,0,none⟩=some (.int .i64 (g:Int)):=hnd.cell (i:=0) rfl
 gi_wp2
 clear hc0
 gi_loopw [32] (λu wr=>∃γ:Nat,γ<=g/\u= .int .i64 (γ:Int)/\F (3+4*γ) wr/\iP B g S I J 0 wr) (λu _=>g-(intOf u).toNat)
 case atStart=>exact⟨0,by omega,rfl,hF,hnd⟩
 clear hF hnd;obtain⟨γ,hγ,rfl,hF,hnd⟩:=hrel
 by_cases kf:γ<g
 ·have hc1:wr.cell? ⟨B,1,none⟩=some (.int .i64 S):=hnd.cell (i:=1) rfl
  have hc3:wr.cell? ⟨B,3,none⟩=some (.int .i64 J):=hnd.cell (i:=3) rfl;have Wm:0<=(γ:Int)*S/\(γ:Int)*S<=2048:=by
   refine⟨Int.mul_nonneg (by omega) (by omega),?_⟩;have:=Int.mul_le_mul (show(γ:Int)<=4 by omega) h4 (by omega) (by omega:(0:Int)<=4);omega
  obtain⟨Rn,J1⟩:=Wm;have l4:(γ:Int)<(g:Int):=by omega
  have WR:=CB;have zz:Hd (F (3+4*γ) wr/\iP B g S I J 0 wr):=⟨hF,hnd⟩;have hA0:=At.new wr 165 UC;have HT4:Hd (0<=I/4/\I/4<=16):=by show _/\_;omega
  have zu:=ah (λi hi=>vJ S (I/4) J γ (i:=i) hi);have Up:Hd (3+I/4<=S):=h10;clear hF hnd t1 h10;generalize I/4=t at*;obtain⟨ht0,ht1⟩:=HT4.Z;have ht2:=Up.Z;have e1:IntKind.i64.wrap ((γ:Int)*S)=(γ:Int)*S:=IntWalk.i64_in _ (by omega);have e2:IntKind.i64.wrap (2+J+(γ:Int)*S)=2+J+(γ:Int)*S:=IntWalk.i64_in _ (by omega);have e3:IntKind.i64.wrap (2+J+(γ:Int)*S+1)=2+J+(γ:Int)*S+1:=IntWalk.i64_in _ (by omega);have e4:IntKind.i64.wrap (2+J+(γ:Int)*S+2)=2+J+(γ:Int)*S+2:=IntWalk.i64_in _ (by omega);have e5:IntKind.i64.wrap (2+J+(γ:Int)*S+2+t)=2+J+(γ:Int)*S+2+t:=IntWalk.i64_in _ (by omega);have e6:IntKind.i64.wrap (S-2-t)=S-2-t:=IntWalk.i64_in _ (by omega);have e7:IntKind.i64.wrap (2+t)=2+t:=IntWalk.i64_in _ (by omega)
  gi_wp2_with (first|(refine fQ rfl 165 (.tmp 9) (.tmp 68) rfl wr.heap.size (h20 γ (2+J+(γ:Int)*S) (2+J+(γ:Int)*S+1) (2+J+(γ:Int)*S+2) (2+J+(γ:Int)*S+2+t) t (S-2-t) (2+t)) UC rfl rfl hA0 pn rfl (KN _ _ _ _ _ _ _ _) ?_))
  intro w4 PC ke;have ZP:iP B g S I J 0 w4:=At.below zz.Z.2 (ig ke) (At.lt zz.Z.2);have Z0:=Um.Z _ _ _ zz.Z.1 (ig ke);clear zz hA0 ke hc1 hc3 e1 e2 e3 e4 e5 e6 e7;obtain⟨p1,hp1⟩:=ae (2+J+(γ:Int)*S);have K6:Hd (∀i:Nat,i<4->pO S t J (3+4*γ+i)=if i=0 then aP 4 γ p1 1 0 else if i=1 then aP 5 γ (p1+1) 1 1 else if i=2 then aP 6 γ (p1+2) t 2 else aP 7 γ (p1+2+t) (S-2-t) (2+t)):=λi hi=>by rw[zu.Z i hi,hp1]
  rw[hp1] at PC ⊢;clear zu hp1 Rn J1
  gi_wp2_with (first|(refine iZ rfl 165 (.tmp 9) rfl wr.heap.size (h20 γ p1 (p1+1) (p1+2) (p1+2+t) t (S-2-t) (2+t)) _ rfl PC Tryz.underlying165 rfl pn ?_))
  clear PC WR
  gi_loopw [70] (λu wr=>∃i:Nat,i<=4/\u= .int .i64 (i:Int)/\F (3+4*γ+i) wr/\iP B g S I J 0 wr) (λu _=>4-(intOf u).toNat)
  case atStart=>exact⟨0,by omega,rfl,Z0,ZP⟩
  clear Z0 ZP;obtain⟨i,hi,rfl,hF,hnd⟩:=hrel
  by_cases Ra:i<4
  ·have K7:Hd (i=0/\pO S t J (3+4*γ+i)=aP 4 γ p1 1 0\/i=1/\pO S t J (3+4*γ+i)=aP 5 γ (p1+1) 1 1\/i=2/\pO S t J (3+4*γ+i)=aP 6 γ (p1+2) t 2\/i=3/\pO S t J (3+4*γ+i)=aP 7 γ (p1+2+t) (S-2-t) (2+t)):=by
    have:i=0\/i=1\/i=2\/i=3:=by omega
    rcases this with rfl|rfl|rfl|rfl
    ·exact .inl ⟨rfl,K6.Z 0 (by omega)⟩
    ·exact .inr (.inl ⟨rfl,K6.Z 1 (by omega)⟩)
    ·exact .inr (.inr (.inl ⟨rfl,K6.Z 2 (by omega)⟩))
    exact .inr (.inr (.inr ⟨rfl,K6.Z 3 (by omega)⟩))
   have N4:=λA h1 h2=>HY.Z (3+4*γ+i) A (by omega) h1 h2
   obtain⟨cs,hcs⟩:=ae (pO S t J (3+4*γ+i));rw[hcs] at N4;have tG:=ah N4;have JY:∀W,(Instr.index 165 (.agg (h20 γ p1 (p1+1) (p1+2) (p1+2+t) t (S-2-t) (2+t))) (.int .i64 (i:Int))).run Tryz.prog W= .ok (.agg cs) W:=λW=>by
    rcases K7.Z with⟨rfl,e⟩|⟨rfl,e⟩|⟨rfl,e⟩|⟨rfl,e⟩
    ·rw[<-hcs,e];exact No _ _ _ _ _ _ _ _ W
    ·rw[<-hcs,e];exact Nn _ _ _ _ _ _ _ _ W
    ·rw[<-hcs,e];exact Nl _ _ _ _ _ _ _ _ W
    rw[<-hcs,e];exact Nk _ _ _ _ _ _ _ _ W
   have r5:cs.size=5:=by rcases K7.Z with⟨rfl,e⟩|⟨rfl,e⟩|⟨rfl,e⟩|⟨rfl,e⟩<;>(rw[<-hcs,e];rfl)
   have hc1:cs.all (·.oneCell')=true:=by rcases K7.Z with⟨rfl,e⟩|⟨rfl,e⟩|⟨rfl,e⟩|⟨rfl,e⟩<;>(rw[<-hcs,e];exact Ha _ _ _ _ _)
   clear hcs K7 N4;have AP:(Tryz.prog.info? 117).map (·.size)=some cs.size:=by rw[r5];exact oN
   have hA:=At.new wr 117 (aP 0 0 0 0 0);have hal:=ot;have hs0:(aP 0 0 0 0 0).size=cs.size:=by rw[r5];rfl
   have l5:(i:Int)<4:=by omega
   have zz:Hd (F (3+4*γ+i) wr/\iP B g S I J 0 wr):=⟨hF,hnd⟩;clear hF hnd r5
   gi_wp2_with (first|(refine fQ rfl 117 (.tmp 11) (.tmp 72) rfl wr.heap.size cs (aP 0 0 0 0 0) rfl rfl hA AP hs0 hc1 ?_))
   intro w2 sR eI;have WZ:iP B g S I J 0 w2:=At.below zz.Z.2 (ig eI) (At.lt zz.Z.2);have hF2:=Um.Z _ _ _ zz.Z.1 (ig eI);obtain⟨fn,tmps,assign,body,hy,hR⟩:=tG.Z w2 hF2 WZ;clear zz hA eI JY tG hc1 hs0
   gi_wp2_with (first|(refine iZ rfl 117 (.tmp 11) rfl wr.heap.size cs _ rfl sR Tryz.underlying117 rfl AP ?_))
   refine hR.mono ?_;rintro e W3 (⟨rfl,hJ3,Py⟩|⟨rfl,AU⟩)
   ·gi_wp2
    go_roundw
    case rel=>exact⟨i+1,by omega,int_eq (by omega),hJ3,Py⟩
    simp[intOf];omega
   gi_wp2
   refine bodyPost_ret (results_none rfl _ _ _) rfl ?_;exact⟨⟨_,rfl⟩,.inr ⟨3+4*γ+i,by omega,AU⟩⟩
  obtain rfl:i=4:=by omega
  have l5:¬((4:Nat):Int)<4:=by omega
  gi_wp2
  go_roundw
  case rel=>
   rw[show 3+4*γ+4=3+4*(γ+1) by omega] at hF;exact⟨_,_,_,_,.int .i64 ((γ:Int)+1),⟨γ+1,by omega,int_eq (by omega),hF⟩,rfl,rfl,rfl,rfl,rfl⟩
  simp[intOf];omega
 obtain rfl:γ=g:=by omega
 have l4:¬(γ:Int)<(γ:Int):=by omega
 gi_wp2
 refine bodyPost_end (results_none rfl _ _ _) rfl ?_;exact⟨⟨_,rfl⟩,.inl (hF)⟩
end
namespace Mv
def s6(o:Oper):Bool:=match o.op with| .store _ _ _=>true|_=>fu o
section
variable {F:Fence} {m:Nat} {P:Program} {ops:Array Oper} {md:Region.Mode} {σ:Type} {C:σ->World->Prop}
theorem s4(ho:s6 o=true)(a:Act)(w:World)(f:FuncId)(args:Array Value)(w':World):(execOp a.eval o).run P w≠ .ok (.enter f args) w':=by
 unfold s6 at ho;split at ho
 ·rename_i ty x y hop
  unfold execOp;simp only[hop,Sem.run_bind];intro h;cases hr:(Instr.storeAt ty (a.eval x) (a.eval y)).run P w with
  |ok u w1=>rw[hr] at h;simp[Result.andThen,Sem.run_pure] at h
  |halt e w1=>rw[hr] at h;simp[Result.andThen] at h
 exact kX ho a w f args w'
theorem vg(ho:s6 o=true)(c):o.op≠ .call c:=by
 intro h;unfold s6 at ho;rw[h] at ho;unfold fu at ho;rw[h] at ho;cases ho
theorem s5(ho:s6 o=true)(c):o.op≠ .defer c:=by
 intro h;unfold s6 at ho;rw[h] at ho;unfold fu at ho;rw[h] at ho;cases ho
theorem sY(ht:ops.all s6=true){s:σ}{K:σ->Act->Prop}{K':Act->World->Prop}(hC:C s w)(h:∀s a w',C s w'->K s a->K' a w')(hh:dS P ops C i K s a):wpOpIn F m P ops Q' i K' a w:=by
 unfold dS at hh;unfold wpOpIn;split
 ·rename_i ho;simp only[ho] at hh;exact h _ _ _ hC hh
 rename_i o ho;simp only[ho] at hh;have LJ:s6 o=true:=by
  rw[Array.all_eq_true_iff_forall_mem] at ht;exact ht o (Array.mem_of_getElem? ho)
 have hab:∀f,o.about P w a.eval=some f->F.fn f:=by
  intro f hf;unfold Oper.about at hf;split at hf
  ·rename_i c hc;exact absurd hc (vg LJ c)
  cases hf
 rcases hh with⟨hw,hy⟩|⟨hw,hk⟩
 ·simp only[hw,if_true]
  unfold Oper.wpIn;refine⟨hab,?_⟩;rw[Oper.semAt_plain F _ _ (s5 LJ)];have hne:=λf args w'=>s4 (P:=P) LJ a w f args w'
  rcases hy with⟨_,hk⟩|⟨_,v,hs,hk⟩
  ·have h3:=hk w hC
   generalize (execOp a.eval o).run P w=r at*;cases r with
   |ok n w'=>
    cases n<;>simp only[dh] at h3<;>simp only[Oper.uponIn]
    ·obtain⟨s',h4,h5⟩:=h3;exact h _ _ _ h4 h5
    ·obtain⟨s',h4,h5⟩:=h3;exact h _ _ _ h4 h5
    exact absurd rfl (hne _ _ _)
   |halt x w'=>simp only[dh] at h3
  have h3:=hs w ⟨_,hC⟩;generalize (execOp a.eval o).run P w=r at*;cases r with
  |ok n w'=>
   cases n<;>simp only[stillUpon] at h3<;>simp only[Oper.uponIn]
   ·obtain⟨rfl,rfl⟩:=h3;exact h _ _ _ hC hk
   obtain⟨rfl,rfl⟩:=h3;exact h _ _ _ hC hk
  |halt x w'=>simp only[stillUpon] at h3
 rw[if_neg (by rw[hw];decide)];exact⟨hab,h _ _ _ hC hk⟩
theorem kM(ht:ops.all s6=true){Q:σ->Act->Prop}(hQ:∀s a w,C s w->Q s a->Q' .normal a w):∀(fuel:Nat) (listed:Array Bool) (s:σ) (a:Act) (w:World),C s w->
  wpAnyL P md ops C Q fuel listed s a->wpAnyIn F m P md ops Q' fuel listed a w
 |0,_,_,_,_,hw,h=>⟨h.1,hQ _ _ _ hw h.2⟩
 |fuel+1,_,_,_,_,hw,h=>⟨λh0=>hQ _ _ _ hw (h.1 h0),λi hi=>sY ht hw (λs' a' w' hw'=>kM ht hQ fuel _ s' a' w' hw') (h.2 i hi)⟩
theorem qI(C:σ->World->Prop)(s:σ){id:Nat}{Q:Exit->Act->World->Prop}{l:List Oper}(hm:P.follows .mixedOrders=true)(hB:Region.lexB .any l.toArray=true)(hch:kj .any l.toArray=true)(ht:l.toArray.all s6=true)(hC:C s {w with drawn:=w.drawn+1})
  (h:Nonempty (a9 λw=>∃s,C s w)->du P l.toArray C (λs a'=>∀w',C s w'->Q .normal a' w') l s a):(Code.region id l.toArray true).wpIn F m P Q a w:=by
 simp only[Region.lexB,Bool.and_eq_true] at hB;refine wpIn_region_any hm (kM ht (Q:=λs a'=>∀w',C s w'->Q .normal a' w') (λ_ _ w' hw' h=>h w' hw') _ _ s _ _ hC ?_);have:=fH (C:=C) (md:=.any) iN hch hB.1 l 0 (Array.replicate l.toArray.size false) s a ⟨_,hC⟩ (λj oj hj hl=>by
   rcases Nat.lt_or_ge j l.toArray.size with h'|h'
   ·rw[List.size_toArray] at h';simp[h'] at hl
   rw[List.size_toArray] at h';simp[h'] at hl) (λj hj=>by omega) (by simp) (by simpa using hB.2) (h ⟨⟨_,s,hC⟩⟩)
 simpa using this
theorem fy{Q:σ->Act->Prop}{s:σ}{rest:List Oper}(hw:Region.wanted o (yielded ops a.tmps)=true)(ty:TypeId)(x y:Operand)(ho:o.op= .store ty x y)
  (b off:Nat) (v:Value) (hx:a.eval x= .pointer (some ⟨b,off,none⟩)) (hy:a.eval y=v) (hi:(P.info? ty).map (·.size)=some 1) (h1:v.oneCell'=true) (s':σ)
  (hc:∀w,C s w->(∃u,w.cell? ⟨b,off,none⟩=some u)/\w.frozen? ⟨b,off,none⟩=false/\C s' (w.setCell ⟨b,off,none⟩ v))
  (hk:du P ops C Q rest s' (a.put o.dst undef)):du P ops C Q (o::rest) s a:=
 rP hw (by unfold mv fu;rw[ho];rfl) λw hC=>by
  obtain⟨⟨u,hu⟩,hf,Kd⟩:=hc w hC;unfold execOp;simp only[ho,hx,hy,Instr.storeAt,Instr.sureAddr,Sem.run_bind,Sem.run_pure,Result.andThen_ok,jm w b off ty u v hu hf hi h1];exact⟨s',Kd,hk⟩
end
end Mv
section
attribute [local go_sem] Oper.semAt_some
theorem FA{S t J:Int}(h1:16<=S)(h2:S<=512)(h3:0<=t)(h4:3+t<=S)(h5:40<=J)(h6:J<=256)(hg:g<=4)(k:Nat)(hk:k<3+4*g):
  ∃K Gg Fr Sz Pl:Int,pO S t J k=aP K Gg Fr Sz Pl/\(0<=Fr/\0<=Sz/\Fr+Sz<=2+J+g*S/\0<=Pl/\Pl<=512/\Fr+Sz<=4000/\0<=K/\K<=7)/\
   (k=0/\Fr+Sz=1/\K=1\/k=1/\Fr+Sz=2/\K=2\/k=2/\Fr+Sz=2+J/\K=3\/3<=k/\2+J<=Fr+Sz/\4<=K/\K<=7/\(k+1=3+4*g->Fr+Sz=2+J+g*S)):=by
 have Rn:0<=(g:Int)*S:=Int.mul_nonneg (by omega) (by omega);have J1:(g:Int)*S<=4*512:=Int.mul_le_mul (by omega) h2 (by omega) (by omega)
 by_cases c0:k=0
 ·subst c0;exact⟨1,0,0,1,0,rfl,by omega,by omega⟩
 by_cases c1:k=1
 ·subst c1;exact⟨2,0,1,1,0,rfl,by omega,by omega⟩
 by_cases c2:k=2
 ·subst c2;exact⟨3,0,2,J,0,rfl,by omega,by omega⟩
 obtain⟨γ,i,hi,rfl⟩:∃γ i,i<4/\k=3+4*γ+i:=⟨(k-3)/4,(k-3)%4,by omega,by omega⟩;have hγ:γ+1<=g:=by omega
 have hm0:0<=(γ:Int)*S:=Int.mul_nonneg (by omega) (by omega);have BU:((γ:Int)+1)*S<=(g:Int)*S:=Int.mul_le_mul_of_nonneg_right (by omega) (by omega);rw[Int.add_mul,Int.one_mul] at BU;have hlast:γ+1=g->(γ:Int)*S+S=(g:Int)*S:=λe=>by rw[<-e];rw[show((γ+1:Nat):Int)=(γ:Int)+1 by omega,Int.add_mul,Int.one_mul]
 rw[vJ S t J γ hi];generalize (γ:Int)*S=a at*;generalize (g:Int)*S=b at*;have:i=0\/i=1\/i=2\/i=3:=by omega
 rcases this with rfl|rfl|rfl|rfl
 ·exact⟨4,γ,2+J+a,1,0,rfl,by omega,by omega⟩
 ·exact⟨5,γ,2+J+a+1,1,1,rfl,by omega,by omega⟩
 ·exact⟨6,γ,2+J+a+2,t,2,rfl,by omega,by omega⟩
 refine⟨7,γ,2+J+a+2+t,S-2-t,2+t,rfl,by omega,.inr (.inr (.inr ⟨by omega,by omega,by omega,by omega,λe=> ?_⟩))⟩;have:=hlast (by omega);omega
theorem At.setCell{cs:Array Value}(h:At w g T cs)(i:Nat)(v:Value):At (w.setCell ⟨g,i,none⟩ v) g T (cs.setIfInBounds i v):=by
 obtain⟨hlt,hk⟩:=Array.getElem?_eq_some_iff.1 h;show(w.heap.modify g _)[g]? =_;rw[Array.getElem?_eq_getElem (by rw[Array.size_modify];exact hlt),Array.getElem_modify_self,hk]
 rfl
structure sT(w:World)(G S I J x K A B:Int)(W:World):Prop where
 g:At W w.heap.size 23 (ai G S I J)
 x:At W (w.heap.size+1) 3 #[.int .i64 x]
 k:At W (w.heap.size+2) 5 #[.int .u8 K]
 a:At W (w.heap.size+3) 3 #[.int .i64 A]
 b:At W (w.heap.size+4) 3 #[.int .i64 B]
 bel:Below w.heap.size w W
section
variable {w:World} {G S I J x K A B:Int} {W W':World}
theorem sT.below(h:sT w G S I J x K A B W)(hb:Below W.heap.size W W'):sT w G S I J x K A B W':=⟨h.g.below hb h.g.lt,h.x.below hb h.x.lt,h.k.below hb h.k.lt,h.a.below hb h.a.lt,h.b.below hb h.b.lt,h.bel.trans (hb.mono h.bel.size)⟩
theorem sT.sz(h:sT w G S I J x K A B W):w.heap.size+5<=W.heap.size:=h.b.lt
theorem sT.I8(h:sT w G S I J x K A B W)(v:Int):sT w G S I J x v A B (W.setCell ⟨w.heap.size+2,0,none⟩ (.int .u8 v)):=
 have ho:=az.setCell W ⟨w.heap.size+2,0,none⟩ (.int .u8 v)
 ⟨h.g.only ho (by simp),h.x.only ho (by simp),h.k.setCell 0 _,h.a.only ho (by simp),h.b.only ho (by simp),h.bel.trans (ho.below (by simp))⟩
theorem sT.nB(h:sT w G S I J x K A B W)(v:Int):sT w G S I J x K v B (W.setCell ⟨w.heap.size+3,0,none⟩ (.int .i64 v)):=
 have ho:=az.setCell W ⟨w.heap.size+3,0,none⟩ (.int .i64 v)
 ⟨h.g.only ho (by simp),h.x.only ho (by simp),h.k.only ho (by simp),h.a.setCell 0 _,h.b.only ho (by simp),h.bel.trans (ho.below (by simp))⟩
theorem sT.nA(h:sT w G S I J x K A B W)(v:Int):sT w G S I J x K A v (W.setCell ⟨w.heap.size+4,0,none⟩ (.int .i64 v)):=
 have ho:=az.setCell W ⟨w.heap.size+4,0,none⟩ (.int .i64 v)
 ⟨h.g.only ho (by simp),h.x.only ho (by simp),h.k.only ho (by simp),h.a.only ho (by simp),h.b.setCell 0 _,h.bel.trans (ho.below (by simp))⟩
theorem sT.loc{B0:Nat}(hB:w.heap.size+5<=B0):aC B0 (sT w G S I J x K A B):=λA' C hs hg=>
 ⟨aC.at _ _ (by omega) A' C hs.g hg,aC.at _ _ (by omega) A' C hs.x hg,aC.at _ _ (by omega) A' C hs.k hg,aC.at _ _ (by omega) A' C hs.a hg,aC.at _ _ (by omega) A' C hs.b hg,aC.below w (by omega) af A' C hs.bel hg⟩
end
theorem Di(G S I J:Int)(w:World):Calls Tryz.prog 44 #[bV G S I J] w λe w'=>e= .returned (.func (.func 90) #[] #[.pointer (some ⟨w.heap.size,0,none⟩)])/\At w' w.heap.size 23 (ai G S I J)/\Below w.heap.size w w':=by
 have hA:=ah (At.new w 23 (ai G S I J));have hL:Hd (Below w.heap.size w (w.alloc (.cells (ai G S I J) 23))):=ag.alloc af _;go_enter Tryz.func44,Tryz.ntmps44;go_wp2_with fail;go_ret;exact⟨rfl,hA.Z,hL.Z⟩
structure Be(w:World)(G S I J x K A B:Int)(p:Nat)(cs:Array Value)(B0:Nat)(W0:World)(t:Mv.St)(W:World):Prop where
 s:sT w G S I J x (if t.n>=1 then K else 0) (if t.n>=2 then A else 0) (if t.n>=3 then B else 0) W
 p:At W p 117 cs
 iU:KeepsFrom B0 W0 W
section
variable {w:World} {G S I J x K A B:Int} {p:Nat} {cs:Array Value} {B0:Nat} {W0 W:World}
theorem At.dk{W:World}{p q:Nat}{U:TypeId}{cs ds:Array Value}(h:At W p T cs)(k:At W q U ds)(hT:T≠U):p≠q:=by
 intro e;subst e;have:=h.symm.trans k;injection this with this
 injection this with _ h2 _
 exact hT h2
theorem Be.s1(h:Be w G S I J x K A B p cs B0 W0 ⟨0,undef⟩ W):Be w G S I J x K A B p cs B0 W0 ⟨1,undef⟩ (W.setCell ⟨w.heap.size+2,0,none⟩ (.int .u8 K)):=
 have ho:=az.setCell W ⟨w.heap.size+2,0,none⟩ (.int .u8 K)
 ⟨h.s.I8 K,h.p.only ho (At.dk h.p h.s.k (by decide)),h.iU.trans (ho.keeps (h.s.k.cell (i:=0) rfl))⟩
theorem Be.s2(h:Be w G S I J x K A B p cs B0 W0 ⟨1,undef⟩ W):Be w G S I J x K A B p cs B0 W0 ⟨2,undef⟩ (W.setCell ⟨w.heap.size+3,0,none⟩ (.int .i64 A)):=
 have ho:=az.setCell W ⟨w.heap.size+3,0,none⟩ (.int .i64 A)
 ⟨h.s.nB A,h.p.only ho (At.dk h.p h.s.a (by decide)),h.iU.trans (ho.keeps (h.s.a.cell (i:=0) rfl))⟩
theorem Be.s3(h:Be w G S I J x K A B p cs B0 W0 ⟨2,undef⟩ W):Be w G S I J x K A B p cs B0 W0 ⟨3,undef⟩ (W.setCell ⟨w.heap.size+4,0,none⟩ (.int .i64 B)):=
 have ho:=az.setCell W ⟨w.heap.size+4,0,none⟩ (.int .i64 B)
 ⟨h.s.nA B,h.p.only ho (At.dk h.p h.s.b (by decide)),h.iU.trans (ho.keeps (h.s.b.cell (i:=0) rfl))⟩
end
theorem yB:(Tryz.prog.info? 3).map (·.size)=some 1:=by kernel_rfl
end
def xW(f:Int)(mg:Bool):Nat->Int:=if mg then over (λ_=>f) 0 4 (byteOf 1280199249) elseλ_=>f
theorem Fk(hf:0<=f/\f<256)(mg:Bool):bu (xW f mg):=by
 unfold xW;split
 ·exact eO (λ_=>hf) (mT _) _ _
 exactλ_=>hf
abbrev xQ(b f:Int)(mg:Bool):Array Value:=#[.int .i64 b,.int .u8 f,.bool mg]
structure tJ(w:World)(b f:Int)(mg:Bool)(z:Nat->Int)(W:World):Prop where
 x:At W w.heap.size 40 (xQ b f mg)
 r:aU W (w.heap.size+1) 32 256 (λ_=>0)
 b:aU W (w.heap.size+2) 32 256 z
 bel:Below w.heap.size w W
theorem tJ.step{b:Int}{W W':World}(h:tJ w b f mg z W)(hB:aU W' (w.heap.size+2) 32 256 z')(ho:az (w.heap.size+2) W W'):tJ w b f mg z' W':=
 ⟨h.x.only ho (by omega),h.r.only ho (by omega),hB,h.bel.trans (ho.below (by omega))⟩
theorem tJ.congr{b:Int}{W:World}(h:tJ w b f mg z W)(he:∀i,i<256->z i=z' i):tJ w b f mg z' W:=⟨h.x,h.r,h.b.congr he,h.bel⟩
theorem wS(b f:Int)(hf:0<=f/\f<256)(mg:Bool)(w:World):Calls Tryz.prog 12 #[.agg (xQ b f mg)] w λe w'=>e= .returned (aR (xW f mg))/\Below w.heap.size w w':=by
 have hal:=cW;have st0:Hd (tJ w b f mg (λi=>if i<0 then f else 0) (((w.alloc (.cells (xQ b f mg) 40)).alloc (.cells (Ks .u8 256 (λ_=>0)).toArray 32)).alloc (.cells (Ks .u8 256 (λ_=>0)).toArray 32))):=by
  refine⟨((At.new w _ _).alloc _).alloc _,?_,?_,((ag.alloc af _).alloc (by simp) _).alloc (by simp;omega) _⟩
  ·have:=(aU.new (w.alloc (.cells (xQ b f mg) 40)) 32 256 (λ_=>0)).alloc (.cells (Ks .u8 256 (λ_=>0)).toArray 32)
   simp only[World.size_alloc] at this;exact this
  have:=aU.new ((w.alloc (.cells (xQ b f mg) 40)).alloc (.cells (Ks .u8 256 (λ_=>0)).toArray 32)) 32 256 (λ_=>0);simp only[World.size_alloc] at this;exact this.congr λi _=>by rw[if_neg (by omega)]
 go_enter Tryz.func12,Tryz.ntmps12;go_wp2_with fail;go_loopw [4] (λu wr=>∃k:Nat,k<=256/\u= .int .i64 (k:Int)/\tJ w b f mg (λi=>if i<k then f else 0) wr) (λu _=>256-(intOf u).toNat)
 case atStart=>exact⟨0,by omega,rfl,st0.Z⟩
 clear st0;obtain⟨k,hk,rfl,st⟩:=hrel
 by_cases hlt:k<256
 ·have hB:=st.b
  have l1:(k:Int)<256:=by omega
  have c1:wr.cell? ⟨w.heap.size,1,none⟩=some (.int .u8 f):=st.x.cell (i:=1) rfl;go_wp2_with (first|(refine dA rfl (.tmp 12) (.tmp 11) rfl (w.heap.size+2) k f rfl rfl hB hlt ?_))
  intro w7 wC DL;have jl:tJ w b f mg (λi=>if i<k+1 then f else 0) w7:=st.step (wC.congr λi _=>by
   unfold over
   by_cases e:k<=i/\i<k+1
   ·rw[if_pos e,if_pos (by omega)]
   rw[if_neg e];show(if i<k then f else 0)=_
   by_cases e2:i<k
   ·rw[if_pos e2,if_pos (by omega)]
   rw[if_neg e2,if_neg (by omega)]) DL
  clear st hB wC DL;go_wp2_with fail;go_roundw
  case rel=>first|exact⟨k+1,by omega,by go_num,jl⟩|exact⟨k+1,by omega,rfl,jl⟩
  simp[intOf];omega
 obtain rfl:k=256:=by omega
 have ec:tJ w b f mg (λ_=>f) wr:=st.congr λi hi=>by rw[if_pos hi]
 have c2:wr.cell? ⟨w.heap.size,2,none⟩=some (.bool mg):=ec.x.cell (i:=2) rfl;clear st;cases mg with
 |false=>
  have HST:=ah ec;have hB:=ec.b;have hR:=ec.r;clear ec;go_wp2_with (first|(refine de rfl (.tmp 3) rfl (w.heap.size+2) (λ_=>f) rfl hB ?_)|(refine bm rfl (.tmp 2) (.tmp 19) rfl (w.heap.size+1) (λ_=>f) _ rfl rfl hR ?_))
  intro w3 yO lS;have Yf:=ah (HST.Z.bel.trans (lS.below (by omega)));clear HST hB hR lS;go_wp2_with fail;exact bodyPost_ret (fI rfl _ _ (w.heap.size+1) _ rfl yO) rfl ⟨rfl,Yf.Z⟩
 |true=>
  have hB:=ec.b;go_wp2_with (first|(refine dA rfl (.tmp 15) (.const (.int .u8 81)) rfl (w.heap.size+2) 0 81 rfl rfl hB (by decide) ?_))
  intro w4 hb4 ke;have ij:=ec.step hb4 ke;have hB4:=ij.b;clear ec hB hb4 ke;go_wp2_with (first|(refine dA rfl (.tmp 16) (.const (.int .u8 74)) rfl (w.heap.size+2) 1 74 rfl rfl hB4 (by decide) ?_))
  intro w5 om wh;have eC:=ij.step om wh;have Is:=eC.b;clear ij hB4 om wh;go_wp2_with (first|(refine dA rfl (.tmp 17) (.const (.int .u8 78)) rfl (w.heap.size+2) 2 78 rfl rfl Is (by decide) ?_))
  intro w6 m4 jo;have eQ:=eC.step m4 jo;have lr:=eQ.b;clear eC Is m4 jo;go_wp2_with (first|(refine dA rfl (.tmp 18) (.const (.int .u8 76)) rfl (w.heap.size+2) 3 76 rfl rfl lr (by decide) ?_))
  intro w7 wC DL;have jl:=(eQ.step wC DL).congr (z':=xW f true) λi _=>by
   unfold xW over;rw[if_pos rfl]
   by_cases e3:i=3
   ·subst e3;rfl
   by_cases e2:i=2
   ·subst e2;rfl
   by_cases e1:i=1
   ·subst e1;rfl
   by_cases e0:i=0
   ·subst e0;rfl
   rw[if_neg (by omega),if_neg (by omega),if_neg (by omega),if_neg (by omega),if_neg (by omega)]
  have HST:=ah jl;have Oh:=jl.b;have hR:=jl.r;clear eQ lr wC DL jl;go_wp2_with (first|(refine de rfl (.tmp 3) rfl (w.heap.size+2) (xW f true) rfl Oh ?_)|(refine bm rfl (.tmp 2) (.tmp 19) rfl (w.heap.size+1) (xW f true) _ rfl rfl hR ?_))
  intro w3 yO lS;have Yf:=ah (HST.Z.bel.trans (lS.below (by omega)));clear HST Oh hR lS;go_wp2_with fail;exact bodyPost_ret (fI rfl _ _ (w.heap.size+1) _ rfl yO) rfl ⟨rfl,Yf.Z⟩
section
variable {L:Nat->Nat->Int} {N:Nat}
end
end Go.Proofs.YtphamecphmbipaaGreatDoor
