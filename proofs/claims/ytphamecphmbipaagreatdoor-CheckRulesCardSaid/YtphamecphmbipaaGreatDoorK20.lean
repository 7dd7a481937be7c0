/- Texts of this claim, merged. -/
import Derived.Test.YtphamecphmbipaaGreatDoorK19
set_option linter.unusedVariables false
namespace Go.Proofs.YtphamecphmbipaaGreatDoor
open Go.RowKit
variable {b t i:Nat} {m:Nat->Bool}
namespace Im
structure Pt where
 i:Nat
 b:Nat
 f:Nat
 l:Nat
def kid(x:Im)(y:Pt)(l k:Nat):Pt:=⟨y.i,x.sJ y.b k,y.f+k*fL l,l⟩
def kids(x:Im)(y:Pt):List Pt:=match y.l with
 |0=>[]
 |l+1=>(List.range 64).map (x.kid y l)
def gA(x:Im)(i:Nat):Nat->Nat->Nat->List Pt
 |0,p,f=>if p=0 then [] else [⟨i,p,f,0⟩]
 |l+1,p,f=>if p=0 then [] else⟨i,p,f,l+1⟩::(List.range 64).flatMap λk=>gA x i l (x.sJ p k) (f+k*fL l)
def oG(x:Im)(q:List Pt):List Pt:=q.flatMap λy=>x.gA y.i y.l y.b y.f
def jk(x:Im)(en:Nat):List Pt->(Nat->Nat)->Option (Nat->Nat)
 |[],o=>some o
 |y::r,o=>if y.f<min en 65536/\x.data y.b=true/\o y.b=0 then jk x en r (af o y.b y.i) else none
def bF:List Pt->Nat->Nat
 |[],_=>0
 |y::r,b=>if y.b=b then y.i else bF r b
def kt:List Pt->Nat->Nat->Nat
 |[],_,_=>0
 |y::r,t,i=>if y.i=t/\y.l=0/\y.f=i then y.b else kt r t i
variable {x:Im}
theorem xB(en:Nat):∀(a b:List Pt) (o:Nat->Nat),x.jk en (a++b) o=(x.jk en a o).bind (x.jk en b)
 |[],b,o=>rfl
 |y::r,b,o=>by
  rw[List.cons_append,jk,jk];split
  ·exact xB en r b _
  ·rfl
theorem rP(en:Nat)(g:Nat->List Pt)(o:Nat->Nat):∀n,aS (λk o=>x.jk en (g k) o) n o=x.jk en ((List.range n).flatMap g) o
 |0=>rfl
 |n+1=>by
  rw[aS,rP en g o n,List.range_succ,List.flatMap_append,xB]
  congr 1
  funext o'
  rw[List.flatMap_cons,List.flatMap_nil,List.append_nil]
theorem xV(t en:Nat):∀(l p f:Nat) (o:Nat->Nat),x.ek t l p f en o=x.jk en (x.gA t l p f) o
 |0,p,f,o=>by
  rw[ek,gA]
  by_cases h0:p=0
  ·rw[if_pos h0,if_pos h0];rfl
  ·rw[if_neg h0,if_neg h0];rfl
 |l+1,p,f,o=>by
  rw[ek,gA]
  by_cases h0:p=0
  ·rw[if_pos h0,if_pos h0];rfl
  ·rw[if_neg h0,if_neg h0,jk]
   by_cases hc:f<min en 65536/\x.data p=true/\o p=0
   ·rw[if_pos hc,if_pos hc,<-rP]
    exact pa (λk hk o'=>xV t en l _ _ o') _
   ·rw[if_neg hc,if_neg hc]
theorem Cu{α:Type}(o:Nat->α){a:Nat}(h:a≠b)(u v:α):af (af o a u) b v=af (af o b v) a u:=by
 funext c
 unfold af
 by_cases h1:c=b
 ·rw[if_pos h1]
  by_cases h2:c=a
  ·exact absurd (h2.symm.trans h1) h
  ·rw[if_neg h2,if_pos h1]
 ·rw[if_neg h1]
  by_cases h2:c=a
  ·rw[if_pos h2,if_pos h2]
  ·rw[if_neg h2,if_neg h2,if_neg h1]
theorem CN(en:Nat){a b:List Pt}(h:a.Perm b):(∀y∈a,y.i≠0)->∀o,x.jk en a o=x.jk en b o:=by
 induction h with
 |nil=>intro _ o;rfl
 |cons y _ ih=>
  intro hi o;rw[jk,jk];rw[ih (λz hz=>hi z (List.mem_cons_of_mem _ hz))]
 |swap y z l=>
  intro hi o;have hy:y.i≠0:=hi y (by simp);have hz:z.i≠0:=hi z (by simp);have key:∀{A B:Pt},A.i≠0->(A.f<min en 65536/\x.data A.b=true/\o A.b=0)->(B.f<min en 65536/\x.data B.b=true/\af o A.b A.i B.b=0)->A.b≠B.b/\(B.f<min en 65536/\x.data B.b=true/\o B.b=0):=λ{A B} hA h1 h2=>by
   have hne:A.b≠B.b:=λe=>by
    have:=h2.2.2;unfold af at this;rw[if_pos e.symm] at this;exact hA this
   refine⟨hne,h2.1,h2.2.1,?_⟩;have:=h2.2.2;unfold af at this;rwa[if_neg (λe=>hne e.symm)] at this
  have Qb:∀{A B:Pt},A.b≠B.b->(A.f<min en 65536/\x.data A.b=true/\o A.b=0)->(A.f<min en 65536/\x.data A.b=true/\af o B.b B.i A.b=0):=λ{A B} hne h1=>by
   refine⟨h1.1,h1.2.1,?_⟩;unfold af;rw[if_neg hne];exact h1.2.2
  simp only[jk]
  by_cases c1:z.f<min en 65536/\x.data z.b=true/\o z.b=0
  ·rw[if_pos c1]
   by_cases c2:y.f<min en 65536/\x.data y.b=true/\af o z.b z.i y.b=0
   ·rw[if_pos c2]
    obtain⟨hne,c3⟩:=key hz c1 c2;rw[if_pos c3,if_pos (Qb hne c1),Cu o hne]
   ·rw[if_neg c2]
    by_cases c3:y.f<min en 65536/\x.data y.b=true/\o y.b=0
    ·rw[if_pos c3,if_neg]
     intro c4;obtain⟨hne,_⟩:=key hy c3 c4;exact c2 (Qb hne c3)
    ·rw[if_neg c3]
  ·rw[if_neg c1]
   by_cases c3:y.f<min en 65536/\x.data y.b=true/\o y.b=0
   ·rw[if_pos c3,if_neg]
    intro c4;exact c1 (key hy c3 c4).2
   ·rw[if_neg c3]
 |trans h1 _ ih1 ih2=>
  intro hi o;rw[ih1 hi,ih2 (λy hy=>hi y (h1.mem_iff.2 hy))]
theorem v8(t:Nat):∀(l p f:Nat),∀y∈x.gA t l p f,y.i=t
 |0,p,f,y,hy=>by
  rw[gA] at hy;split at hy
  ·cases hy
  ·rw[List.mem_singleton] at hy;rw[hy]
 |l+1,p,f,y,hy=>by
  rw[gA] at hy;split at hy
  ·cases hy
  ·rcases List.mem_cons.1 hy with h|h
   ·rw[h]
   ·obtain⟨k,_,hk⟩:=List.mem_flatMap.1 h
    exact v8 t l _ _ y hk
theorem Gr(t:Nat):∀(l p f:Nat),∀y∈x.gA t l p f,y.b≠0
 |0,p,f,y,hy=>by
  rw[gA] at hy;split at hy
  ·cases hy
  ·rename_i h;rw[List.mem_singleton] at hy;rw[hy];exact h
 |l+1,p,f,y,hy=>by
  rw[gA] at hy;split at hy
  ·cases hy
  ·rename_i h0
   rcases List.mem_cons.1 hy with h|h
   ·rw[h];exact h0
   ·obtain⟨k,_,hk⟩:=List.mem_flatMap.1 h
    exact Gr t l _ _ y hk
theorem JU(a b:List Pt):x.oG (a++b)=x.oG a++x.oG b:=List.flatMap_append
theorem uh(y:Pt)(h:y.b≠0):x.gA y.i y.l y.b y.f=y::x.oG (x.kids y):=by
 obtain⟨i,b,f,l⟩:=y;cases l with
 |zero=>show(if b=0 then _ else _)=_;rw[if_neg h];rfl
 |succ l=>
  show(if b=0 then _ else _)=_;rw[if_neg h];show _=_::((List.range 64).map _).flatMap _;rw[List.flatMap_map];rfl
theorem yI{y:Pt}(h:y.b=0)(r:List Pt):x.oG (y::r)=x.oG r:=by
 show x.gA y.i y.l y.b y.f++x.oG r=_;have:x.gA y.i y.l y.b y.f=[]:=by
  rw[h];cases y.l<;>(rw[gA];exact if_pos rfl)
 rw[this];rfl
structure oL(x:Im)(en t:Nat)(ALL:List Pt)(R:Option (Nat->Nat))(todo Q:List Pt):Prop where
 run:x.jk en (x.oG todo) (bF Q)=R
 all:(Q++x.oG todo).Perm ALL
 own:∀y∈todo,y.i=t
 pos:∀y∈Q,y.i≠0
 Pb:∀y∈Q,x.data y.b=true
 K2:aE (λb=>bF Q b !=0) x.n=Q.length
 len:todo.length<=11+64*Q.length
theorem Fi(Q:List Pt)(y:Pt)(h:bF Q y.b=0)(hp:∀z∈Q,z.i≠0):bF (Q++[y])=af (bF Q) y.b y.i:=by
 funext b
 induction Q with
 |nil=>
  show(if y.b=b then y.i else 0)=if b=y.b then y.i else 0;by_cases e:y.b=b
  ·rw[if_pos e,if_pos e.symm]
  ·rw[if_neg e,if_neg (λh=>e h.symm)]
 |cons z Q ih=>
  have hz:=hp z (by simp);have h0:¬z.b=y.b:=λe=>by rw[bF,if_pos e] at h;exact hz h
  have h1:bF Q y.b=0:=by rw[bF,if_neg h0] at h;exact h
  have:=ih h1 (λw hw=>hp w (List.mem_cons_of_mem _ hw));rw[List.cons_append,bF,this];unfold af;rw[bF]
  by_cases e:b=y.b
  ·rw[if_pos e,if_pos e,if_neg (by rw[e];exact h0)]
  ·rw[if_neg e,if_neg e]
theorem BS(h:x.data b=true):b<x.n:=by
 unfold data at h;rw[Bool.and_eq_true,Bool.and_eq_true,decide_eq_true_eq,decide_eq_true_eq] at h;exact h.2.1
section
variable {en t:Nat} {ALL:List Pt} {R:Option (Nat->Nat)} {todo Q:List Pt} {y:Pt}
theorem oL.skip(h:oL x en t ALL R (y::todo) Q)(h0:y.b=0):oL x en t ALL R todo Q:=
 ⟨by rw[<-yI h0];exact h.run,by rw[<-yI h0];exact h.all,λz hz=>h.own z (List.mem_cons_of_mem _ hz),h.pos,h.Pb,h.K2,by have:=h.len;simp at this;omega⟩
theorem oL.bad(h:oL x en t ALL R (y::todo) Q)(h0:y.b≠0)(hc:¬(y.f<min en 65536/\x.data y.b=true/\bF Q y.b=0)):R=none:=by
 rw[<-h.run];show x.jk en (x.gA y.i y.l y.b y.f++x.oG todo) _=none;rw[uh y h0,List.cons_append,jk,if_neg hc]
theorem x7(y:Pt):(x.kids y).length<=64:=by
 unfold kids;split
 ·simp
 ·simp
theorem FH(y:Pt):∀z∈x.kids y,z.i=y.i:=by
 intro z hz;unfold kids at hz;split at hz
 ·cases hz
 ·obtain⟨k,_,rfl⟩:=List.mem_map.1 hz
  rfl
theorem oL.WK(h:oL x en t ALL R (y::todo) Q)(ht:t≠0)(h0:y.b≠0)(hc:y.f<min en 65536/\x.data y.b=true/\bF Q y.b=0):oL x en t ALL R (todo++x.kids y) (Q++[y]):=by
 have SU:y.i=t:=h.own y (by simp);have hu:=Fi Q y hc.2.2 h.pos;have e:x.oG (y::todo)=y::(x.oG (x.kids y)++x.oG todo):=by
  show x.gA y.i y.l y.b y.f++x.oG todo=_;rw[uh y h0];rfl
 have hP:(x.oG (x.kids y)++x.oG todo).Perm (x.oG (todo++x.kids y)):=by
  rw[JU];exact List.perm_append_comm
 have hI:∀z∈x.oG (x.kids y)++x.oG todo,z.i≠0:=by
  intro z hz;have:z.i=t:=by
   rcases List.mem_append.1 hz with hz|hz
   ·obtain⟨a,ha,hz⟩:=List.mem_flatMap.1 hz
    rw[v8 _ _ _ _ z hz,FH y a ha,SU]
   ·obtain⟨a,ha,hz⟩:=List.mem_flatMap.1 hz
    rw[v8 _ _ _ _ z hz];exact h.own a (List.mem_cons_of_mem _ ha)
  rw[this];exact ht
 have hrun:=h.run;rw[e,jk,if_pos hc,<-hu,CN en hP hI] at hrun;refine⟨hrun,?_,?_,?_,?_,?_,?_⟩
 ·have h1:=h.all
  rw[e] at h1;refine List.Perm.trans ?_ h1;rw[List.append_assoc];exact List.Perm.append_left _ (List.Perm.cons _ hP.symm)
 ·intro z hz
  rcases List.mem_append.1 hz with hz|hz
  ·exact h.own z (List.mem_cons_of_mem _ hz)
  ·rw[FH y z hz,SU]
 ·intro z hz
  rcases List.mem_append.1 hz with hz|hz
  ·exact h.pos z hz
  ·rw[List.mem_singleton] at hz;rw[hz,SU];exact ht
 ·intro z hz
  rcases List.mem_append.1 hz with hz|hz
  ·exact h.Pb z hz
  ·rw[List.mem_singleton] at hz;rw[hz];exact hc.2.1
 ·have h1:(λb=>bF (Q++[y]) b !=0)=af (λb=>bF Q b !=0) y.b true:=by
   funext b
   rw[hu];unfold af
   by_cases eb:b=y.b
   ·rw[if_pos eb,if_pos eb,SU];simp[ht]
   ·rw[if_neg eb,if_neg eb]
  rw[h1,fH (BS hc.2.1) (by rw[hc.2.2];rfl),h.K2,List.length_append];rfl
 ·have h1:=h.len
  have h2:=x7 (x:=x) y;simp only[List.length_append,List.length_cons,List.length_nil] at h1 ⊢;omega
theorem oL.Mx(h:oL x en t ALL R todo Q):Q.length<=x.n:=by rw[<-h.K2];exact eF _ _
end
def tH(x:Im)(t:Nat):List Pt:=(List.range 11).map λq=>⟨t,((x.ino t).p q).toNat,fst q,lvl q⟩
def rS(x:Im)(t:Nat):List Pt:=if(x.ino t).kind=0 then [] else x.oG (x.tH t)
def yH(x:Im)(n:Nat):List Pt:=(List.range n).flatMap λt=>x.rS (t+1)
theorem Cv(m:Nat->Bool)(t:Nat)(o:Nat->Nat):x.fP m t o=x.jk (x.en m t) (x.rS t) o:=by
 unfold fP rS;split
 ·rfl
 ·unfold oG tH
  rw[List.flatMap_map,<-rP];exact pa (λq _ o'=>xV t _ _ _ _ o') _
theorem KR(t:Nat):∀y∈x.tH t,y.i=t:=by
 intro y hy;obtain⟨k,_,rfl⟩:=List.mem_map.1 hy
 rfl
theorem NQ(t:Nat):∀y∈x.rS t,y.i=t:=by
 intro y hy;unfold rS at hy;split at hy
 ·cases hy
 ·obtain⟨a,ha,hy⟩:=List.mem_flatMap.1 hy
  rw[v8 _ _ _ _ y hy,KR t a ha]
structure iz(x:Im)(m:Nat->Bool)(n:Nat)(Q:List Pt):Prop where
 run:aS (λt o=>x.fP m (t+1) o) n (λ_=>0)=some (bF Q)
 all:Q.Perm (x.yH n)
 pos:∀y∈Q,y.i≠0
 Pb:∀y∈Q,x.data y.b=true
 K2:aE (λb=>bF Q b !=0) x.n=Q.length
theorem iz.zero(m:Nat->Bool):iz x m 0 []:=by
 refine⟨rfl,List.Perm.refl _,λy h=>by(cases h),λy h=>(by cases h),?_⟩;have:∀n,aE (λb=>bF [] b !=0) n=0:=λn=>by
  induction n with
  |zero=>rfl
  |succ n ih=>rw[aE,ih];rfl
 rw[this];rfl
theorem ui(n:Nat):x.yH (n+1)=x.yH n++x.rS (n+1):=by
 unfold yH;rw[List.range_succ,List.flatMap_append,List.flatMap_cons,List.flatMap_nil,List.append_nil]
theorem iz.free{n:Nat}{Q:List Pt}(h:iz x m n Q)(hk:(x.ino (n+1)).kind=0):iz x m (n+1) Q:=
 ⟨bA h.run (by unfold fP;rw[if_pos hk]),by rw[ui];unfold rS;rw[if_pos hk,List.append_nil];exact h.all,h.pos,h.Pb,h.K2⟩
theorem iz.begin{n:Nat}{Q:List Pt}(h:iz x m n Q)(hk:(x.ino (n+1)).kind≠0):oL x (x.en m (n+1)) (n+1) (x.yH (n+1)) (x.fP m (n+1) (bF Q)) (x.tH (n+1)) Q:=by
 have he:x.rS (n+1)=x.oG (x.tH (n+1)):=by unfold rS;rw[if_neg hk]
 refine⟨by rw[Cv,he],?_,KR _,h.pos,h.Pb,h.K2,by unfold tH;simp⟩;rw[ui,he];exact List.Perm.append_right _ h.all
theorem iz.done{n:Nat}{Q Q':List Pt}(h:iz x m n Q)(hi:oL x (x.en m (n+1)) t (x.yH (n+1)) (x.fP m (n+1) (bF Q)) [] Q'):iz x m (n+1) Q':=by
 have h1:=hi.all;have e:x.oG []=[]:=rfl;rw[e,List.append_nil] at h1;exact⟨bA h.run hi.run.symm,h1,hi.pos,hi.Pb,hi.K2⟩
theorem iz.none{n:Nat}{Q:List Pt}(h:iz x m n Q)(hn:n<x.ni)(hr:x.fP m (n+1) (bF Q)=none):x.trees m=none:=cV h.run hr hn
theorem jY(t p f:Nat)(y:Pt):(y∈x.gA t 0 p f/\y.l=0)↔(p≠0/\y=⟨t,p,f,0⟩):=by
 rw[gA]
 by_cases h:p=0
 ·rw[if_pos h];exact⟨λh=>(by cases h.1),λh'=>absurd h h'.1⟩
 ·rw[if_neg h,List.mem_singleton]
  exact⟨λh'=>⟨h,h'.1⟩,λh'=>⟨h'.2,by rw[h'.2]⟩⟩
theorem mH(t l p f:Nat)(y:Pt):(y∈x.gA t (l+1) p f/\y.l=0)↔(p≠0/\∃k,k<64/\(y∈x.gA t l (x.sJ p k) (f+k*fL l)/\y.l=0)):=by
 rw[gA]
 by_cases h:p=0
 ·rw[if_pos h];exact⟨λh=>(by cases h.1),λh'=>absurd h h'.1⟩
 ·rw[if_neg h,List.mem_cons,List.mem_flatMap]
  constructor
  ·rintro⟨h1|⟨k,hk,h1⟩,h2⟩
   ·rw[h1] at h2;cases h2
   ·exact⟨h,k,List.mem_range.1 hk,h1,h2⟩
  ·rintro⟨_,k,hk,h1,h2⟩
   exact⟨.inr ⟨k,List.mem_range.2 hk,h1⟩,h2⟩
theorem ly{k:Nat}(h:b≠0):x.step b k=x.sJ b k:=by unfold step;rw[if_neg h]
theorem n8(k:Nat):x.step 0 k=0:=by unfold step;rw[if_pos rfl]
theorem By(t p f:Nat)(y:Pt):(y∈x.gA t 1 p f/\y.l=0)↔∃k,k<64/\[k].foldl x.step p≠0/\y=⟨t,[k].foldl x.step p,f+k,0⟩:=by
 rw[mH];constructor
 ·rintro⟨h,k,hk,h1⟩
  obtain⟨h2,h3⟩:=(jY _ _ _ _).1 h1;refine⟨k,hk,?_⟩;show x.step p k≠0/\y=⟨t,x.step p k,f+k,0⟩;rw[ly h];exact⟨h2,by rw[h3];unfold fL;rw[Nat.pow_zero,Nat.mul_one]⟩
 ·rintro⟨k,hk,h1,h2⟩
  replace h1:x.step p k≠0:=h1
  replace h2:y=⟨t,x.step p k,f+k,0⟩:=h2
  have h:p≠0:=λe=>by rw[e,n8] at h1;exact h1 rfl
  rw[ly h] at h1 h2;exact⟨h,k,hk,(jY _ _ _ _).2 ⟨h1,by rw[h2];unfold fL;rw[Nat.pow_zero,Nat.mul_one]⟩⟩
theorem Bx(t p f:Nat)(y:Pt):(y∈x.gA t 2 p f/\y.l=0)↔∃a k,a<64/\k<64/\[a,k].foldl x.step p≠0/\y=⟨t,[a,k].foldl x.step p,f+a*64+k,0⟩:=by
 rw[mH];constructor
 ·rintro⟨h,a,ha,h1⟩
  obtain⟨k,hk,h2,h3⟩:=(By _ _ _ _).1 h1;refine⟨a,k,ha,hk,?_⟩;show [k].foldl x.step (x.step p a)≠0/\y=⟨t,[k].foldl x.step (x.step p a),f+a*64+k,0⟩;rw[ly h];exact⟨h2,h3⟩
 ·rintro⟨a,k,ha,hk,h1,h2⟩
  replace h1:[k].foldl x.step (x.step p a)≠0:=h1
  replace h2:y=⟨t,[k].foldl x.step (x.step p a),f+a*64+k,0⟩:=h2
  have h:p≠0:=λe=>by
   rw[e,n8] at h1;exact h1 (n8 (x:=x) k)
  rw[ly h] at h1 h2;exact⟨h,a,ha,(By _ _ _ _).2 ⟨k,hk,h1,h2⟩⟩
theorem Le(t p f:Nat)(y:Pt):(y∈x.gA t 3 p f/\y.l=0)↔∃c a k,c<64/\a<64/\k<64/\[c,a,k].foldl x.step p≠0/\y=⟨t,[c,a,k].foldl x.step p,f+c*4096+a*64+k,0⟩:=by
 rw[mH];constructor
 ·rintro⟨h,c,hc,h1⟩
  obtain⟨a,k,ha,hk,h2,h3⟩:=(Bx _ _ _ _).1 h1;refine⟨c,a,k,hc,ha,hk,?_⟩;show [a,k].foldl x.step (x.step p c)≠0/\y=⟨t,[a,k].foldl x.step (x.step p c),f+c*4096+a*64+k,0⟩;rw[ly h];exact⟨h2,h3⟩
 ·rintro⟨c,a,k,hc,ha,hk,h1,h2⟩
  replace h1:[a,k].foldl x.step (x.step p c)≠0:=h1
  replace h2:y=⟨t,[a,k].foldl x.step (x.step p c),f+c*4096+a*64+k,0⟩:=h2
  have h:p≠0:=λe=>by
   rw[e,n8] at h1;refine h1 ?_;show x.step (x.step 0 a) k=0;rw[n8,n8]
  rw[ly h] at h1 h2;exact⟨h,c,hc,(Bx _ _ _ _).2 ⟨a,k,ha,hk,h1,h2⟩⟩
theorem x5(t i:Nat)(hi:i<65536)(y:Pt):(y∈x.oG (x.tH t)/\y.l=0/\y.f=i)↔(x.blk t i≠0/\y=⟨t,x.blk t i,i,0⟩):=by
 have hm:y∈x.oG (x.tH t)↔∃q,q<11/\y∈x.gA t (lvl q) ((x.ino t).p q).toNat (fst q):=by
  unfold oG tH;rw[List.mem_flatMap];constructor
  ·rintro⟨a,ha,hy⟩
   obtain⟨q,hq,rfl⟩:=List.mem_map.1 ha;exact⟨q,List.mem_range.1 hq,hy⟩
  ·rintro⟨q,hq,hy⟩
   exact⟨_,List.mem_map.2 ⟨q,List.mem_range.2 hq,rfl⟩,hy⟩
 rw[hm];unfold blk;constructor
 ·rintro⟨⟨q,hq,h1⟩,h2,h3⟩
  have h8:q<8\/q=8\/q=9\/q=10:=by omega
  rcases h8 with h8|rfl|rfl|rfl
  ·have e1:lvl q=0:=by unfold lvl;rw[if_pos h8]
   have e2:fst q=q:=by unfold fst;rw[if_pos (by omega)]
   rw[e1,e2] at h1;obtain⟨h4,h5⟩:=(jY _ _ _ _).1 ⟨h1,h2⟩;have SX:q=i:=by rw[h5] at h3;exact h3
   subst SX;rw[show bC q=q by unfold bC;rw[if_pos h8],show bE q=[] by unfold bE;rw[if_pos h8]];exact⟨h4,h5⟩
  ·obtain⟨k,hk,h4,h5⟩:=(By _ _ _ _).1 ⟨h1,h2⟩
   have hik:i=8+k:=by rw[h5] at h3;exact h3.symm
   subst hik;rw[show bC (8+k)=8 by unfold bC;rw[if_neg (by omega),if_pos (by omega)],show bE (8+k)=[k] by unfold bE;rw[if_neg (by omega),if_pos (by omega),show 8+k-8=k by omega]];exact⟨h4,h5⟩
  ·obtain⟨a,k,ha,hk,h4,h5⟩:=(Bx _ _ _ _).1 ⟨h1,h2⟩
   have hik:i=72+a*64+k:=by rw[h5] at h3;exact h3.symm
   subst hik;rw[show bC (72+a*64+k)=9 by unfold bC;rw[if_neg (by omega),if_neg (by omega),if_pos (by omega)],show bE (72+a*64+k)=[a,k] by unfold bE;rw[if_neg (by omega),if_neg (by omega),if_pos (by omega),show(72+a*64+k-72)/64=a by omega,show(72+a*64+k-72)%64=k by omega]];exact⟨h4,h5⟩
  ·obtain⟨c,a,k,hc,ha,hk,h4,h5⟩:=(Le _ _ _ _).1 ⟨h1,h2⟩
   have hik:i=4168+c*4096+a*64+k:=by rw[h5] at h3;exact h3.symm
   subst hik;rw[show bC (4168+c*4096+a*64+k)=10 by unfold bC;rw[if_neg (by omega),if_neg (by omega),if_neg (by omega)],show bE (4168+c*4096+a*64+k)=[c,a,k] by unfold bE;rw[if_neg (by omega),if_neg (by omega),if_neg (by omega),show(4168+c*4096+a*64+k-4168)/4096=c by omega,show(4168+c*4096+a*64+k-4168)%4096/64=a by omega,show(4168+c*4096+a*64+k-4168)%64=k by omega]];exact⟨h4,h5⟩
 ·rintro⟨h1,rfl⟩
  refine⟨⟨bC i,m5 i,?_⟩,rfl,rfl⟩
  by_cases c1:i<8
  ·have e1:bC i=i:=by unfold bC;rw[if_pos c1]
   have e2:bE i=[]:=by unfold bE;rw[if_pos c1]
   rw[e1,e2] at h1 ⊢;rw[show lvl i=0 by unfold lvl;rw[if_pos c1],show fst i=i by unfold fst;rw[if_pos (by omega)]];exact((jY _ _ _ _).2 ⟨h1,rfl⟩).1
  by_cases c2:i<72
  ·have e1:bC i=8:=by unfold bC;rw[if_neg c1,if_pos c2]
   have e2:bE i=[i-8]:=by unfold bE;rw[if_neg c1,if_pos c2]
   rw[e1,e2] at h1 ⊢;exact((By _ _ _ _).2 ⟨i-8,by omega,h1,by rw[show fst 8+(i-8)=i by show 8+(i-8)=i;omega]⟩).1
  by_cases c3:i<4168
  ·have e1:bC i=9:=by unfold bC;rw[if_neg c1,if_neg c2,if_pos c3]
   have e2:bE i=[(i-72)/64,(i-72)%64]:=by unfold bE;rw[if_neg c1,if_neg c2,if_pos c3]
   rw[e1,e2] at h1 ⊢;exact((Bx _ _ _ _).2 ⟨(i-72)/64,(i-72)%64,by omega,by omega,h1,by rw[show fst 9+(i-72)/64*64+(i-72)%64=i by show 72+(i-72)/64*64+(i-72)%64=i;omega]⟩).1
  ·have e1:bC i=10:=by unfold bC;rw[if_neg c1,if_neg c2,if_neg c3]
   have e2:bE i=[(i-4168)/4096,(i-4168)%4096/64,(i-4168)%64]:=by unfold bE;rw[if_neg c1,if_neg c2,if_neg c3]
   rw[e1,e2] at h1 ⊢;exact((Le _ _ _ _).2 ⟨(i-4168)/4096,(i-4168)%4096/64,(i-4168)%64,by omega,by omega,by omega,h1,by rw[show fst 10+(i-4168)/4096*4096+(i-4168)%4096/64*64+(i-4168)%64=i by show 4168+(i-4168)/4096*4096+(i-4168)%4096/64*64+(i-4168)%64=i;omega]⟩).1
theorem Ka{Q:List Pt}:kt Q t i≠0->∃y∈Q,y.i=t/\y.l=0/\y.f=i/\y.b=kt Q t i:=by
 induction Q with
 |nil=>intro h;exact absurd rfl h
 |cons z Q ih=>
  intro h;rw[kt] at h ⊢
  by_cases hc:z.i=t/\z.l=0/\z.f=i
  ·rw[if_pos hc];exact⟨z,by simp,hc.1,hc.2.1,hc.2.2,rfl⟩
  ·rw[if_neg hc] at h ⊢
   obtain⟨y,hy,h1⟩:=ih h;exact⟨y,List.mem_cons_of_mem _ hy,h1⟩
theorem NZ{Q:List Pt}(hb:∀y∈Q,y.b≠0):kt Q t i=0->∀y∈Q,¬(y.i=t/\y.l=0/\y.f=i):=by
 induction Q with
 |nil=>intro _ y hy;cases hy
 |cons z Q ih=>
  intro h y hy hc;rw[kt] at h
  by_cases hz:z.i=t/\z.l=0/\z.f=i
  ·rw[if_pos hz] at h;exact hb z (by simp) h
  ·rw[if_neg hz] at h
   rcases List.mem_cons.1 hy with rfl|hy
   ·exact hz hc
   ·exact ih (λw hw=>hb w (List.mem_cons_of_mem _ hw)) h y hy hc
theorem iz.mem{Q:List Pt}(h:iz x m x.ni Q){y:Pt}:y∈Q↔(1<=y.i/\y.i<=x.ni/\(x.ino y.i).kind≠0/\y∈x.oG (x.tH y.i)):=by
 rw[h.all.mem_iff];unfold yH;rw[List.mem_flatMap];constructor
 ·rintro⟨t,ht,hy⟩
  have e:=NQ (t+1) y hy;have:=List.mem_range.1 ht;unfold rS at hy;split at hy
  ·cases hy
  ·rename_i hk
   rw[e];exact⟨by omega,by omega,hk,hy⟩
 ·rintro⟨h1,h2,h3,h4⟩
  refine⟨y.i-1,List.mem_range.2 (by omega),?_⟩;rw[show y.i-1+1=y.i by omega];unfold rS;rw[if_neg h3];exact h4
theorem iz.blk{Q:List Pt}(h:iz x m x.ni Q)(h1:1<=t)(h2:t<=x.ni)(hk:(x.ino t).kind≠0)(hi:i<65536):kt Q t i=x.blk t i:=by
 have hb:∀y∈Q,y.b≠0:=λy hy=>by
  obtain⟨_,_,_,h4⟩:=h.mem.1 hy;obtain⟨a,_,ha⟩:=List.mem_flatMap.1 h4;exact Gr _ _ _ _ y ha
 by_cases hz:kt Q t i=0
 ·rw[hz]
  have hno:=NZ hb hz
  by_cases h0:x.blk t i=0
  ·exact h0.symm
  ·exfalso
   obtain⟨h3,h4⟩:=(x5 t i hi ⟨t,x.blk t i,i,0⟩).2 ⟨h0,rfl⟩;exact hno _ (h.mem.2 ⟨h1,h2,hk,h3⟩) ⟨rfl,h4⟩
 ·obtain⟨y,hy,e1,e2,e3,e4⟩:=Ka hz
  obtain⟨_,_,_,h4⟩:=h.mem.1 hy;rw[e1] at h4;obtain⟨_,h5⟩:=(x5 t i hi y).1 ⟨h4,e2,e3⟩;rw[<-e4,h5]
end Im
end Go.Proofs.YtphamecphmbipaaGreatDoor
