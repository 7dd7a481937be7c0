/- Texts of this claim, merged. -/
import Derived.Test.YtphamecphmbipaaGreatDoorZ17
set_option linter.unusedVariables false
set_option maxRecDepth 100000
set_option maxHeartbeats 16000000

namespace Go.Proofs.YtphamecphmbipaaGreatDoor
open Go.RowKit
variable {k l t i f v γ r:Nat} {p m:Nat->Bool} {K A B:Int} {x:Im} {m':MS} {bY fe:Nat->Nat} {y:aS} {w:World}
theorem dp{σ:Type}{f:Nat->σ->Option σ}{o a:σ}{n:Nat}(h:a8 f k o=some a)(hf:f k a=none)(hk:k<n):a8 f n o=none:=by
 induction n with
 |zero=>omega
 |succ n ih=>
  rw[a8]
  by_cases e:k=n
  ·subst e;rw[h];exact hf
  rw[ih (by omega)];rfl
theorem bK{σ:Type}{f:Nat->σ->Option σ}{o a b:σ}(h:a8 f k o=some a)(hf:f k a=some b):a8 f (k+1) o=some b:=by
 rw[a8,h];exact hf
theorem sf{σ:Type}{f:Nat->σ->Option σ}{o o':σ}{n:Nat}(h:a8 f n o=some o')(hk:k<n):∃a b,a8 f k o=some a/\f k a=some b:=by
 induction n generalizing o' with
 |zero=>omega
 |succ n ih=>
  rw[a8] at h;cases ha:a8 f n o with
  |none=>rw[ha] at h;cases h
  |some a=>
   rw[ha] at h
   by_cases e:k=n
   ·subst e;exact⟨a,o',ha,h⟩
   exact ih ha (by omega)
theorem iC{σ:Type}{P:Nat->σ->Prop}{f:Nat->σ->Option σ}{o o':σ}{n:Nat}(h:a8 f n o=some o')(h0:P 0 o)(hs:∀k a b,k<n->P k a->f k a=some b->P (k+1) b):P n o':=by
 induction n generalizing o' with
 |zero=>injection h with h;exact h▸h0
 |succ n ih=>
  rw[a8] at h;cases ha:a8 f n o with
  |none=>rw[ha] at h;cases h
  |some a=>rw[ha] at h;exact hs n a o' (by omega) (ih ha λk a b hk=>hs k a b (by omega)) h
theorem eT(p:Nat->Bool)(n:Nat):aL p n<=n:=by
 induction n with
 |zero=>exact Nat.le_refl _
 |succ n ih=>rw[aL];split<;>omega
theorem fY{n:Nat}(hk:k<n)(h:p k=false):aL (ak p k true) n=aL p n+1:=by
 induction n with
 |zero=>omega
 |succ n ih=>
  rw[aL,aL]
  by_cases e:k=n
  ·subst e
   rw[sw (q:=p) λi hi=>by unfold ak;rw[if_neg (by omega)]];have:ak p k true k=true:=by unfold ak;rw[if_pos rfl]
   rw[this,h,if_pos rfl,if_neg (by decide)]
  have:ak p k true n=p n:=by unfold ak;rw[if_neg (by omega)]
  rw[ih (by omega),this];omega
namespace Im
variable {x:Im}
def okW(x:Im):Nat->Nat->Prop
 |0,p=>p=0\/x.data p=true
 |l+1,p=>p=0\/(x.data p=true/\∀k,k<64->okW x l (x.sX p k))
theorem okW.lt{p:Nat}(h:x.okW l p)(h0:p≠0):p<x.n:=by
 have hd:x.data p=true:=by
  cases l with
  |zero=>exact h.resolve_left h0
  |succ l=>exact(h.resolve_left h0).1
 unfold data at hd;rw[Bool.and_eq_true,Bool.and_eq_true,decide_eq_true_eq,decide_eq_true_eq] at hd;exact hd.2.1
theorem BA(t:Nat):∀(l p first en:Nat) (o o':Nat->Nat),x.eF t l p first en o=some o'->x.okW l p
 |0,p,first,en,o,o',h=>by
  rw[eF] at h
  by_cases h0:p=0
  ·exact .inl h0
  rw[if_neg h0] at h
  by_cases hc:first<min en 65536/\x.data p=true/\o p=0
  ·exact .inr hc.2.1
  rw[if_neg hc] at h;cases h
 |l+1,p,first,en,o,o',h=>by
  rw[eF] at h
  by_cases h0:p=0
  ·exact .inl h0
  rw[if_neg h0] at h
  by_cases hc:first<min en 65536/\x.data p=true/\o p=0
  ·rw[if_pos hc] at h
   refine .inr ⟨hc.2.1,λk hk=> ?_⟩;obtain⟨a,b,_,hb⟩:=sf h hk;exact BA t l _ _ _ a b hb
  rw[if_neg hc] at h;cases h
def Tree(x:Im)(t:Nat):Prop:=∀q,q<11->x.okW (lvl q) ((x.ino t).p q).toNat
theorem xD{o:Nat->Nat}(h:x.trees m=some o)(h1:1<=t)(h2:t<=x.ni)(hk:(x.ino t).kind≠0):x.Tree t:=by
 obtain⟨a,b,_,hb⟩:=sf h (k:=t-1) (by omega);rw[show t-1+1=t by omega] at hb;unfold gk at hb;rw[if_neg hk] at hb;intro q hq;obtain⟨a',b',_,hb'⟩:=sf hb hq;exact BA t _ _ _ _ _ _ hb'
theorem EO{p:Nat}(h:x.okW l p):∀(ws:List Nat),ws.length<=l->(∀k,k∈ws->k<64)->x.okW (l-ws.length) (ws.foldl x.step p):=by
 intro ws
 induction ws generalizing l p with
 |nil=>intro _ _;exact h
 |cons k ws ih=>
  intro hl hk;rw[List.length_cons] at hl ⊢;obtain⟨l,rfl⟩:∃l',l=l'+1:=⟨l-1,by omega⟩;rw[show l+1-(ws.length+1)=l-ws.length by omega,List.foldl_cons];refine ih ?_ (by omega) λk' hk'=>hk k' (List.mem_cons_of_mem _ hk')
  unfold step;split
  ·cases l with
   |zero=>exact .inl rfl
   |succ l=>exact .inl rfl
  rename_i h0;exact(h.resolve_left h0).2 k (hk k (List.mem_cons_self ..))
theorem nw(i:Nat):bL i<11:=by unfold bL;split<;>(try split)<;>(try split)<;>omega
theorem kO(i:Nat):(bM i).length=lvl (bL i):=by
 unfold bM bL lvl
 by_cases h1:i<8
 ·rw[if_pos h1,if_pos h1,if_pos h1];rfl
 rw[if_neg h1,if_neg h1]
 by_cases h2:i<72
 ·rw[if_pos h2,if_pos h2];rfl
 rw[if_neg h2,if_neg h2]
 by_cases h3:i<4168
 ·rw[if_pos h3,if_pos h3];rfl
 rw[if_neg h3,if_neg h3];rfl
theorem qc(hi:i<65536):∀k,k∈bM i->k<64:=by
 intro k hk;unfold bM at hk;split at hk
 ·cases hk
 split at hk
 ·simp only[List.mem_singleton] at hk;omega
 split at hk
 ·simp only[List.mem_cons,List.not_mem_nil,or_false] at hk;omega
 simp only[List.mem_cons,List.not_mem_nil,or_false] at hk;omega
theorem G6(h:x.Tree t)(hi:i<65536)(h0:x.blk t i≠0):x.blk t i<x.n:=by
 have:=EO (h (bL i) (nw i)) (bM i) (Nat.le_of_eq (kO i)) (qc hi);exact okW.lt this h0
theorem ue(h0:t≠0)(h1:t<=x.ni)(h2:m t=false)(h3:(x.ino t).kind=1):x.oL (f+1) t m=x.oL f (x.ino t).next.toNat (ak m t true):=by
 rw[oL,if_neg h0,if_pos ⟨h1,h2,h3⟩]
theorem BH(h0:t≠0)(h:¬(t<=x.ni/\m t=false/\(x.ino t).kind=1)):x.oL (f+1) t m=none:=by
 rw[oL,if_neg h0,if_neg h]
end Im
theorem cr{F S P K' A' F' S' P':Int}(h:aP K A F S P=aP K' A' F' S' P'):K=K'/\A=A'/\F=F'/\S=S'/\P=P':=by
 simp only[aP] at h;simp only[Array.mk.injEq] at h;simp only[List.cons.injEq,Value.int.injEq,true_and,and_true] at h;exact h
theorem zZ(hx:x.Ok)(hv:v<x.n)(h:lC x.g x.s x.i x.j v K A B):
  (v<2+x.j/\1<=K/\K<=3)\/∃γ r:Nat,γ<x.g/\r<x.s/\v=x.st γ+r/\A=(γ:Int)/\B=(r:Int)/\K=if r=0 then 4 else if r=1 then 5 else if r<x.own then 6 else 7:=by
 obtain⟨h1,h2,h3,h4,h5,h6,h7,h8,h9,h10,h11⟩:=dX hx.may;have hn:=hx.n;have e:((x.g*x.s:Nat):Int)=(x.g:Int)*(x.s:Int):=Int.natCast_mul _ _;rcases h with⟨h,_⟩|⟨_,k,Sz,Pl,hk,hp,hlo,hhi,hB⟩
 ·exfalso
  have hnb:pj x.g x.s x.i x.j=2+x.j+x.g*x.s:=by unfold pj;rw[hx.may];rfl
  rw[hnb,<-e,hx.may] at h;rcases h with h|h|h
  ·cases h
  ·omega
  omega
 by_cases h0:k=0
 ·subst h0
  have e1:tu x.s ((x.i:Int)/4) x.j 1=1:=rfl;rw[Nat.zero_add,e1] at hhi;obtain⟨rfl,_⟩:=cr (hp.symm.trans (show pO x.s ((x.i:Int)/4) x.j 0=aP 1 0 0 1 0 from rfl));exact .inl ⟨by omega,by decide,by decide⟩
 by_cases h0:k=1
 ·subst h0
  have e1:tu x.s ((x.i:Int)/4) x.j (1+1)=2:=rfl;rw[e1] at hhi;obtain⟨rfl,_⟩:=cr (hp.symm.trans (show pO x.s ((x.i:Int)/4) x.j 1=aP 2 0 1 1 0 from rfl));exact .inl ⟨by omega,by decide,by decide⟩
 by_cases h0:k=2
 ·subst h0
  have e1:tu x.s ((x.i:Int)/4) x.j (2+1)=2+x.j:=by have:=nY x.s ((x.i:Int)/4) x.j 0;simpa using this
  rw[e1] at hhi;obtain⟨rfl,_⟩:=cr (hp.symm.trans (show pO x.s ((x.i:Int)/4) x.j 2=aP 3 0 2 x.j 0 from rfl));exact .inl ⟨by omega,by decide,by decide⟩
 obtain⟨γ,m,Zf,rfl⟩:∃γ m,m<4/\k=3+4*γ+m:=⟨(k-3)/4,(k-3)%4,by omega,by omega⟩;have hγ:γ<x.g:=by omega
 have eg:((γ*x.s:Nat):Int)=(γ:Int)*(x.s:Int):=Int.natCast_mul _ _;have ei:(x.i:Int)/4=((x.i/4:Nat):Int):=by omega
 have hnx:tu x.s ((x.i:Int)/4) x.j (3+4*γ+m+1)=2+x.j+(γ:Int)*x.s+(if m=0 then 1 else if m=1 then 2 else if m=2 then 2+(x.i:Int)/4 else x.s):=by
  by_cases e3:m=3
  ·subst e3
   have:=nY x.s ((x.i:Int)/4) x.j (γ+1);rw[show 3+4*(γ+1)=3+4*γ+3+1 by omega] at this;rw[this,if_neg (by decide),if_neg (by decide),if_neg (by decide)]
   push_cast
   rw[Int.add_mul,Int.one_mul];omega
  rw[show 3+4*γ+m+1=3+4*γ+(m+1) by omega,mP _ _ _ _ (show m+1<4 by omega)];obtain rfl|rfl|rfl:m=0\/m=1\/m=2:=by omega
  ·rfl
  ·rfl
  rfl
 rw[hnx,<-eg] at hhi;rw[mP _ _ _ _ Zf] at hlo hB hp;rw[<-eg] at hlo hB;rw[vJ _ _ _ _ Zf] at hp;refine .inr ⟨γ,v-x.st γ,hγ,?_,?_,?_,?_,?_⟩
 ·unfold Im.st
  obtain rfl|rfl|rfl|rfl:m=0\/m=1\/m=2\/m=3:=by omega
  all_goals simp at hhi hlo;omega
 ·unfold Im.st
  obtain rfl|rfl|rfl|rfl:m=0\/m=1\/m=2\/m=3:=by omega
  all_goals simp at hhi hlo;omega
 ·obtain rfl|rfl|rfl|rfl:m=0\/m=1\/m=2\/m=3:=by omega
  ·rw[if_pos rfl] at hp;exact(cr hp).2.1.symm
  ·rw[if_neg (by decide),if_pos rfl] at hp;exact(cr hp).2.1.symm
  ·rw[if_neg (by decide),if_neg (by decide),if_pos rfl] at hp;exact(cr hp).2.1.symm
  rw[if_neg (by decide),if_neg (by decide),if_neg (by decide)] at hp;exact(cr hp).2.1.symm
 ·unfold Im.st
  obtain rfl|rfl|rfl|rfl:m=0\/m=1\/m=2\/m=3:=by omega
  ·rw[if_pos rfl] at hp;have:=(cr hp).2.2.2.2;simp at hhi hlo hB;omega
  ·rw[if_neg (by decide),if_pos rfl] at hp;have:=(cr hp).2.2.2.2;simp at hhi hlo hB;omega
  ·rw[if_neg (by decide),if_neg (by decide),if_pos rfl] at hp;have:=(cr hp).2.2.2.2;simp at hhi hlo hB;omega
  rw[if_neg (by decide),if_neg (by decide),if_neg (by decide)] at hp;have:=(cr hp).2.2.2.2;simp at hhi hlo hB;omega
 unfold Im.st Im.own;obtain rfl|rfl|rfl|rfl:m=0\/m=1\/m=2\/m=3:=by omega
 ·rw[if_pos rfl] at hp;have:=(cr hp).1;simp at hhi hlo
  rw[if_pos (by omega)];exact this.symm
 ·rw[if_neg (by decide),if_pos rfl] at hp;have:=(cr hp).1;simp at hhi hlo
  rw[if_neg (by omega),if_pos (by omega)];exact this.symm
 ·rw[if_neg (by decide),if_neg (by decide),if_pos rfl] at hp;have:=(cr hp).1;simp at hhi hlo
  rw[if_neg (by omega),if_neg (by omega),if_pos (by omega)];exact this.symm
 rw[if_neg (by decide),if_neg (by decide),if_neg (by decide)] at hp;have:=(cr hp).1;simp at hhi hlo;rw[if_neg (by omega),if_neg (by omega),if_neg (by omega)];exact this.symm
theorem qT(hr:r<x.s):(x.st γ+r-(2+x.j))%x.s=r/\(x.st γ+r-(2+x.j))/x.s=γ:=by
 unfold Im.st;rw[show 2+x.j+γ*x.s+r-(2+x.j)=r+x.s*γ by rw[Nat.mul_comm];omega];exact⟨by rw[Nat.add_mul_mod_self_left,Nat.mod_eq_of_lt hr],by rw[Nat.add_mul_div_left _ _ (by omega),Nat.div_eq_of_lt hr,Nat.zero_add]⟩
theorem wJ(hx:x.Ok)(hγ:γ<x.g)(hr:r<x.s):x.data (x.st γ+r)=decide (x.own<=r):=by
 have h1:=hx.st hγ hr;unfold Im.data;rw[(qT hr).1];have:2+x.j<=x.st γ+r:=by unfold Im.st;omega
 simp[this,h1]
theorem CG(hx:x.Ok)(hv:v<x.n)(h:lC x.g x.s x.i x.j v K A B):(K==7)=x.data v:=by
 rcases zZ hx hv h with⟨h1,h2,h3⟩|⟨γ,r,hγ,hr,rfl,_,_,hK⟩
 ·unfold Im.data
  have:¬2+x.j<=v:=by omega
  simp[this];omega
 rw[wJ hx hγ hr,hK];unfold Im.own
 by_cases h0:r=0
 ·subst h0;simp
 by_cases h1:r=1
 ·subst h1;simp;omega
 by_cases h2:r<2+x.i/4
 ·rw[if_neg h0,if_neg h1,if_pos h2];simp;omega
 rw[if_neg h0,if_neg h1,if_neg h2];simp;omega
theorem tP(z:Nat->Int)(i:Nat):bu (qM z i):=Bc _
namespace MS
variable {x:Im}
structure Wf(x:Im)(m:MS)(bY:Nat->Nat):Prop where
 jx:∀b,bu (m.L b)
 zero:∀b,m.next<=b->x.data b=true->∀k,m.L b k=0
 ptr:∀b k,x.data b=true->b<m.next->0<bY b->k<64->(cR (m.L b) (4*k)).toNat=0\/(x.data (cR (m.L b) (4*k)).toNat=true/\(cR (m.L b) (4*k)).toNat<m.next/\bY (cR (m.L b) (4*k)).toNat+1=bY b)
 le:m.next<=x.n
def Pt(x:Im)(m:MS)(bY:Nat->Nat)(l v:Nat):Prop:=v=0\/(x.data v=true/\v<m.next/\bY v=l)
structure Ext(x:Im)(m:MS)(bY:Nat->Nat)(m':MS)(fe:Nat->Nat):Prop where
 le:m.next<=m'.next
 bY:∀b,x.data b=true->b<m.next->fe b=bY b
theorem Ext.refl(m:MS)(bY:Nat->Nat):Ext x m bY m bY:=⟨Nat.le_refl _,λ_ _ _=>rfl⟩
theorem Ext.trans{m YO:MS}{LD:Nat->Nat}(h:Ext x m bY m' fe)(k:Ext x m' fe YO LD):Ext x m bY YO LD:=
 ⟨Nat.le_trans h.le k.le,λb hb hn=>(k.bY b hb (Nat.lt_of_lt_of_le hn h.le)).trans (h.bY b hb hn)⟩
theorem Pt.ext{m:MS}(h:Pt x m bY l v)(e:Ext x m bY m' fe):Pt x m' fe l v:=by
 rcases h with h|⟨h1,h2,h3⟩
 ·exact .inl h
 exact .inr ⟨h1,Nat.lt_of_lt_of_le h2 e.le,(e.bY v h1 h2).trans h3⟩
theorem Pt.lt{m:MS}(h:Pt x m bY l v)(h0:v≠0):v<x.n:=by
 rcases h with h|⟨h1,_,_⟩
 ·exact absurd h h0
 unfold Im.data at h1;rw[Bool.and_eq_true,Bool.and_eq_true,decide_eq_true_eq,decide_eq_true_eq] at h1;exact h1.2.1
theorem xF(hs:2<=x.s)(l:Nat):∀(f:Nat) (m:MS) (bY:Nat->Nat),m.Wf x bY->m.next+f<=x.n->∃fe,(gl x f m).2.Wf x fe/\Ext x m bY (gl x f m).2 fe/\Pt x (gl x f m).2 fe l (gl x f m).1
 |0,m,bY,h,hf=>⟨bY,h,.refl _ _,.inl rfl⟩
 |f+1,m,bY,h,hf=>by
  rw[gl]
  by_cases hd:x.data m.next=true
  ·rw[if_pos hd]
   refine⟨ak bY m.next l,⟨λb=> ?_,λb hb qp k=> ?_,λb k qp hb hl hk=> ?_,by show m.next+1<=x.n;omega⟩,⟨by show m.next<=m.next+1;omega,λb qp hb=> ?_⟩,.inr ⟨hd,by show m.next<m.next+1;omega,if_pos rfl⟩⟩
   ·show bu (ak m.L _ _ b)
    unfold ak;split
    ·exact tP _ _
    exact h.jx b
   ·show ak m.L _ _ b k=0
    have hne:=Im.B7 (k:=Kf x m.next) (d:=0) qp (by decide) hs;unfold ak;rw[if_neg hne];exact h.zero b (by replace hb:m.next+1<=b:=hb;omega) qp k
   ·have hne:=Im.B7 (k:=Kf x m.next) (d:=0) qp (by decide) hs
    have e:(set x {m with next:=m.next+1} (Kf x m.next) 0 (Lo x m.next)).L b=m.L b:=by
     show ak m.L _ _ b=_;unfold ak;rw[if_neg hne]
    rw[e]
    replace hb:b<m.next+1:=hb
    by_cases ll:b=m.next
    ·left
     subst ll;have z:=h.zero m.next af hd
     unfold cR;rw[z,z,z,z];rfl
    have hl':0<bY b:=by unfold ak at hl;rwa[if_neg ll] at hl
    rcases h.ptr b k qp (by omega) hl' hk with h0|⟨h1,h2,h3⟩
    ·exact .inl h0
    refine .inr ⟨h1,by show _<m.next+1;omega,?_⟩;unfold ak;rw[if_neg ll,if_neg (by omega)];exact h3
   unfold ak;rw[if_neg (by omega)]
  rw[if_neg hd];obtain⟨fe,h1,h2,h3⟩:=xF hs l f {m with next:=m.next+1} bY ⟨h.jx,λb hb=>h.zero b (by replace hb:m.next+1<=b:=hb;omega),λb k qp hb hl hk=>by
   replace hb:b<m.next+1:=hb
   have ll:b≠m.next:=λe=>hd (e▸qp)
   rcases h.ptr b k qp (by omega) hl hk with h0|⟨h1,h2,h3⟩
   ·exact .inl h0
   exact .inr ⟨h1,Nat.lt_succ_of_lt h2,h3⟩,by show m.next+1<=x.n;omega⟩ (by show m.next+1+f<=x.n;omega)
  refine⟨fe,h1,⟨?_,λb qp hb=>h2.bY b qp (by show b<m.next+1;omega)⟩,h3⟩;have:=h2.le
  replace this:m.next+1<=_:=this
  omega
theorem ja(hs:2<=x.s)(l:Nat){m:MS}(h:m.Wf x bY):∃fe,(take x m).2.Wf x fe/\Ext x m bY (take x m).2 fe/\Pt x (take x m).2 fe l (take x m).1:=
 xF hs l _ m bY h (by have:=h.le;omega)
theorem Wf.UT{m:MS}(h:m.Wf x bY){b:Nat}(hb:Pt x m bY 0 b)(h0:b≠0){z:Nat->Int}(hz:bu z):(m.put b z).Wf x bY:=by
 rcases hb with hb|⟨h1,h2,h3⟩
 ·exact absurd hb h0
 refine⟨λc=> ?_,λc hc LR k=> ?_,λc k LR hc hl hk=> ?_,h.le⟩
 ·show bu (ak m.L b z c)
  unfold ak;split
  ·exact hz
  exact h.jx c
 ·show ak m.L b z c k=0
  replace hc:m.next<=c:=hc
  unfold ak;rw[if_neg (by omega)];exact h.zero c hc LR k
 have e:(m.put b z).L c=m.L c:=by
  show ak m.L b z c=_;unfold ak;rw[if_neg (λe=>by rw[e,h3] at hl;omega)]
 rw[e];exact h.ptr c k LR hc hl hk
theorem Wf.word{m:MS}(h:m.Wf x bY)(hn:x.n<=2048){b:Nat}(hb:Pt x m bY (l+1) b)(h0:b≠0)(hk:k<64)(hv:Pt x m bY l v):(m.put b (over (m.L b) (4*k) 4 (byteOf (v:Nat)))).Wf x bY:=by
 have Y4:v<2048:=by
  by_cases e:v=0
  ·omega
  have:=hv.lt e;omega
 rcases hb with hb|⟨h1,h2,h3⟩
 ·exact absurd hb h0
 refine⟨λc=> ?_,λc hc LR i=> ?_,λc i LR hc hl hi=> ?_,h.le⟩
 ·show bu (ak m.L b _ c)
  unfold ak;split
  ·exact eO (h.jx _) (mT _) _ _
  exact h.jx c
 ·show ak m.L b _ c i=0
  replace hc:m.next<=c:=hc
  unfold ak;rw[if_neg (by omega)];exact h.zero c hc LR i
 by_cases e:c=b
 ·subst e
  have e1:(m.put c (over (m.L c) (4*k) 4 (byteOf (v:Nat)))).L c=over (m.L c) (4*k) 4 (byteOf (v:Nat)):=if_pos rfl;rw[e1]
  by_cases ei:i=k
  ·subst ei
   rw[GJ _ _ _ (by omega) (by omega),Int.toNat_natCast];rcases hv with hv|⟨v1,v2,v3⟩
   ·exact .inl hv
   exact .inr ⟨v1,v2,by omega⟩
  rw[Kg _ _ _ _ _ (by omega)];exact h.ptr c i LR hc hl hi
 have e1:(m.put b (over (m.L b) (4*k) 4 (byteOf (v:Nat)))).L c=m.L c:=if_neg e;rw[e1];exact h.ptr c i LR hc hl hi
theorem qw(hs:2<=x.s)(hn:x.n<=2048):∀(ks:List Nat) (b:Nat) (m:MS) (bY:Nat->Nat),m.Wf x bY->Pt x m bY ks.length b->(∀k∈ks,k<64)->∃fe,(down x ks b m).2.Wf x fe/\Ext x m bY (down x ks b m).2 fe/\Pt x (down x ks b m).2 fe 0 (down x ks b m).1
 |[],b,m,bY,h,hb,hk=>⟨bY,h,.refl _ _,hb⟩
 |k::ks,b,m,bY,h,hb,hk=>by
  rw[down]
  by_cases h0:b=0
  ·rw[if_pos h0]
   exact⟨bY,h,.refl _ _,.inl rfl⟩
  rw[if_neg h0];have ku:=hk k (List.mem_cons_self ..);have hks:∀k∈ks,k<64:=λk' h'=>hk k' (List.mem_cons_of_mem _ h')
  by_cases hv:(cR (m.L b) (4*k)).toNat=0
  ·rw[if_pos hv]
   obtain⟨rQ,a1,a2,a3⟩:=ja hs ks.length h;have w1:=a1.word hn (hb.ext a2) h0 ku a3;obtain⟨F2,b1,b2,b3⟩:=qw hs hn ks (m.take x).1 _ rQ w1 (by rcases a3 with a3|a3;exact .inl a3;exact .inr a3) hks;exact⟨F2,b1,a2.trans ⟨b2.le,b2.bY⟩,b3⟩
  rw[if_neg hv];have hp:Pt x m bY ks.length (cR (m.L b) (4*k)).toNat:=by
   rcases hb with hb|⟨h1,h2,h3⟩
   ·exact absurd hb h0
   rw[List.length_cons] at h3;rcases h.ptr b k h1 h2 (by omega) ku with h'|⟨g1,g2,g3⟩
   ·exact .inl h'
   exact .inr ⟨g1,g2,by omega⟩
  exact qw hs hn ks _ m bY h hp hks
def OH(x:Im)(m:MS)(bY:Nat->Nat)(y:aS):Prop:=∀q,q<11->(0<=y.p q/\y.p q<4294967296)/\Pt x m bY (Im.lvl q) (y.p q).toNat
theorem OH.ext{m:MS}(h:OH x m bY y)(e:Ext x m bY m' fe):OH x m' fe y:=λq hq=>⟨(h q hq).1,(h q hq).2.ext e⟩
theorem J7(hs:2<=x.s)(hn:x.n<=2048){m:MS}(h:m.Wf x bY)(hy:OH x m bY y)(i:Int):
  ∃fe,(fB x y i m).2.2.Wf x fe/\Ext x m bY (fB x y i m).2.2 fe/\OH x (fB x y i m).2.2 fe (fB x y i m).2.1/\Pt x (fB x y i m).2.2 fe 0 (fB x y i m).1:=by
 unfold fB
 by_cases hi:i<0\/65536<=i
 ·rw[if_pos hi]
  exact⟨bY,h,.refl _ _,hy,.inl rfl⟩
 rw[if_neg hi];have zH:i.toNat<65536:=by omega
 have hq:=Im.nw i.toNat;have hl:=Im.kO i.toNat;have hk:=Im.qc zH
 by_cases h0:y.p (Im.bL i.toNat)=0
 ·rw[if_pos h0]
  obtain⟨rQ,a1,a2,a3⟩:=ja hs (Im.lvl (Im.bL i.toNat)) h;obtain⟨F2,b1,b2,b3⟩:=qw hs hn (Im.bM i.toNat) (m.take x).1 _ rQ a1 (by rw[hl];exact a3) hk;refine⟨F2,b1,a2.trans b2,λq hq'=> ?_,b3⟩;dsimp only
  by_cases e:q=Im.bL i.toNat
  ·rw[if_pos e,e,Int.toNat_natCast]
   have:(m.take x).1<2048:=by
    by_cases e:(m.take x).1=0
    ·omega
    have:=a3.lt e;omega
   exact⟨by omega,a3.ext b2⟩
  rw[if_neg e];exact⟨(hy q hq').1,((hy q hq').2.ext a2).ext b2⟩
 rw[if_neg h0];obtain⟨F2,b1,b2,b3⟩:=qw hs hn (Im.bM i.toNat) (y.p (Im.bL i.toNat)).toNat m bY h (by rw[hl];exact(hy _ hq).2) hk;exact⟨F2,b1,b2,hy.ext b2,b3⟩
theorem wf0(hx:x.Ok):Wf x ⟨iL x.g x.s x.i x.j,0⟩ (λ_=>0):=by
 obtain⟨h1,h2,h3,h4,h5,h6,h7,h8,h9,h10,h11⟩:=dX hx.may;refine⟨λb=>BJ _ _ _ _ b,λb _ hd k=> ?_,λb k _ hb _ _=>(by cases hb),Nat.zero_le _⟩;have hd2:=hd;unfold Im.data Im.own at hd2;rw[Bool.and_eq_true,Bool.and_eq_true,decide_eq_true_eq,decide_eq_true_eq,decide_eq_true_eq] at hd2;obtain⟨a1,a2,a3⟩:=hd2;have hr:(b-(2+x.j))%x.s<x.s:=Nat.mod_lt _ (by omega);have:=Dp (g:=x.g) (i:=x.i) (γ:=(b-(2+x.j))/x.s) (d:=(b-(2+x.j))%x.s) h3 h8 hr;have e:2+x.j+(b-(2+x.j))/x.s*x.s+(b-(2+x.j))%x.s=b:=by
  have:=Nat.div_add_mod (b-(2+x.j)) x.s;rw[Nat.mul_comm] at this;omega
 rw[e] at this;show iL x.g x.s x.i x.j b k=0;rw[this];rw[if_neg (by omega),if_neg (by omega),if_neg (by omega)]
end MS
section
variable {P:Program}
theorem o5{g:Operand}{ps:Array Tmp}{Mb L9:Code}{Q:Exit->Act->World->Prop}{a:Act}{gf:Nat}{lb:Array Value}
  (hg:a.eval g= .func (.func gf) #[] lb) (eg:∀args w,(callFunc gf args).run P w= .ok (.enter gf args) w)
  {iV:Nat->Array Value} {N:Nat} {eA:Nat->World->Prop} (hit:lF Fence.wide 4 P gf lb iV N (λ_=>False) eA) (hps:∀k,(iV k).size=ps.size)
  (J:Nat->World->Prop) (Jx:Code->Nat->World->Prop)
  (hJ:∀k,aC w.heap.size (J k)) (AV:∀c k,aC w.heap.size (Jx c k)) (hN:∀k,aC w.heap.size (eA k)) (h0:J 0 w) (hn0:eA 0 w) (A1:Nat->Act)
  (assign:∀(l k:Nat) (W:World) (K:Act->World->Prop),k<N->K (A1 k) W->
   Mb.wpIn (Fence.wide.inRound l) 3 P (Exit.then K (λ_ _ _=>False)) {tmps:=(ps.zip (iV k)).foldl (λt (p,v)=>t.setIfInBounds p v) a.tmps,defers:=[]} W)
  (body:∀(l k:Nat) (W:World),k<N->J k W->eA k W->L9.wpIn (Fence.wide.inRound l) 3 P (nH w.heap.size J Jx eA k W) (A1 k) W)
  (done:∀(D:Nat) (W:World),w.heap.size<=D->J N W->W.heap[D]? =some (.deferred (some []))->Q .normal {a with defers:={target:=.collected D,args:=#[]}::a.defers} W)
  (stop:∀(D:Nat) (c:Code) (k:Nat) (W:World),w.heap.size<=D->k<N->Jx c k W->W.heap[D]? =some (.deferred (some []))->c.wp P Q {a with defers:={target:=.collected D,args:=#[]}::a.defers} W):
  (Code.rangeFunc g ps Mb L9).wp P Q a w:=
 zX hg eg hit hps J Jx A1 hJ AV hN h0 hn0 assign body done stop
end
namespace Im
structure Pt where
 i:Nat
 b:Nat
 f:Nat
 l:Nat
def kid(x:Im)(y:Pt)(l k:Nat):Pt:=⟨y.i,x.sX y.b k,y.f+k*gh l,l⟩
def kids(x:Im)(y:Pt):List Pt:=match y.l with
 |0=>[]
 |l+1=>(List.range 64).map (x.kid y l)
def gO(x:Im)(i:Nat):Nat->Nat->Nat->List Pt
 |0,p,f=>if p=0 then [] else [⟨i,p,f,0⟩]
 |l+1,p,f=>if p=0 then [] else⟨i,p,f,l+1⟩::(List.range 64).flatMap λk=>gO x i l (x.sX p k) (f+k*gh l)
def oV(x:Im)(q:List Pt):List Pt:=q.flatMap λy=>x.gO y.i y.l y.b y.f
def jB(x:Im)(en:Nat):List Pt->(Nat->Nat)->Option (Nat->Nat)
 |[],o=>some o
 |y::r,o=>if y.f<min en 65536/\x.data y.b=true/\o y.b=0 then jB x en r (ak o y.b y.i) else none
def bN:List Pt->Nat->Nat
 |[],_=>0
 |y::r,b=>if y.b=b then y.i else bN r b
def kI:List Pt->Nat->Nat->Nat
 |[],_,_=>0
 |y::r,t,i=>if y.i=t/\y.l=0/\y.f=i then y.b else kI r t i
variable {x:Im}
theorem xU(en:Nat):∀(a b:List Pt) (o:Nat->Nat),x.jB en (a++b) o=(x.jB en a o).bind (x.jB en b)
 |[],b,o=>rfl
 |y::r,b,o=>by
  rw[List.cons_append,jB,jB];split
  ·exact xU en r b _
  rfl
theorem se(en:Nat)(g:Nat->List Pt)(o:Nat->Nat):∀n,a8 (λk o=>x.jB en (g k) o) n o=x.jB en ((List.range n).flatMap g) o
 |0=>rfl
 |n+1=>by
  rw[a8,se en g o n,List.range_succ,List.flatMap_append,xU]
  congr 1
  funext o'
  rw[List.flatMap_cons,List.flatMap_nil,List.append_nil]
theorem yh(t en:Nat):∀(l p f:Nat) (o:Nat->Nat),x.eF t l p f en o=x.jB en (x.gO t l p f) o
 |0,p,f,o=>by
  rw[eF,gO]
  by_cases h0:p=0
  ·rw[if_pos h0,if_pos h0];rfl
  rw[if_neg h0,if_neg h0];rfl
 |l+1,p,f,o=>by
  rw[eF,gO]
  by_cases h0:p=0
  ·rw[if_pos h0,if_pos h0];rfl
  rw[if_neg h0,if_neg h0,jB]
  by_cases hc:f<min en 65536/\x.data p=true/\o p=0
  ·rw[if_pos hc,if_pos hc,<-se]
   exact pB (λk hk o'=>yh t en l _ _ o') _
  rw[if_neg hc,if_neg hc]
theorem CI{α:Type}(o:Nat->α){a b:Nat}(h:a≠b)(u v:α):ak (ak o a u) b v=ak (ak o b v) a u:=by
 funext c
 unfold ak
 by_cases h1:c=b
 ·rw[if_pos h1]
  by_cases h2:c=a
  ·exact absurd (h2.symm.trans h1) h
  rw[if_neg h2,if_pos h1]
 rw[if_neg h1]
 by_cases h2:c=a
 ·rw[if_pos h2,if_pos h2]
 rw[if_neg h2,if_neg h2,if_neg h1]
theorem C6(en:Nat){a b:List Pt}(h:a.Perm b):(∀y∈a,y.i≠0)->∀o,x.jB en a o=x.jB en b o:=by
 induction h with
 |nil=>intro _ o;rfl
 |cons y _ ih=>
  intro hi o;rw[jB,jB];rw[ih (λz hz=>hi z (List.mem_cons_of_mem _ hz))]
 |swap y z l=>
  intro hi o;have hy:y.i≠0:=hi y (by simp);have hz:z.i≠0:=hi z (by simp);have key:∀{A B:Pt},A.i≠0->(A.f<min en 65536/\x.data A.b=true/\o A.b=0)->(B.f<min en 65536/\x.data B.b=true/\ak o A.b A.i B.b=0)->A.b≠B.b/\(B.f<min en 65536/\x.data B.b=true/\o B.b=0):=λ{A B} hA h1 h2=>by
   have hne:A.b≠B.b:=λe=>by
    have:=h2.2.2;unfold ak at this;rw[if_pos e.symm] at this;exact hA this
   refine⟨hne,h2.1,h2.2.1,?_⟩;have:=h2.2.2;unfold ak at this;rwa[if_neg (λe=>hne e.symm)] at this
  have QD:∀{A B:Pt},A.b≠B.b->(A.f<min en 65536/\x.data A.b=true/\o A.b=0)->(A.f<min en 65536/\x.data A.b=true/\ak o B.b B.i A.b=0):=λ{A B} hne h1=>by
   refine⟨h1.1,h1.2.1,?_⟩;unfold ak;rw[if_neg hne];exact h1.2.2
  simp only[jB]
  by_cases c1:z.f<min en 65536/\x.data z.b=true/\o z.b=0
  ·rw[if_pos c1]
   by_cases c2:y.f<min en 65536/\x.data y.b=true/\ak o z.b z.i y.b=0
   ·rw[if_pos c2]
    obtain⟨hne,c3⟩:=key hz c1 c2;rw[if_pos c3,if_pos (QD hne c1),CI o hne]
   rw[if_neg c2]
   by_cases c3:y.f<min en 65536/\x.data y.b=true/\o y.b=0
   ·rw[if_pos c3,if_neg]
    intro c4;obtain⟨hne,_⟩:=key hy c3 c4;exact c2 (QD hne c3)
   rw[if_neg c3]
  rw[if_neg c1]
  by_cases c3:y.f<min en 65536/\x.data y.b=true/\o y.b=0
  ·rw[if_pos c3,if_neg]
   intro c4;exact c1 (key hy c3 c4).2
  rw[if_neg c3]
 |trans h1 _ ih1 ih2=>
  intro hi o;rw[ih1 hi,ih2 (λy hy=>hi y (h1.mem_iff.2 hy))]
theorem wI(t:Nat):∀(l p f:Nat),∀y∈x.gO t l p f,y.i=t
 |0,p,f,y,hy=>by
  rw[gO] at hy;split at hy
  ·cases hy
  rw[List.mem_singleton] at hy;rw[hy]
 |l+1,p,f,y,hy=>by
  rw[gO] at hy;split at hy
  ·cases hy
  rcases List.mem_cons.1 hy with h|h
  ·rw[h]
  obtain⟨k,_,hk⟩:=List.mem_flatMap.1 h;exact wI t l _ _ y hk
theorem GO(t:Nat):∀(l p f:Nat),∀y∈x.gO t l p f,y.b≠0
 |0,p,f,y,hy=>by
  rw[gO] at hy;split at hy
  ·cases hy
  rename_i h;rw[List.mem_singleton] at hy;rw[hy];exact h
 |l+1,p,f,y,hy=>by
  rw[gO] at hy;split at hy
  ·cases hy
  rename_i h0;rcases List.mem_cons.1 hy with h|h
  ·rw[h];exact h0
  obtain⟨k,_,hk⟩:=List.mem_flatMap.1 h;exact GO t l _ _ y hk
theorem Kk(a b:List Pt):x.oV (a++b)=x.oV a++x.oV b:=List.flatMap_append
theorem uC(y:Pt)(h:y.b≠0):x.gO y.i y.l y.b y.f=y::x.oV (x.kids y):=by
 obtain⟨i,b,f,l⟩:=y;cases l with
 |zero=>show(if b=0 then _ else _)=_;rw[if_neg h];rfl
 |succ l=>
  show(if b=0 then _ else _)=_;rw[if_neg h];show _=_::((List.range 64).map _).flatMap _;rw[List.flatMap_map];rfl
theorem y6{y:Pt}(h:y.b=0)(r:List Pt):x.oV (y::r)=x.oV r:=by
 show x.gO y.i y.l y.b y.f++x.oV r=_;have:x.gO y.i y.l y.b y.f=[]:=by
  rw[h];cases y.l<;>(rw[gO];exact if_pos rfl)
 rw[this];rfl
structure o4(x:Im)(en t:Nat)(ALL:List Pt)(R:Option (Nat->Nat))(todo Q:List Pt):Prop where
 run:x.jB en (x.oV todo) (bN Q)=R
 all:(Q++x.oV todo).Perm ALL
 own:∀y∈todo,y.i=t
 pos:∀y∈Q,y.i≠0
 PH:∀y∈Q,x.data y.b=true
 Lt:aL (λb=>bN Q b !=0) x.n=Q.length
 len:todo.length<=11+64*Q.length
theorem FF(Q:List Pt)(y:Pt)(h:bN Q y.b=0)(hp:∀z∈Q,z.i≠0):bN (Q++[y])=ak (bN Q) y.b y.i:=by
 funext b
 induction Q with
 |nil=>
  show(if y.b=b then y.i else 0)=if b=y.b then y.i else 0;by_cases e:y.b=b
  ·rw[if_pos e,if_pos e.symm]
  rw[if_neg e,if_neg (λh=>e h.symm)]
 |cons z Q ih=>
  have hz:=hp z (by simp);have h0:¬z.b=y.b:=λe=>by rw[bN,if_pos e] at h;exact hz h
  have h1:bN Q y.b=0:=by rw[bN,if_neg h0] at h;exact h
  have:=ih h1 (λw hw=>hp w (List.mem_cons_of_mem _ hw));rw[List.cons_append,bN,this];unfold ak;rw[bN]
  by_cases e:b=y.b
  ·rw[if_pos e,if_pos e,if_neg (by rw[e];exact h0)]
  rw[if_neg e,if_neg e]
theorem B8{b:Nat}(h:x.data b=true):b<x.n:=by
 unfold data at h;rw[Bool.and_eq_true,Bool.and_eq_true,decide_eq_true_eq,decide_eq_true_eq] at h;exact h.2.1
section
variable {en t:Nat} {ALL:List Pt} {R:Option (Nat->Nat)} {todo Q:List Pt} {y:Pt}
theorem o4.skip(h:o4 x en t ALL R (y::todo) Q)(h0:y.b=0):o4 x en t ALL R todo Q:=
 ⟨by rw[<-y6 h0];exact h.run,by rw[<-y6 h0];exact h.all,λz hz=>h.own z (List.mem_cons_of_mem _ hz),h.pos,h.PH,h.Lt,by have:=h.len;simp at this;omega⟩
theorem o4.bad(h:o4 x en t ALL R (y::todo) Q)(h0:y.b≠0)(hc:¬(y.f<min en 65536/\x.data y.b=true/\bN Q y.b=0)):R=none:=by
 rw[<-h.run];show x.jB en (x.gO y.i y.l y.b y.f++x.oV todo) _=none;rw[uC y h0,List.cons_append,jB,if_neg hc]
theorem yt(y:Pt):(x.kids y).length<=64:=by
 unfold kids;split
 ·simp
 simp
theorem F3(y:Pt):∀z∈x.kids y,z.i=y.i:=by
 intro z hz;unfold kids at hz;split at hz
 ·cases hz
 obtain⟨k,_,rfl⟩:=List.mem_map.1 hz
 rfl
theorem o4.Xq(h:o4 x en t ALL R (y::todo) Q)(ht:t≠0)(h0:y.b≠0)(hc:y.f<min en 65536/\x.data y.b=true/\bN Q y.b=0):o4 x en t ALL R (todo++x.kids y) (Q++[y]):=by
 have Ty:y.i=t:=h.own y (by simp);have hu:=FF Q y hc.2.2 h.pos;have e:x.oV (y::todo)=y::(x.oV (x.kids y)++x.oV todo):=by
  show x.gO y.i y.l y.b y.f++x.oV todo=_;rw[uC y h0];rfl
 have hP:(x.oV (x.kids y)++x.oV todo).Perm (x.oV (todo++x.kids y)):=by
  rw[Kk];exact List.perm_append_comm
 have hI:∀z∈x.oV (x.kids y)++x.oV todo,z.i≠0:=by
  intro z hz;have:z.i=t:=by
   rcases List.mem_append.1 hz with hz|hz
   ·obtain⟨a,ha,hz⟩:=List.mem_flatMap.1 hz
    rw[wI _ _ _ _ z hz,F3 y a ha,Ty]
   obtain⟨a,ha,hz⟩:=List.mem_flatMap.1 hz;rw[wI _ _ _ _ z hz];exact h.own a (List.mem_cons_of_mem _ ha)
  rw[this];exact ht
 have hrun:=h.run;rw[e,jB,if_pos hc,<-hu,C6 en hP hI] at hrun;refine⟨hrun,?_,?_,?_,?_,?_,?_⟩
 ·have h1:=h.all
  rw[e] at h1;refine List.Perm.trans ?_ h1;rw[List.append_assoc];exact List.Perm.append_left _ (List.Perm.cons _ hP.symm)
 ·intro z hz
  rcases List.mem_append.1 hz with hz|hz
  ·exact h.own z (List.mem_cons_of_mem _ hz)
  rw[F3 y z hz,Ty]
 ·intro z hz
  rcases List.mem_append.1 hz with hz|hz
  ·exact h.pos z hz
  rw[List.mem_singleton] at hz;rw[hz,Ty];exact ht
 ·intro z hz
  rcases List.mem_append.1 hz with hz|hz
  ·exact h.PH z hz
  rw[List.mem_singleton] at hz;rw[hz];exact hc.2.1
 ·have h1:(λb=>bN (Q++[y]) b !=0)=ak (λb=>bN Q b !=0) y.b true:=by
   funext b
   rw[hu];unfold ak
   by_cases eb:b=y.b
   ·rw[if_pos eb,if_pos eb,Ty];simp[ht]
   rw[if_neg eb,if_neg eb]
  rw[h1,fY (B8 hc.2.1) (by rw[hc.2.2];rfl),h.Lt,List.length_append];rfl
 have h1:=h.len;have h2:=yt (x:=x) y;simp only[List.length_append,List.length_cons,List.length_nil] at h1 ⊢;omega
theorem o4.M4(h:o4 x en t ALL R todo Q):Q.length<=x.n:=by rw[<-h.Lt];exact eT _ _
end
def tV(x:Im)(t:Nat):List Pt:=(List.range 11).map λq=>⟨t,((x.ino t).p q).toNat,fst q,lvl q⟩
def sh(x:Im)(t:Nat):List Pt:=if(x.ino t).kind=0 then [] else x.oV (x.tV t)
def yZ(x:Im)(n:Nat):List Pt:=(List.range n).flatMap λt=>x.sh (t+1)
theorem CJ(m:Nat->Bool)(t:Nat)(o:Nat->Nat):x.gk m t o=x.jB (x.en m t) (x.sh t) o:=by
 unfold gk sh;split
 ·rfl
 unfold oV tV;rw[List.flatMap_map,<-se];exact pB (λq _ o'=>yh t _ _ _ _ o') _
theorem Lj(t:Nat):∀y∈x.tV t,y.i=t:=by
 intro y hy;obtain⟨k,_,rfl⟩:=List.mem_map.1 hy
 rfl
theorem Oj(t:Nat):∀y∈x.sh t,y.i=t:=by
 intro y hy;unfold sh at hy;split at hy
 ·cases hy
 obtain⟨a,ha,hy⟩:=List.mem_flatMap.1 hy;rw[wI _ _ _ _ y hy,Lj t a ha]
structure iO(x:Im)(m:Nat->Bool)(n:Nat)(Q:List Pt):Prop where
 run:a8 (λt o=>x.gk m (t+1) o) n (λ_=>0)=some (bN Q)
 all:Q.Perm (x.yZ n)
 pos:∀y∈Q,y.i≠0
 PH:∀y∈Q,x.data y.b=true
 Lt:aL (λb=>bN Q b !=0) x.n=Q.length
theorem iO.zero(m:Nat->Bool):iO x m 0 []:=by
 refine⟨rfl,List.Perm.refl _,λy h=>by(cases h),λy h=>(by cases h),?_⟩;have:∀n,aL (λb=>bN [] b !=0) n=0:=λn=>by
  induction n with
  |zero=>rfl
  |succ n ih=>rw[aL,ih];rfl
 rw[this];rfl
theorem uD(n:Nat):x.yZ (n+1)=x.yZ n++x.sh (n+1):=by
 unfold yZ;rw[List.range_succ,List.flatMap_append,List.flatMap_cons,List.flatMap_nil,List.append_nil]
theorem iO.free{n:Nat}{Q:List Pt}(h:iO x m n Q)(hk:(x.ino (n+1)).kind=0):iO x m (n+1) Q:=
 ⟨bK h.run (by unfold gk;rw[if_pos hk]),by rw[uD];unfold sh;rw[if_pos hk,List.append_nil];exact h.all,h.pos,h.PH,h.Lt⟩
theorem iO.begin{n:Nat}{Q:List Pt}(h:iO x m n Q)(hk:(x.ino (n+1)).kind≠0):o4 x (x.en m (n+1)) (n+1) (x.yZ (n+1)) (x.gk m (n+1) (bN Q)) (x.tV (n+1)) Q:=by
 have he:x.sh (n+1)=x.oV (x.tV (n+1)):=by unfold sh;rw[if_neg hk]
 refine⟨by rw[CJ,he],?_,Lj _,h.pos,h.PH,h.Lt,by unfold tV;simp⟩;rw[uD,he];exact List.Perm.append_right _ h.all
theorem iO.done{n:Nat}{Q Q':List Pt}(h:iO x m n Q)(hi:o4 x (x.en m (n+1)) t (x.yZ (n+1)) (x.gk m (n+1) (bN Q)) [] Q'):iO x m (n+1) Q':=by
 have h1:=hi.all;have e:x.oV []=[]:=rfl;rw[e,List.append_nil] at h1;exact⟨bK h.run hi.run.symm,h1,hi.pos,hi.PH,hi.Lt⟩
theorem iO.none{n:Nat}{Q:List Pt}(h:iO x m n Q)(hn:n<x.ni)(hr:x.gk m (n+1) (bN Q)=none):x.trees m=none:=dp h.run hr hn
theorem kg(t p f:Nat)(y:Pt):(y∈x.gO t 0 p f/\y.l=0)↔(p≠0/\y=⟨t,p,f,0⟩):=by
 rw[gO]
 by_cases h:p=0
 ·rw[if_pos h];exact⟨λh=>(by cases h.1),λh'=>absurd h h'.1⟩
 rw[if_neg h,List.mem_singleton];exact⟨λh'=>⟨h,h'.1⟩,λh'=>⟨h'.2,by rw[h'.2]⟩⟩
theorem mQ(t l p f:Nat)(y:Pt):(y∈x.gO t (l+1) p f/\y.l=0)↔(p≠0/\∃k,k<64/\(y∈x.gO t l (x.sX p k) (f+k*gh l)/\y.l=0)):=by
 rw[gO]
 by_cases h:p=0
 ·rw[if_pos h];exact⟨λh=>(by cases h.1),λh'=>absurd h h'.1⟩
 rw[if_neg h,List.mem_cons,List.mem_flatMap];constructor
 ·rintro⟨h1|⟨k,hk,h1⟩,h2⟩
  ·rw[h1] at h2;cases h2
  exact⟨h,k,List.mem_range.1 hk,h1,h2⟩
 rintro⟨_,k,hk,h1,h2⟩;exact⟨.inr ⟨k,List.mem_range.2 hk,h1⟩,h2⟩
theorem lI{b:Nat}(h:b≠0):x.step b k=x.sX b k:=by unfold step;rw[if_neg h]
theorem oA(k:Nat):x.step 0 k=0:=by unfold step;rw[if_pos rfl]
theorem BM(t p f:Nat)(y:Pt):(y∈x.gO t 1 p f/\y.l=0)↔∃k,k<64/\[k].foldl x.step p≠0/\y=⟨t,[k].foldl x.step p,f+k,0⟩:=by
 rw[mQ];constructor
 ·rintro⟨h,k,hk,h1⟩
  obtain⟨h2,h3⟩:=(kg _ _ _ _).1 h1;refine⟨k,hk,?_⟩;show x.step p k≠0/\y=⟨t,x.step p k,f+k,0⟩;rw[lI h];exact⟨h2,by rw[h3];unfold gh;rw[Nat.pow_zero,Nat.mul_one]⟩
 rintro⟨k,hk,h1,h2⟩
 replace h1:x.step p k≠0:=h1
 replace h2:y=⟨t,x.step p k,f+k,0⟩:=h2
 have h:p≠0:=λe=>by rw[e,oA] at h1;exact h1 rfl
 rw[lI h] at h1 h2;exact⟨h,k,hk,(kg _ _ _ _).2 ⟨h1,by rw[h2];unfold gh;rw[Nat.pow_zero,Nat.mul_one]⟩⟩
theorem BL(t p f:Nat)(y:Pt):(y∈x.gO t 2 p f/\y.l=0)↔∃a k,a<64/\k<64/\[a,k].foldl x.step p≠0/\y=⟨t,[a,k].foldl x.step p,f+a*64+k,0⟩:=by
 rw[mQ];constructor
 ·rintro⟨h,a,ha,h1⟩
  obtain⟨k,hk,h2,h3⟩:=(BM _ _ _ _).1 h1;refine⟨a,k,ha,hk,?_⟩;show [k].foldl x.step (x.step p a)≠0/\y=⟨t,[k].foldl x.step (x.step p a),f+a*64+k,0⟩;rw[lI h];exact⟨h2,h3⟩
 rintro⟨a,k,ha,hk,h1,h2⟩
 replace h1:[k].foldl x.step (x.step p a)≠0:=h1
 replace h2:y=⟨t,[k].foldl x.step (x.step p a),f+a*64+k,0⟩:=h2
 have h:p≠0:=λe=>by
  rw[e,oA] at h1;exact h1 (oA (x:=x) k)
 rw[lI h] at h1 h2;exact⟨h,a,ha,(BM _ _ _ _).2 ⟨k,hk,h1,h2⟩⟩
theorem LG(t p f:Nat)(y:Pt):(y∈x.gO t 3 p f/\y.l=0)↔∃c a k,c<64/\a<64/\k<64/\[c,a,k].foldl x.step p≠0/\y=⟨t,[c,a,k].foldl x.step p,f+c*4096+a*64+k,0⟩:=by
 rw[mQ];constructor
 ·rintro⟨h,c,hc,h1⟩
  obtain⟨a,k,ha,hk,h2,h3⟩:=(BL _ _ _ _).1 h1;refine⟨c,a,k,hc,ha,hk,?_⟩;show [a,k].foldl x.step (x.step p c)≠0/\y=⟨t,[a,k].foldl x.step (x.step p c),f+c*4096+a*64+k,0⟩;rw[lI h];exact⟨h2,h3⟩
 rintro⟨c,a,k,hc,ha,hk,h1,h2⟩
 replace h1:[a,k].foldl x.step (x.step p c)≠0:=h1
 replace h2:y=⟨t,[a,k].foldl x.step (x.step p c),f+c*4096+a*64+k,0⟩:=h2
 have h:p≠0:=λe=>by
  rw[e,oA] at h1;refine h1 ?_;show x.step (x.step 0 a) k=0;rw[oA,oA]
 rw[lI h] at h1 h2;exact⟨h,c,hc,(BL _ _ _ _).2 ⟨a,k,ha,hk,h1,h2⟩⟩
theorem yq(t i:Nat)(hi:i<65536)(y:Pt):(y∈x.oV (x.tV t)/\y.l=0/\y.f=i)↔(x.blk t i≠0/\y=⟨t,x.blk t i,i,0⟩):=by
 have hm:y∈x.oV (x.tV t)↔∃q,q<11/\y∈x.gO t (lvl q) ((x.ino t).p q).toNat (fst q):=by
  unfold oV tV;rw[List.mem_flatMap];constructor
  ·rintro⟨a,ha,hy⟩
   obtain⟨q,hq,rfl⟩:=List.mem_map.1 ha;exact⟨q,List.mem_range.1 hq,hy⟩
  rintro⟨q,hq,hy⟩;exact⟨_,List.mem_map.2 ⟨q,List.mem_range.2 hq,rfl⟩,hy⟩
 rw[hm];unfold blk;constructor
 ·rintro⟨⟨q,hq,h1⟩,h2,h3⟩
  have h8:q<8\/q=8\/q=9\/q=10:=by omega
  rcases h8 with h8|rfl|rfl|rfl
  ·have e1:lvl q=0:=by unfold lvl;rw[if_pos h8]
   have e2:fst q=q:=by unfold fst;rw[if_pos (by omega)]
   rw[e1,e2] at h1;obtain⟨h4,h5⟩:=(kg _ _ _ _).1 ⟨h1,h2⟩;have TB:q=i:=by rw[h5] at h3;exact h3
   subst TB;rw[show bL q=q by unfold bL;rw[if_pos h8],show bM q=[] by unfold bM;rw[if_pos h8]];exact⟨h4,h5⟩
  ·obtain⟨k,hk,h4,h5⟩:=(BM _ _ _ _).1 ⟨h1,h2⟩
   have hik:i=8+k:=by rw[h5] at h3;exact h3.symm
   subst hik;rw[show bL (8+k)=8 by unfold bL;rw[if_neg (by omega),if_pos (by omega)],show bM (8+k)=[k] by unfold bM;rw[if_neg (by omega),if_pos (by omega),show 8+k-8=k by omega]];exact⟨h4,h5⟩
  ·obtain⟨a,k,ha,hk,h4,h5⟩:=(BL _ _ _ _).1 ⟨h1,h2⟩
   have hik:i=72+a*64+k:=by rw[h5] at h3;exact h3.symm
   subst hik;rw[show bL (72+a*64+k)=9 by unfold bL;rw[if_neg (by omega),if_neg (by omega),if_pos (by omega)],show bM (72+a*64+k)=[a,k] by unfold bM;rw[if_neg (by omega),if_neg (by omega),if_pos (by omega),show(72+a*64+k-72)/64=a by omega,show(72+a*64+k-72)%64=k by omega]];exact⟨h4,h5⟩
  obtain⟨c,a,k,hc,ha,hk,h4,h5⟩:=(LG _ _ _ _).1 ⟨h1,h2⟩;have hik:i=4168+c*4096+a*64+k:=by rw[h5] at h3;exact h3.symm
  subst hik;rw[show bL (4168+c*4096+a*64+k)=10 by unfold bL;rw[if_neg (by omega),if_neg (by omega),if_neg (by omega)],show bM (4168+c*4096+a*64+k)=[c,a,k] by unfold bM;rw[if_neg (by omega),if_neg (by omega),if_neg (by omega),show(4168+c*4096+a*64+k-4168)/4096=c by omega,show(4168+c*4096+a*64+k-4168)%4096/64=a by omega,show(4168+c*4096+a*64+k-4168)%64=k by omega]];exact⟨h4,h5⟩
 rintro⟨h1,rfl⟩;refine⟨⟨bL i,nw i,?_⟩,rfl,rfl⟩
 by_cases c1:i<8
 ·have e1:bL i=i:=by unfold bL;rw[if_pos c1]
  have e2:bM i=[]:=by unfold bM;rw[if_pos c1]
  rw[e1,e2] at h1 ⊢;rw[show lvl i=0 by unfold lvl;rw[if_pos c1],show fst i=i by unfold fst;rw[if_pos (by omega)]];exact((kg _ _ _ _).2 ⟨h1,rfl⟩).1
 by_cases c2:i<72
 ·have e1:bL i=8:=by unfold bL;rw[if_neg c1,if_pos c2]
  have e2:bM i=[i-8]:=by unfold bM;rw[if_neg c1,if_pos c2]
  rw[e1,e2] at h1 ⊢;exact((BM _ _ _ _).2 ⟨i-8,by omega,h1,by rw[show fst 8+(i-8)=i by show 8+(i-8)=i;omega]⟩).1
 by_cases c3:i<4168
 ·have e1:bL i=9:=by unfold bL;rw[if_neg c1,if_neg c2,if_pos c3]
  have e2:bM i=[(i-72)/64,(i-72)%64]:=by unfold bM;rw[if_neg c1,if_neg c2,if_pos c3]
  rw[e1,e2] at h1 ⊢;exact((BL _ _ _ _).2 ⟨(i-72)/64,(i-72)%64,by omega,by omega,h1,by rw[show fst 9+(i-72)/64*64+(i-72)%64=i by show 72+(i-72)/64*64+(i-72)%64=i;omega]⟩).1
 have e1:bL i=10:=by unfold bL;rw[if_neg c1,if_neg c2,if_neg c3]
 have e2:bM i=[(i-4168)/4096,(i-4168)%4096/64,(i-4168)%64]:=by unfold bM;rw[if_neg c1,if_neg c2,if_neg c3]
 rw[e1,e2] at h1 ⊢;exact((LG _ _ _ _).2 ⟨(i-4168)/4096,(i-4168)%4096/64,(i-4168)%64,by omega,by omega,by omega,h1,by rw[show fst 10+(i-4168)/4096*4096+(i-4168)%4096/64*64+(i-4168)%64=i by show 4168+(i-4168)/4096*4096+(i-4168)%4096/64*64+(i-4168)%64=i;omega]⟩).1
theorem KB{Q:List Pt}:kI Q t i≠0->∃y∈Q,y.i=t/\y.l=0/\y.f=i/\y.b=kI Q t i:=by
 induction Q with
 |nil=>intro h;exact absurd rfl h
 |cons z Q ih=>
  intro h;rw[kI] at h ⊢
  by_cases hc:z.i=t/\z.l=0/\z.f=i
  ·rw[if_pos hc];exact⟨z,by simp,hc.1,hc.2.1,hc.2.2,rfl⟩
  rw[if_neg hc] at h ⊢;obtain⟨y,hy,h1⟩:=ih h;exact⟨y,List.mem_cons_of_mem _ hy,h1⟩
theorem Ox{Q:List Pt}(hb:∀y∈Q,y.b≠0):kI Q t i=0->∀y∈Q,¬(y.i=t/\y.l=0/\y.f=i):=by
 induction Q with
 |nil=>intro _ y hy;cases hy
 |cons z Q ih=>
  intro h y hy hc;rw[kI] at h
  by_cases hz:z.i=t/\z.l=0/\z.f=i
  ·rw[if_pos hz] at h;exact hb z (by simp) h
  rw[if_neg hz] at h;rcases List.mem_cons.1 hy with rfl|hy
  ·exact hz hc
  exact ih (λw hw=>hb w (List.mem_cons_of_mem _ hw)) h y hy hc
theorem iO.mem{Q:List Pt}(h:iO x m x.ni Q){y:Pt}:y∈Q↔(1<=y.i/\y.i<=x.ni/\(x.ino y.i).kind≠0/\y∈x.oV (x.tV y.i)):=by
 rw[h.all.mem_iff];unfold yZ;rw[List.mem_flatMap];constructor
 ·rintro⟨t,ht,hy⟩
  have e:=Oj (t+1) y hy;have:=List.mem_range.1 ht;unfold sh at hy;split at hy
  ·cases hy
  rename_i hk;rw[e];exact⟨by omega,by omega,hk,hy⟩
 rintro⟨h1,h2,h3,h4⟩;refine⟨y.i-1,List.mem_range.2 (by omega),?_⟩;rw[show y.i-1+1=y.i by omega];unfold sh;rw[if_neg h3];exact h4
theorem iO.blk{Q:List Pt}(h:iO x m x.ni Q)(h1:1<=t)(h2:t<=x.ni)(hk:(x.ino t).kind≠0)(hi:i<65536):kI Q t i=x.blk t i:=by
 have hb:∀y∈Q,y.b≠0:=λy hy=>by
  obtain⟨_,_,_,h4⟩:=h.mem.1 hy;obtain⟨a,_,ha⟩:=List.mem_flatMap.1 h4;exact GO _ _ _ _ y ha
 by_cases hz:kI Q t i=0
 ·rw[hz]
  have hno:=Ox hb hz
  by_cases h0:x.blk t i=0
  ·exact h0.symm
  exfalso;obtain⟨h3,h4⟩:=(yq t i hi ⟨t,x.blk t i,i,0⟩).2 ⟨h0,rfl⟩;exact hno _ (h.mem.2 ⟨h1,h2,hk,h3⟩) ⟨rfl,h4⟩
 obtain⟨y,hy,e1,e2,e3,e4⟩:=KB hz;obtain⟨_,_,_,h4⟩:=h.mem.1 hy;rw[e1] at h4;obtain⟨_,h5⟩:=(yq t i hi y).1 ⟨h4,e2,e3⟩;rw[<-e4,h5]
end Im
namespace Im
variable {x:Im}
end Im
theorem zb(p:Nat->Bool)(a:Nat):∀m,aL p (a+m)=aL p a+aL (λr=>p (a+r)) m
 |0=>rfl
 |m+1=>by
  rw[<-Nat.add_assoc,aL,zb p a m,aL];omega
theorem uI:∀{n:Nat},(∀k,k<n->p k=false)->aL p n=0
 |0,_=>rfl
 |n+1,h=>by rw[aL,uI λk hk=>h k (by omega),h n (by omega)];rfl
theorem n7(p:Nat->Bool):∀n,aL p n+aL (λk=> !p k) n=n
 |0=>rfl
 |n+1=>by
  have ih:=n7 p n;rw[aL,aL];cases p n
  ·simp;omega
  simp;omega
namespace Im
variable {x:Im}
end Im
section
open Go.Shelf
theorem ik(q:Nat)(hq:q<=10)(w:World):Calls Tryz.prog 131 #[.int .i64 (q:Int)] w λe w'=>e= .returned (.int .i64 ((Im.lvl q:Nat):Int))/\w=w':=by
 have h1:¬(q:Int)<0:=by omega
 have h2:¬(10:Int)<(q:Int):=by omega
 by_cases h8:q<8
 ·have h3:(q:Int)<8:=by omega
  have xv:Hd (Im.lvl q=0):=by show _=_;unfold Im.lvl;rw[if_pos h8]
  go_enter Tryz.func131,Tryz.ntmps131;go_wp2_with fail;go_ret;exact⟨by rw[xv.Z];rfl,rfl⟩
 have h3:¬(q:Int)<8:=by omega
 have xv:Hd ((q:Int)-8+1=((Im.lvl q:Nat):Int)):=by show _=_;unfold Im.lvl;rw[if_neg h8];omega
 go_enter Tryz.func131,Tryz.ntmps131;go_wp2_with fail;go_ret;exact⟨by rw[<-xv.Z];rfl,rfl⟩
theorem gL(l:Nat)(hl:l<=3)(w:World):Calls Tryz.prog 142 #[.int .i64 (l:Int)] w λe w'=>e= .returned (.int .i64 ((Im.gh l:Nat):Int))/\w=w':=by
 obtain rfl|rfl|rfl|rfl:l=0\/l=1\/l=2\/l=3:=by omega
 ·go_enter Tryz.func142,Tryz.ntmps142
  go_wp2_with fail;refine wp_loop_rounds 1 ?_;rw[rounds_succ];go_wp2_with fail;go_ret;exact⟨rfl,rfl⟩
 ·go_enter Tryz.func142,Tryz.ntmps142
  go_wp2_with fail;refine wp_loop_rounds 2 ?_;rw[rounds_succ];go_wp2_with fail;rw[rounds_succ];go_wp2_with fail;go_ret;exact⟨rfl,rfl⟩
 ·go_enter Tryz.func142,Tryz.ntmps142
  go_wp2_with fail;refine wp_loop_rounds 3 ?_;rw[rounds_succ];go_wp2_with fail;rw[rounds_succ];go_wp2_with fail;rw[rounds_succ];go_wp2_with fail;go_ret;exact⟨rfl,rfl⟩
 go_enter Tryz.func142,Tryz.ntmps142;go_wp2_with fail;refine wp_loop_rounds 4 ?_;rw[rounds_succ];go_wp2_with fail;rw[rounds_succ];go_wp2_with fail;rw[rounds_succ];go_wp2_with fail;rw[rounds_succ];go_wp2_with fail;go_ret;exact⟨rfl,rfl⟩
def eK(k:Nat):Nat:=if k<9 then k else if k=9 then 72 else if k=10 then 4168 else 266312
theorem jM(hk:k<11):(eK k:Int)+(Im.gh (Im.lvl k):Nat)=(eK (k+1):Nat):=by
 have:k=0\/k=1\/k=2\/k=3\/k=4\/k=5\/k=6\/k=7\/k=8\/k=9\/k=10:=by omega
 rcases this with rfl|rfl|rfl|rfl|rfl|rfl|rfl|rfl|rfl|rfl|rfl<;>decide
theorem qs(k:Nat):eK k<=266312:=by
 unfold eK;split
 ·omega
 split
 ·omega
 split<;>omega
theorem rM(hk:k<11):Im.lvl k<=3:=by unfold Im.lvl;split<;>omega
theorem MH(hl:l<=3):1<=Im.gh l/\Im.gh l<=262144:=by
 obtain rfl|rfl|rfl|rfl:l=0\/l=1\/l=2\/l=3:=by omega
 all_goals decide
def BB(k:Nat):Array Value:=#[.int .i64 (k:Int),.int .i64 ((eK k:Nat):Int)]
theorem mj(n:Nat)(hn:1<=n):lF Fence.wide n Tryz.prog 161 #[] BB 11 (λ_=>False) (λ_ _=>True):=by
 intro l J Jx W _ _ hY h0 hN;have HY:=ah hY;clear hY;refine callsIn_of_wp Tryz.func161 rfl trivial ?_ rfl;simp only[Tryz.ntmps161,List.size_toArray,List.length_cons,List.length_nil,Nat.reduceAdd,Nat.reduceSub,Array.replicate_succ,Array.replicate_zero,List.push_toArray,List.append_toArray,List.nil_append,List.cons_append]
 gi_wp2
 gi_loopw [2,4] (λf i wr=>∃k:Nat,k<=11/\i= .int .i64 (k:Int)/\f= .int .i64 ((eK k:Nat):Int)/\J k wr) (λ_ i _=>11-(intOf i).toNat)
 case atStart=>exact⟨0,Nat.zero_le _,rfl,rfl,h0⟩
 obtain⟨k,hk,rfl,rfl,hJ⟩:=hrel
 by_cases hlt:k<11
 ·obtain⟨fn,tmps,assign,body,hy,hR⟩:=HY.Z k wr hlt hJ trivial
  dsimp only[BB] at hy;have hlt':(k:Int)<11:=by omega
  gi_wp2
  refine hR.mono ?_;clear hR hy;rintro e W3 (⟨rfl,hJ3,Py⟩|⟨rfl,AU⟩)
  ·gi_wp2_with (first|(refine⟨trivial,?_⟩;gi_at_call 131;refine(callsIn_wide.2 (ik k (by omega) _)).mono ?_;rintro e w' ⟨rfl,rfl⟩)|(refine⟨trivial,?_⟩;gi_at_call 142;refine(callsIn_wide.2 (gL (Im.lvl k) (rM hlt) _)).mono ?_;rintro e w' ⟨rfl,rfl⟩))
   go_roundw
   case rel=>exact⟨k+1,by omega,by go_num,by(refine int_eq ?_;rw[IntWalk.wrap64_in _ (by have h1:=jM hlt;have h2:=qs (k+1);omega)];exact jM hlt),hJ3⟩
   simp[intOf];omega
  gi_wp2
  refine bodyPost_ret (results_none rfl _ _ _) rfl ?_;exact⟨⟨_,rfl⟩,.inr ⟨k,hlt,AU⟩⟩
 obtain rfl:k=11:=by omega
 gi_wp2
 refine bodyPost_end (results_none rfl _ _ _) rfl ?_;exact⟨⟨_,rfl⟩,.inl hJ⟩
end
section
attribute [local go_sem] Oper.semAt_some
theorem kt(w:World):Calls Tryz.prog 141 #[] w λe w'=>e= .returned (.func (.func 161) #[] #[])/\w=w':=by
 have Ze:∀(fn:Fn) (first cap:Array Value) (w:World),(Instr.makeFunc fn first cap).run Tryz.prog w= .ok (.func fn first cap) w:=λ_ _ _ _=>rfl
 go_enter Tryz.func141,Tryz.ntmps141;go_wp2_with fail;go_ret;exact⟨rfl,rfl⟩
theorem nX{q:Nat}(hq:q<=10):Im.fst q=eK q:=by
 unfold Im.fst eK
 by_cases h1:q<9
 ·rw[if_pos h1,if_pos h1]
 rw[if_neg h1,if_neg h1]
 by_cases h2:q=9
 ·rw[if_pos h2,if_pos h2]
 rw[if_neg h2,if_neg h2,if_pos (by omega)]
structure Mx(w:World)(q r:Int)(W:World):Prop where
 q:At W w.heap.size 3 #[.int .i64 q]
 r:At W (w.heap.size+1) 3 #[.int .i64 r]
 bel:Below w.heap.size w W
theorem Mx.loc{q r:Int}{B:Nat}(hB:w.heap.size+1<B):aC B (Mx w q r):=λA C h hg=>
 ⟨aC.heap _ (by omega) A C h.q hg,aC.heap _ hB A C h.r hg,aC.below w (by omega) af A C h.bel hg⟩
theorem nN(q:Nat)(hq:q<=10)(w:World):Calls Tryz.prog 132 #[.int .i64 (q:Int)] w λe w'=>e= .returned (.int .i64 ((Im.fst q:Nat):Int))/\Below w.heap.size w w':=by
 refine(callsIn_wide (n:=5)).1 (callsIn_of_wp_marks Tryz.func132 rfl trivial ?_ rfl);refine wpIn_wide.2 ?_;simp only[Tryz.ntmps132,List.size_toArray,List.length_cons,List.length_nil,Nat.reduceAdd,Nat.reduceSub,Array.replicate_succ,Array.replicate_zero,List.push_toArray,List.append_toArray,List.nil_append,List.cons_append];have st0:Mx w (q:Int) 0 ((w.alloc (.cells #[.int .i64 (q:Int)] 3)).alloc (.cells #[.int .i64 0] 3)):=by
  refine⟨(At.new w _ _).alloc _,?_,(ag.alloc af _).alloc (by simp) _⟩;have:=At.new (w.alloc (.cells #[.int .i64 (q:Int)] 3)) 3 #[.int .i64 0];rwa[World.size_alloc] at this
 have HFX:Hd (Im.fst q=eK q):=nX hq;have dt:=ah st0;clear st0;go_wp2_with fail;refine(kt _).mono ?_;rintro e w1 ⟨rfl,rfl⟩;go_wp2_with fail;apply o5 (gf:=161) (lb:=#[]) rfl (enters_of Tryz.func161 (by kernel_rfl) rfl)
  (mj 4 (by decide)) (λk=>rfl)
  (λk W=>k<=q/\Mx w (q:Int) 0 W) (λc k W=>c= .ret/\Mx w (q:Int) ((eK q:Nat):Int) W)
  (λk=>(aC.pure _ _).and (Mx.loc (by simp)))
  (λc k=>(aC.pure _ _).and (Mx.loc (by simp)))
  (λk=>aC.pure _ True)
  ⟨Nat.zero_le _,dt.Z⟩ trivial
 case assign=>
  intro l k W K hk hK;dsimp only[BB]
  gi_wp2
  exact hK
 case body=>
  rintro l k W hk ⟨hkq,st⟩ _;have c0:W.cell? ⟨w.heap.size,0,none⟩=some (.int .i64 (q:Int)):=st.q.cell (i:=0) rfl;have c1:W.cell? ⟨w.heap.size+1,0,none⟩=some (.int .i64 0):=st.r.cell (i:=0) rfl;have f1:W.frozen? ⟨w.heap.size+1,0,none⟩=false:=an st.r 0
  by_cases he:k=q
  ·subst he
   have q1:((k:Int)==(k:Int))=true:=by simp
   have ho:=az.setCell W ⟨w.heap.size+1,0,none⟩ (.int .i64 ((eK k:Nat):Int));have HF:Hd (KeepsFrom ((w.alloc (.cells #[.int .i64 (k:Int)] 3)).alloc (.cells #[.int .i64 0] 3)).heap.size W (W.setCell ⟨w.heap.size+1,0,none⟩ (.int .i64 ((eK k:Nat):Int)))/\Mx w (k:Int) ((eK k:Nat):Int) (W.setCell ⟨w.heap.size+1,0,none⟩ (.int .i64 ((eK k:Nat):Int)))):=
    ⟨ho.keeps c1,st.q.only ho (by simp),dy st.r 0 _,st.bel.trans (ho.below (by simp))⟩
   clear st ho
   gi_wp2
   exact⟨HF.Z.1,rfl,HF.Z.2⟩
  have q1:((k:Int)==(q:Int))=false:=by simp;omega
  have ST:=ah st;have hk1:k+1<=q:=by omega
  clear st he
  gi_wp2
  exact⟨KeepsFrom.refl _ _,⟨hk1,ST.Z⟩,trivial⟩
 case done=>
  rintro D W hD ⟨h,_⟩ _;omega
 rintro D c k W hD hk ⟨rfl,st⟩ hK;have hr:=st.r.cell (i:=0) (v:=.int .i64 ((eK q:Nat):Int)) rfl;have hb:=st.bel;have Z5:w.heap.size<=D:=by simp at hD;omega
 have hr2:=dD (D:=D) (o':=.deferred none) hK rfl hr;go_wp2_with fail;refine dQ (v:=.int .i64 ((eK q:Nat):Int)) (D:=D) hK ?_ ⟨by rw[HFX.Z],eU hb _ af Z5⟩;simp[results,Tryz.f132,go_sem,hr2]
end
end Go.Proofs.YtphamecphmbipaaGreatDoor
