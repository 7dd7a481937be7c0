/- Texts of this claim, merged. -/
import Derived.Test.YtphamecphmbipaaGreatDoorK18
set_option linter.unusedVariables false
set_option maxRecDepth 100000
set_option maxHeartbeats 16000000

namespace Go.Proofs.YtphamecphmbipaaGreatDoor
open Go.RowKit
open Lib (hid)
variable {k l t i f v γ r b:Nat} {p:Nat->Bool} {m m':MS} {K A B:Int} {x:Im} {bP eN:Nat->Nat} {y:aK} {w:World}
theorem cV{σ:Type}{f:Nat->σ->Option σ}{o a:σ}{n:Nat}(h:aS f k o=some a)(hf:f k a=none)(hk:k<n):aS f n o=none:=by
 induction n with
 |zero=>omega
 |succ n ih=>
  rw[aS]
  by_cases e:k=n
  ·subst e;rw[h];exact hf
  ·rw[ih (by omega)];rfl
theorem bA{σ:Type}{f:Nat->σ->Option σ}{o a b:σ}(h:aS f k o=some a)(hf:f k a=some b):aS f (k+1) o=some b:=by
 rw[aS,h];exact hf
theorem rQ{σ:Type}{f:Nat->σ->Option σ}{o o':σ}{n:Nat}(h:aS f n o=some o')(hk:k<n):∃a b,aS f k o=some a/\f k a=some b:=by
 induction n generalizing o' with
 |zero=>omega
 |succ n ih=>
  rw[aS] at h;cases ha:aS f n o with
  |none=>rw[ha] at h;cases h
  |some a=>
   rw[ha] at h
   by_cases e:k=n
   ·subst e;exact⟨a,o',ha,h⟩
   ·exact ih ha (by omega)
theorem g9{σ:Type}{P:Nat->σ->Prop}{f:Nat->σ->Option σ}{o o':σ}{n:Nat}(h:aS f n o=some o')(h0:P 0 o)(hs:∀k a b,k<n->P k a->f k a=some b->P (k+1) b):P n o':=by
 induction n generalizing o' with
 |zero=>injection h with h;exact h▸h0
 |succ n ih=>
  rw[aS] at h;cases ha:aS f n o with
  |none=>rw[ha] at h;cases h
  |some a=>rw[ha] at h;exact hs n a o' (by omega) (ih ha λk a b hk=>hs k a b (by omega)) h
theorem eF(p:Nat->Bool)(n:Nat):aE p n<=n:=by
 induction n with
 |zero=>exact Nat.le_refl _
 |succ n ih=>rw[aE];split<;>omega
theorem fH{n:Nat}(hk:k<n)(h:p k=false):aE (af p k true) n=aE p n+1:=by
 induction n with
 |zero=>omega
 |succ n ih=>
  rw[aE,aE]
  by_cases e:k=n
  ·subst e
   rw[rX (q:=p) λi hi=>by unfold af;rw[if_neg (by omega)]];have:af p k true k=true:=by unfold af;rw[if_pos rfl]
   rw[this,h,if_pos rfl,if_neg (by decide)]
  ·have:af p k true n=p n:=by unfold af;rw[if_neg (by omega)]
   rw[ih (by omega),this];omega
namespace Im
variable {x:Im}
def okW(x:Im):Nat->Nat->Prop
 |0,p=>p=0\/x.data p=true
 |l+1,p=>p=0\/(x.data p=true/\∀k,k<64->okW x l (x.sJ p k))
theorem okW.lt{p:Nat}(h:x.okW l p)(h0:p≠0):p<x.n:=by
 have hd:x.data p=true:=by
  cases l with
  |zero=>exact h.resolve_left h0
  |succ l=>exact(h.resolve_left h0).1
 unfold data at hd;rw[Bool.and_eq_true,Bool.and_eq_true,decide_eq_true_eq,decide_eq_true_eq] at hd;exact hd.2.1
theorem Bm(t:Nat):∀(l p first en:Nat) (o o':Nat->Nat),x.ek t l p first en o=some o'->x.okW l p
 |0,p,first,en,o,o',h=>by
  rw[ek] at h
  by_cases h0:p=0
  ·exact .inl h0
  rw[if_neg h0] at h
  by_cases hc:first<min en 65536/\x.data p=true/\o p=0
  ·exact .inr hc.2.1
  ·rw[if_neg hc] at h;cases h
 |l+1,p,first,en,o,o',h=>by
  rw[ek] at h
  by_cases h0:p=0
  ·exact .inl h0
  rw[if_neg h0] at h
  by_cases hc:first<min en 65536/\x.data p=true/\o p=0
  ·rw[if_pos hc] at h
   refine .inr ⟨hc.2.1,λk hk=> ?_⟩;obtain⟨a,b,_,hb⟩:=rQ h hk;exact Bm t l _ _ _ a b hb
  ·rw[if_neg hc] at h;cases h
def Tree(x:Im)(t:Nat):Prop:=∀q,q<11->x.okW (lvl q) ((x.ino t).p q).toNat
theorem xj{m:Nat->Bool}{o:Nat->Nat}(h:x.trees m=some o)(h1:1<=t)(h2:t<=x.ni)(hk:(x.ino t).kind≠0):x.Tree t:=by
 obtain⟨a,b,_,hb⟩:=rQ h (k:=t-1) (by omega);rw[show t-1+1=t by omega] at hb;unfold fP at hb;rw[if_neg hk] at hb;intro q hq;obtain⟨a',b',_,hb'⟩:=rQ hb hq;exact Bm t _ _ _ _ _ _ hb'
theorem Ew{p:Nat}(h:x.okW l p):∀(ws:List Nat),ws.length<=l->(∀k,k∈ws->k<64)->x.okW (l-ws.length) (ws.foldl x.step p):=by
 intro ws
 induction ws generalizing l p with
 |nil=>intro _ _;exact h
 |cons k ws ih=>
  intro hl hk;rw[List.length_cons] at hl ⊢;obtain⟨l,rfl⟩:∃l',l=l'+1:=⟨l-1,by omega⟩;rw[show l+1-(ws.length+1)=l-ws.length by omega,List.foldl_cons];refine ih ?_ (by omega) λk' hk'=>hk k' (List.mem_cons_of_mem _ hk')
  unfold step;split
  ·cases l with
   |zero=>exact .inl rfl
   |succ l=>exact .inl rfl
  ·rename_i h0
   exact(h.resolve_left h0).2 k (hk k (List.mem_cons_self ..))
theorem m5(i:Nat):bC i<11:=by unfold bC;split<;>(try split)<;>(try split)<;>omega
theorem kE(i:Nat):(bE i).length=lvl (bC i):=by
 unfold bE bC lvl
 by_cases h1:i<8
 ·rw[if_pos h1,if_pos h1,if_pos h1];rfl
 rw[if_neg h1,if_neg h1]
 by_cases h2:i<72
 ·rw[if_pos h2,if_pos h2];rfl
 rw[if_neg h2,if_neg h2]
 by_cases h3:i<4168
 ·rw[if_pos h3,if_pos h3];rfl
 ·rw[if_neg h3,if_neg h3];rfl
theorem pK(hi:i<65536):∀k,k∈bE i->k<64:=by
 intro k hk;unfold bE at hk;split at hk
 ·cases hk
 split at hk
 ·simp only[List.mem_singleton] at hk;omega
 split at hk
 ·simp only[List.mem_cons,List.not_mem_nil,or_false] at hk;omega
 ·simp only[List.mem_cons,List.not_mem_nil,or_false] at hk;omega
theorem GG(h:x.Tree t)(hi:i<65536)(h0:x.blk t i≠0):x.blk t i<x.n:=by
 have:=Ew (h (bC i) (m5 i)) (bE i) (Nat.le_of_eq (kE i)) (pK hi);exact okW.lt this h0
theorem tN{m:Nat->Bool}(h0:t≠0)(h1:t<=x.ni)(h2:m t=false)(h3:(x.ino t).kind=1):x.ox (f+1) t m=x.ox f (x.ino t).next.toNat (af m t true):=by
 rw[ox,if_neg h0,if_pos ⟨h1,h2,h3⟩]
theorem Bt{m:Nat->Bool}(h0:t≠0)(h:¬(t<=x.ni/\m t=false/\(x.ino t).kind=1)):x.ox (f+1) t m=none:=by
 rw[ox,if_neg h0,if_neg h]
end Im
namespace Im
variable {x:Im}
end Im
theorem bT{F S P K' A' F' S' P':Int}(h:aI K A F S P=aI K' A' F' S' P'):K=K'/\A=A'/\F=F'/\S=S'/\P=P':=by
 simp only[aI] at h;simp only[Array.mk.injEq] at h;simp only[List.cons.injEq,Value.int.injEq,true_and,and_true] at h;exact h
theorem zG(hx:x.Ok)(hv:v<x.n)(h:lg x.g x.s x.i x.j v K A B):
  (v<2+x.j/\1<=K/\K<=3)\/∃γ r:Nat,γ<x.g/\r<x.s/\v=x.st γ+r/\A=(γ:Int)/\B=(r:Int)/\K=if r=0 then 4 else if r=1 then 5 else if r<x.own then 6 else 7:=by
 obtain⟨h1,h2,h3,h4,h5,h6,h7,h8,h9,h10,h11⟩:=dL hx.may;have hn:=hx.n;have e:((x.g*x.s:Nat):Int)=(x.g:Int)*(x.s:Int):=Int.natCast_mul _ _;rcases h with⟨h,_⟩|⟨_,k,Sz,Pl,hk,hp,hlo,hhi,hB⟩
 ·exfalso
  have hnb:oV x.g x.s x.i x.j=2+x.j+x.g*x.s:=by unfold oV;rw[hx.may];rfl
  rw[hnb,<-e,hx.may] at h;rcases h with h|h|h
  ·cases h
  ·omega
  ·omega
 by_cases h0:k=0
 ·subst h0
  have e1:s9 x.s ((x.i:Int)/4) x.j 1=1:=rfl;rw[Nat.zero_add,e1] at hhi;obtain⟨rfl,_⟩:=bT (hp.symm.trans (show pw x.s ((x.i:Int)/4) x.j 0=aI 1 0 0 1 0 from rfl));exact .inl ⟨by omega,by decide,by decide⟩
 by_cases h0:k=1
 ·subst h0
  have e1:s9 x.s ((x.i:Int)/4) x.j (1+1)=2:=rfl;rw[e1] at hhi;obtain⟨rfl,_⟩:=bT (hp.symm.trans (show pw x.s ((x.i:Int)/4) x.j 1=aI 2 0 1 1 0 from rfl));exact .inl ⟨by omega,by decide,by decide⟩
 by_cases h0:k=2
 ·subst h0
  have e1:s9 x.s ((x.i:Int)/4) x.j (2+1)=2+x.j:=by have:=nL x.s ((x.i:Int)/4) x.j 0;simpa using this
  rw[e1] at hhi;obtain⟨rfl,_⟩:=bT (hp.symm.trans (show pw x.s ((x.i:Int)/4) x.j 2=aI 3 0 2 x.j 0 from rfl));exact .inl ⟨by omega,by decide,by decide⟩
 obtain⟨γ,m,YI,rfl⟩:∃γ m,m<4/\k=3+4*γ+m:=⟨(k-3)/4,(k-3)%4,by omega,by omega⟩;have hγ:γ<x.g:=by omega
 have eg:((γ*x.s:Nat):Int)=(γ:Int)*(x.s:Int):=Int.natCast_mul _ _;have ei:(x.i:Int)/4=((x.i/4:Nat):Int):=by omega
 have hnx:s9 x.s ((x.i:Int)/4) x.j (3+4*γ+m+1)=2+x.j+(γ:Int)*x.s+(if m=0 then 1 else if m=1 then 2 else if m=2 then 2+(x.i:Int)/4 else x.s):=by
  by_cases e3:m=3
  ·subst e3
   have:=nL x.s ((x.i:Int)/4) x.j (γ+1);rw[show 3+4*(γ+1)=3+4*γ+3+1 by omega] at this;rw[this,if_neg (by decide),if_neg (by decide),if_neg (by decide)]
   push_cast
   rw[Int.add_mul,Int.one_mul];omega
  ·rw[show 3+4*γ+m+1=3+4*γ+(m+1) by omega,mG _ _ _ _ (show m+1<4 by omega)]
   obtain rfl|rfl|rfl:m=0\/m=1\/m=2:=by omega
   ·rfl
   ·rfl
   ·rfl
 rw[hnx,<-eg] at hhi;rw[mG _ _ _ _ YI] at hlo hB hp;rw[<-eg] at hlo hB;rw[vv _ _ _ _ YI] at hp;refine .inr ⟨γ,v-x.st γ,hγ,?_,?_,?_,?_,?_⟩
 ·unfold Im.st
  obtain rfl|rfl|rfl|rfl:m=0\/m=1\/m=2\/m=3:=by omega
  all_goals simp at hhi hlo;omega
 ·unfold Im.st
  obtain rfl|rfl|rfl|rfl:m=0\/m=1\/m=2\/m=3:=by omega
  all_goals simp at hhi hlo;omega
 ·obtain rfl|rfl|rfl|rfl:m=0\/m=1\/m=2\/m=3:=by omega
  ·rw[if_pos rfl] at hp;exact(bT hp).2.1.symm
  ·rw[if_neg (by decide),if_pos rfl] at hp;exact(bT hp).2.1.symm
  ·rw[if_neg (by decide),if_neg (by decide),if_pos rfl] at hp;exact(bT hp).2.1.symm
  ·rw[if_neg (by decide),if_neg (by decide),if_neg (by decide)] at hp;exact(bT hp).2.1.symm
 ·unfold Im.st
  obtain rfl|rfl|rfl|rfl:m=0\/m=1\/m=2\/m=3:=by omega
  ·rw[if_pos rfl] at hp;have:=(bT hp).2.2.2.2;simp at hhi hlo hB;omega
  ·rw[if_neg (by decide),if_pos rfl] at hp;have:=(bT hp).2.2.2.2;simp at hhi hlo hB;omega
  ·rw[if_neg (by decide),if_neg (by decide),if_pos rfl] at hp;have:=(bT hp).2.2.2.2;simp at hhi hlo hB;omega
  ·rw[if_neg (by decide),if_neg (by decide),if_neg (by decide)] at hp;have:=(bT hp).2.2.2.2;simp at hhi hlo hB;omega
 ·unfold Im.st Im.own
  obtain rfl|rfl|rfl|rfl:m=0\/m=1\/m=2\/m=3:=by omega
  ·rw[if_pos rfl] at hp;have:=(bT hp).1;simp at hhi hlo
   rw[if_pos (by omega)];exact this.symm
  ·rw[if_neg (by decide),if_pos rfl] at hp;have:=(bT hp).1;simp at hhi hlo
   rw[if_neg (by omega),if_pos (by omega)];exact this.symm
  ·rw[if_neg (by decide),if_neg (by decide),if_pos rfl] at hp;have:=(bT hp).1;simp at hhi hlo
   rw[if_neg (by omega),if_neg (by omega),if_pos (by omega)];exact this.symm
  ·rw[if_neg (by decide),if_neg (by decide),if_neg (by decide)] at hp;have:=(bT hp).1;simp at hhi hlo
   rw[if_neg (by omega),if_neg (by omega),if_neg (by omega)];exact this.symm
theorem qD(hr:r<x.s):(x.st γ+r-(2+x.j))%x.s=r/\(x.st γ+r-(2+x.j))/x.s=γ:=by
 unfold Im.st;rw[show 2+x.j+γ*x.s+r-(2+x.j)=r+x.s*γ by rw[Nat.mul_comm];omega];exact⟨by rw[Nat.add_mul_mod_self_left,Nat.mod_eq_of_lt hr],by rw[Nat.add_mul_div_left _ _ (by omega),Nat.div_eq_of_lt hr,Nat.zero_add]⟩
theorem wh(hx:x.Ok)(hγ:γ<x.g)(hr:r<x.s):x.data (x.st γ+r)=decide (x.own<=r):=by
 have h1:=hx.st hγ hr;unfold Im.data;rw[(qD hr).1];have:2+x.j<=x.st γ+r:=by unfold Im.st;omega
 simp[this,h1]
theorem Cr(hx:x.Ok)(hv:v<x.n)(h:lg x.g x.s x.i x.j v K A B):(K==7)=x.data v:=by
 rcases zG hx hv h with⟨h1,h2,h3⟩|⟨γ,r,hγ,hr,rfl,_,_,hK⟩
 ·unfold Im.data
  have:¬2+x.j<=v:=by omega
  simp[this];omega
 ·rw[wh hx hγ hr,hK]
  unfold Im.own
  by_cases h0:r=0
  ·subst h0;simp
  by_cases h1:r=1
  ·subst h1;simp;omega
  by_cases h2:r<2+x.i/4
  ·rw[if_neg h0,if_neg h1,if_pos h2];simp;omega
  ·rw[if_neg h0,if_neg h1,if_neg h2];simp;omega
theorem tz(z:Nat->Int)(i:Nat):bm (qx z i):=AV _
namespace MS
variable {x:Im}
structure Wf(x:Im)(m:MS)(bP:Nat->Nat):Prop where
 jg:∀b,bm (m.L b)
 zero:∀b,m.next<=b->x.data b=true->∀k,m.L b k=0
 ptr:∀b k,x.data b=true->b<m.next->0<bP b->k<64->(b9 (m.L b) (4*k)).toNat=0\/(x.data (b9 (m.L b) (4*k)).toNat=true/\(b9 (m.L b) (4*k)).toNat<m.next/\bP (b9 (m.L b) (4*k)).toNat+1=bP b)
 le:m.next<=x.n
def Pt(x:Im)(m:MS)(bP:Nat->Nat)(l v:Nat):Prop:=v=0\/(x.data v=true/\v<m.next/\bP v=l)
structure Ext(x:Im)(m:MS)(bP:Nat->Nat)(m':MS)(eN:Nat->Nat):Prop where
 le:m.next<=m'.next
 bP:∀b,x.data b=true->b<m.next->eN b=bP b
theorem Ext.refl(m:MS)(bP:Nat->Nat):Ext x m bP m bP:=⟨Nat.le_refl _,λ_ _ _=>rfl⟩
theorem Ext.trans{Yi:MS}{Ld:Nat->Nat}(h:Ext x m bP m' eN)(k:Ext x m' eN Yi Ld):Ext x m bP Yi Ld:=
 ⟨Nat.le_trans h.le k.le,λb hb hn=>(k.bP b hb (Nat.lt_of_lt_of_le hn h.le)).trans (h.bP b hb hn)⟩
theorem Pt.ext(h:Pt x m bP l v)(e:Ext x m bP m' eN):Pt x m' eN l v:=by
 rcases h with h|⟨h1,h2,h3⟩
 ·exact .inl h
 ·exact .inr ⟨h1,Nat.lt_of_lt_of_le h2 e.le,(e.bP v h1 h2).trans h3⟩
theorem Pt.lt(h:Pt x m bP l v)(h0:v≠0):v<x.n:=by
 rcases h with h|⟨h1,_,_⟩
 ·exact absurd h h0
 ·unfold Im.data at h1
  rw[Bool.and_eq_true,Bool.and_eq_true,decide_eq_true_eq,decide_eq_true_eq] at h1;exact h1.2.1
theorem xl(hs:2<=x.s)(l:Nat):∀(f:Nat) (m:MS) (bP:Nat->Nat),m.Wf x bP->m.next+f<=x.n->∃eN,(fQ x f m).2.Wf x eN/\Ext x m bP (fQ x f m).2 eN/\Pt x (fQ x f m).2 eN l (fQ x f m).1
 |0,m,bP,h,hf=>⟨bP,h,.refl _ _,.inl rfl⟩
 |f+1,m,bP,h,hf=>by
  rw[fQ]
  by_cases hd:x.data m.next=true
  ·rw[if_pos hd]
   refine⟨af bP m.next l,⟨λb=> ?_,λb hb pZ k=> ?_,λb k pZ hb hl hk=> ?_,by show m.next+1<=x.n;omega⟩,⟨by show m.next<=m.next+1;omega,λb pZ hb=> ?_⟩,.inr ⟨hd,by show m.next<m.next+1;omega,if_pos rfl⟩⟩
   ·show bm (af m.L _ _ b)
    unfold af;split
    ·exact tz _ _
    ·exact h.jg b
   ·show af m.L _ _ b k=0
    have hne:=Im.BR (k:=JO x m.next) (d:=0) pZ (by decide) hs;unfold af;rw[if_neg hne];exact h.zero b (by replace hb:m.next+1<=b:=hb;omega) pZ k
   ·have hne:=Im.BR (k:=JO x m.next) (d:=0) pZ (by decide) hs
    have e:(set x {m with next:=m.next+1} (JO x m.next) 0 (KY x m.next)).L b=m.L b:=by
     show af m.L _ _ b=_;unfold af;rw[if_neg hne]
    rw[e]
    replace hb:b<m.next+1:=hb
    by_cases kU:b=m.next
    ·left
     subst kU;have z:=h.zero m.next (Nat.le_refl _) hd
     unfold b9;rw[z,z,z,z];rfl
    ·have hl':0<bP b:=by unfold af at hl;rwa[if_neg kU] at hl
     rcases h.ptr b k pZ (by omega) hl' hk with h0|⟨h1,h2,h3⟩
     ·exact .inl h0
     ·refine .inr ⟨h1,by show _<m.next+1;omega,?_⟩
      unfold af;rw[if_neg kU,if_neg (by omega)];exact h3
   ·unfold af
    rw[if_neg (by omega)]
  ·rw[if_neg hd]
   obtain⟨eN,h1,h2,h3⟩:=xl hs l f {m with next:=m.next+1} bP ⟨h.jg,λb hb=>h.zero b (by replace hb:m.next+1<=b:=hb;omega),λb k pZ hb hl hk=>by
    replace hb:b<m.next+1:=hb
    have kU:b≠m.next:=λe=>hd (e▸pZ)
    rcases h.ptr b k pZ (by omega) hl hk with h0|⟨h1,h2,h3⟩
    ·exact .inl h0
    ·exact .inr ⟨h1,Nat.lt_succ_of_lt h2,h3⟩,by show m.next+1<=x.n;omega⟩ (by show m.next+1+f<=x.n;omega)
   refine⟨eN,h1,⟨?_,λb pZ hb=>h2.bP b pZ (by show b<m.next+1;omega)⟩,h3⟩;have:=h2.le
   replace this:m.next+1<=_:=this
   omega
theorem iM(hs:2<=x.s)(l:Nat)(h:m.Wf x bP):∃eN,(take x m).2.Wf x eN/\Ext x m bP (take x m).2 eN/\Pt x (take x m).2 eN l (take x m).1:=
 xl hs l _ m bP h (by have:=h.le;omega)
theorem Wf.Us(h:m.Wf x bP)(hb:Pt x m bP 0 b)(h0:b≠0){z:Nat->Int}(hz:bm z):(m.put b z).Wf x bP:=by
 rcases hb with hb|⟨h1,h2,h3⟩
 ·exact absurd hb h0
 refine⟨λc=> ?_,λc hc Lp k=> ?_,λc k Lp hc hl hk=> ?_,h.le⟩
 ·show bm (af m.L b z c)
  unfold af;split
  ·exact hz
  ·exact h.jg c
 ·show af m.L b z c k=0
  replace hc:m.next<=c:=hc
  unfold af;rw[if_neg (by omega)];exact h.zero c hc Lp k
 ·have e:(m.put b z).L c=m.L c:=by
   show af m.L b z c=_;unfold af;rw[if_neg (λe=>by rw[e,h3] at hl;omega)]
  rw[e];exact h.ptr c k Lp hc hl hk
theorem Wf.word(h:m.Wf x bP)(hn:x.n<=2048)(hb:Pt x m bP (l+1) b)(h0:b≠0)(hk:k<64)(hv:Pt x m bP l v):(m.put b (over (m.L b) (4*k) 4 (byteOf (v:Nat)))).Wf x bP:=by
 have Yw:v<2048:=by
  by_cases e:v=0
  ·omega
  ·have:=hv.lt e;omega
 rcases hb with hb|⟨h1,h2,h3⟩
 ·exact absurd hb h0
 refine⟨λc=> ?_,λc hc Lp i=> ?_,λc i Lp hc hl hi=> ?_,h.le⟩
 ·show bm (af m.L b _ c)
  unfold af;split
  ·exact eY (h.jg _) (r5 _) _ _
  ·exact h.jg c
 ·show af m.L b _ c i=0
  replace hc:m.next<=c:=hc
  unfold af;rw[if_neg (by omega)];exact h.zero c hc Lp i
 ·by_cases e:c=b
  ·subst e
   have e1:(m.put c (over (m.L c) (4*k) 4 (byteOf (v:Nat)))).L c=over (m.L c) (4*k) 4 (byteOf (v:Nat)):=if_pos rfl;rw[e1]
   by_cases ei:i=k
   ·subst ei
    rw[Gm _ _ _ (by omega) (by omega),Int.toNat_natCast];rcases hv with hv|⟨v1,v2,v3⟩
    ·exact .inl hv
    ·exact .inr ⟨v1,v2,by omega⟩
   ·rw[JQ _ _ _ _ _ (by omega)]
    exact h.ptr c i Lp hc hl hi
  ·have e1:(m.put b (over (m.L b) (4*k) 4 (byteOf (v:Nat)))).L c=m.L c:=if_neg e
   rw[e1];exact h.ptr c i Lp hc hl hi
theorem qg(hs:2<=x.s)(hn:x.n<=2048):∀(ks:List Nat) (b:Nat) (m:MS) (bP:Nat->Nat),m.Wf x bP->Pt x m bP ks.length b->(∀k∈ks,k<64)->∃eN,(down x ks b m).2.Wf x eN/\Ext x m bP (down x ks b m).2 eN/\Pt x (down x ks b m).2 eN 0 (down x ks b m).1
 |[],b,m,bP,h,hb,hk=>⟨bP,h,.refl _ _,hb⟩
 |k::ks,b,m,bP,h,hb,hk=>by
  rw[down]
  by_cases h0:b=0
  ·rw[if_pos h0]
   exact⟨bP,h,.refl _ _,.inl rfl⟩
  rw[if_neg h0];have ke:=hk k (List.mem_cons_self ..);have hks:∀k∈ks,k<64:=λk' h'=>hk k' (List.mem_cons_of_mem _ h')
  by_cases hv:(b9 (m.L b) (4*k)).toNat=0
  ·rw[if_pos hv]
   obtain⟨rq,a1,a2,a3⟩:=iM hs ks.length h;have w1:=a1.word hn (hb.ext a2) h0 ke a3;obtain⟨FG,b1,b2,b3⟩:=qg hs hn ks (m.take x).1 _ rq w1 (by rcases a3 with a3|a3;exact .inl a3;exact .inr a3) hks;exact⟨FG,b1,a2.trans ⟨b2.le,b2.bP⟩,b3⟩
  ·rw[if_neg hv]
   have hp:Pt x m bP ks.length (b9 (m.L b) (4*k)).toNat:=by
    rcases hb with hb|⟨h1,h2,h3⟩
    ·exact absurd hb h0
    ·rw[List.length_cons] at h3
     rcases h.ptr b k h1 h2 (by omega) ke with h'|⟨g1,g2,g3⟩
     ·exact .inl h'
     ·exact .inr ⟨g1,g2,by omega⟩
   exact qg hs hn ks _ m bP h hp hks
def N9(x:Im)(m:MS)(bP:Nat->Nat)(y:aK):Prop:=∀q,q<11->(0<=y.p q/\y.p q<4294967296)/\Pt x m bP (Im.lvl q) (y.p q).toNat
theorem N9.ext(h:N9 x m bP y)(e:Ext x m bP m' eN):N9 x m' eN y:=λq hq=>⟨(h q hq).1,(h q hq).2.ext e⟩
theorem JG(hs:2<=x.s)(hn:x.n<=2048)(h:m.Wf x bP)(hy:N9 x m bP y)(i:Int):
  ∃eN,(fm x y i m).2.2.Wf x eN/\Ext x m bP (fm x y i m).2.2 eN/\N9 x (fm x y i m).2.2 eN (fm x y i m).2.1/\Pt x (fm x y i m).2.2 eN 0 (fm x y i m).1:=by
 unfold fm
 by_cases hi:i<0\/65536<=i
 ·rw[if_pos hi]
  exact⟨bP,h,.refl _ _,hy,.inl rfl⟩
 rw[if_neg hi];have zm:i.toNat<65536:=by omega
 have hq:=Im.m5 i.toNat;have hl:=Im.kE i.toNat;have hk:=Im.pK zm
 by_cases h0:y.p (Im.bC i.toNat)=0
 ·rw[if_pos h0]
  obtain⟨rq,a1,a2,a3⟩:=iM hs (Im.lvl (Im.bC i.toNat)) h;obtain⟨FG,b1,b2,b3⟩:=qg hs hn (Im.bE i.toNat) (m.take x).1 _ rq a1 (by rw[hl];exact a3) hk;refine⟨FG,b1,a2.trans b2,λq hq'=> ?_,b3⟩;dsimp only
  by_cases e:q=Im.bC i.toNat
  ·rw[if_pos e,e,Int.toNat_natCast]
   have:(m.take x).1<2048:=by
    by_cases e:(m.take x).1=0
    ·omega
    ·have:=a3.lt e;omega
   exact⟨by omega,a3.ext b2⟩
  ·rw[if_neg e]
   exact⟨(hy q hq').1,((hy q hq').2.ext a2).ext b2⟩
 ·rw[if_neg h0]
  obtain⟨FG,b1,b2,b3⟩:=qg hs hn (Im.bE i.toNat) (y.p (Im.bC i.toNat)).toNat m bP h (by rw[hl];exact(hy _ hq).2) hk;exact⟨FG,b1,b2,hy.ext b2,b3⟩
theorem wf0(hx:x.Ok):Wf x ⟨iw x.g x.s x.i x.j,0⟩ (λ_=>0):=by
 obtain⟨h1,h2,h3,h4,h5,h6,h7,h8,h9,h10,h11⟩:=dL hx.may;refine⟨λb=>Bv _ _ _ _ b,λb _ hd k=> ?_,λb k _ hb _ _=>(by cases hb),Nat.zero_le _⟩;have hd2:=hd;unfold Im.data Im.own at hd2;rw[Bool.and_eq_true,Bool.and_eq_true,decide_eq_true_eq,decide_eq_true_eq,decide_eq_true_eq] at hd2;obtain⟨a1,a2,a3⟩:=hd2;have hr:(b-(2+x.j))%x.s<x.s:=Nat.mod_lt _ (by omega);have:=C9 (g:=x.g) (i:=x.i) (γ:=(b-(2+x.j))/x.s) (d:=(b-(2+x.j))%x.s) h3 h8 hr;have e:2+x.j+(b-(2+x.j))/x.s*x.s+(b-(2+x.j))%x.s=b:=by
  have:=Nat.div_add_mod (b-(2+x.j)) x.s;rw[Nat.mul_comm] at this;omega
 rw[e] at this;show iw x.g x.s x.i x.j b k=0;rw[this];rw[if_neg (by omega),if_neg (by omega),if_neg (by omega)]
end MS
theorem yN(p:Nat->Bool)(a:Nat):∀m,aE p (a+m)=aE p a+aE (λr=>p (a+r)) m
 |0=>rfl
 |m+1=>by
  rw[<-Nat.add_assoc,aE,yN p a m,aE];omega
theorem uq:∀{n:Nat},(∀k,k<n->p k=false)->aE p n=0
 |0,_=>rfl
 |n+1,h=>by rw[aE,uq λk hk=>h k (by omega),h n (by omega)];rfl
theorem nP(p:Nat->Bool):∀n,aE p n+aE (λk=> !p k) n=n
 |0=>rfl
 |n+1=>by
  have ih:=nP p n;rw[aE,aE];cases p n
  ·simp;omega
  ·simp;omega
namespace Im
variable {x:Im}
end Im
section
variable {P:Program}
theorem oM{g:Operand}{ps:Array Tmp}{LG LC:Code}{Q:Exit->Act->World->Prop}{a:Act}{gf:Nat}{lb:Array Value}
  (hg:a.eval g= .func (.func gf) #[] lb) (eg:∀args w,(callFunc gf args).run P w= .ok (.enter gf args) w)
  {iH:Nat->Array Value} {N:Nat} {ed:Nat->World->Prop} (hit:ll Fence.wide 4 P gf lb iH N (λ_=>False) ed) (hps:∀k,(iH k).size=ps.size)
  (J:Nat->World->Prop) (Jx:Code->Nat->World->Prop)
  (hJ:∀k,aw w.heap.size (J k)) (AG:∀c k,aw w.heap.size (Jx c k)) (hN:∀k,aw w.heap.size (ed k)) (h0:J 0 w) (hn0:ed 0 w) (A1:Nat->Act)
  (assign:∀(l k:Nat) (W:World) (K:Act->World->Prop),k<N->K (A1 k) W->
   LG.wpIn (Fence.wide.inRound l) 3 P (Exit.then K (λ_ _ _=>False)) {tmps:=(ps.zip (iH k)).foldl (λt (p,v)=>t.setIfInBounds p v) a.tmps,defers:=[]} W)
  (body:∀(l k:Nat) (W:World),k<N->J k W->ed k W->LC.wpIn (Fence.wide.inRound l) 3 P (nk w.heap.size J Jx ed k W) (A1 k) W)
  (done:∀(D:Nat) (W:World),w.heap.size<=D->J N W->W.heap[D]? =some (.deferred (some []))->Q .normal {a with defers:={target:=.collected D,args:=#[]}::a.defers} W)
  (stop:∀(D:Nat) (c:Code) (k:Nat) (W:World),w.heap.size<=D->k<N->Jx c k W->W.heap[D]? =some (.deferred (some []))->c.wp P Q {a with defers:={target:=.collected D,args:=#[]}::a.defers} W):
  (Code.rangeFunc g ps LG LC).wp P Q a w:=
 zE hg eg hit hps J Jx A1 hJ AG hN h0 hn0 assign body done stop
end
section
open Go.Shelf
theorem gS(q:Nat)(hq:q<=10)(w:World):Calls Tryz.prog 131 #[.int .i64 (q:Int)] w λe w'=>e= .returned (.int .i64 ((Im.lvl q:Nat):Int))/\w=w':=by
 have h1:¬(q:Int)<0:=by omega
 have h2:¬(10:Int)<(q:Int):=by omega
 by_cases h8:q<8
 ·have h3:(q:Int)<8:=by omega
  have wY:Hid (Im.lvl q=0):=by show _=_;unfold Im.lvl;rw[if_pos h8]
  go_enter Tryz.func131,Tryz.ntmps131;go_wp2_with fail;go_ret;exact⟨by rw[wY.out];rfl,rfl⟩
 ·have h3:¬(q:Int)<8:=by omega
  have wY:Hid ((q:Int)-8+1=((Im.lvl q:Nat):Int)):=by show _=_;unfold Im.lvl;rw[if_neg h8];omega
  go_enter Tryz.func131,Tryz.ntmps131;go_wp2_with fail;go_ret;exact⟨by rw[<-wY.out];rfl,rfl⟩
theorem gv(l:Nat)(hl:l<=3)(w:World):Calls Tryz.prog 142 #[.int .i64 (l:Int)] w λe w'=>e= .returned (.int .i64 ((Im.fL l:Nat):Int))/\w=w':=by
 obtain rfl|rfl|rfl|rfl:l=0\/l=1\/l=2\/l=3:=by omega
 ·go_enter Tryz.func142,Tryz.ntmps142
  go_wp2_with fail;refine wp_loop_rounds 1 ?_;rw[rounds_succ];go_wp2_with fail;go_ret;exact⟨rfl,rfl⟩
 ·go_enter Tryz.func142,Tryz.ntmps142
  go_wp2_with fail;refine wp_loop_rounds 2 ?_;rw[rounds_succ];go_wp2_with fail;rw[rounds_succ];go_wp2_with fail;go_ret;exact⟨rfl,rfl⟩
 ·go_enter Tryz.func142,Tryz.ntmps142
  go_wp2_with fail;refine wp_loop_rounds 3 ?_;rw[rounds_succ];go_wp2_with fail;rw[rounds_succ];go_wp2_with fail;rw[rounds_succ];go_wp2_with fail;go_ret;exact⟨rfl,rfl⟩
 ·go_enter Tryz.func142,Tryz.ntmps142
  go_wp2_with fail;refine wp_loop_rounds 4 ?_;rw[rounds_succ];go_wp2_with fail;rw[rounds_succ];go_wp2_with fail;rw[rounds_succ];go_wp2_with fail;rw[rounds_succ];go_wp2_with fail;go_ret;exact⟨rfl,rfl⟩
def ev(k:Nat):Nat:=if k<9 then k else if k=9 then 72 else if k=10 then 4168 else 266312
theorem jx(hk:k<11):(ev k:Int)+(Im.fL (Im.lvl k):Nat)=(ev (k+1):Nat):=by
 have:k=0\/k=1\/k=2\/k=3\/k=4\/k=5\/k=6\/k=7\/k=8\/k=9\/k=10:=by omega
 rcases this with rfl|rfl|rfl|rfl|rfl|rfl|rfl|rfl|rfl|rfl|rfl<;>decide
theorem qc(k:Nat):ev k<=266312:=by
 unfold ev;split
 ·omega
 ·split
  ·omega
  ·split<;>omega
theorem rk(hk:k<11):Im.lvl k<=3:=by unfold Im.lvl;split<;>omega
theorem Mg(hl:l<=3):1<=Im.fL l/\Im.fL l<=262144:=by
 obtain rfl|rfl|rfl|rfl:l=0\/l=1\/l=2\/l=3:=by omega
 all_goals decide
def Bn(k:Nat):Array Value:=#[.int .i64 (k:Int),.int .i64 ((ev k:Nat):Int)]
theorem lV(n:Nat)(hn:1<=n):ll Fence.wide n Tryz.prog 161 #[] Bn 11 (λ_=>False) (λ_ _=>True):=by
 intro l J Jx W _ _ hY h0 hN;have HY:=hid hY;clear hY;refine callsIn_of_wp Tryz.func161 rfl trivial ?_ rfl;simp only[Tryz.ntmps161,List.size_toArray,List.length_cons,List.length_nil,Nat.reduceAdd,Nat.reduceSub,Array.replicate_succ,Array.replicate_zero,List.push_toArray,List.append_toArray,List.nil_append,List.cons_append]
 gi_wp2
 gi_loopw [2,4] (λf i wr=>∃k:Nat,k<=11/\i= .int .i64 (k:Int)/\f= .int .i64 ((ev k:Nat):Int)/\J k wr) (λ_ i _=>11-(intOf i).toNat)
 case atStart=>exact⟨0,Nat.zero_le _,rfl,rfl,h0⟩
 case round=>
  obtain⟨k,hk,rfl,rfl,hJ⟩:=hrel
  by_cases hlt:k<11
  ·obtain⟨fn,tmps,assign,body,hy,hR⟩:=HY.out k wr hlt hJ trivial
   dsimp only[Bn] at hy;have hlt':(k:Int)<11:=by omega
   gi_wp2
   refine hR.mono ?_;clear hR hy;rintro e W3 (⟨rfl,hJ3,O2⟩|⟨rfl,AF⟩)
   ·gi_wp2_with (first|(refine⟨trivial,?_⟩;gi_at_call 131;refine(callsIn_wide.2 (gS k (by omega) _)).mono ?_;rintro e w' ⟨rfl,rfl⟩)|(refine⟨trivial,?_⟩;gi_at_call 142;refine(callsIn_wide.2 (gv (Im.lvl k) (rk hlt) _)).mono ?_;rintro e w' ⟨rfl,rfl⟩))
    go_roundw
    case rel=>exact⟨k+1,by omega,by go_num,by(refine int_eq ?_;rw[IntWalk.wrap64_in _ (by have h1:=jx hlt;have h2:=qc (k+1);omega)];exact jx hlt),hJ3⟩
    case measure=>simp[intOf];omega
   ·gi_wp2
    refine bodyPost_ret (results_none rfl _ _ _) rfl ?_;exact⟨⟨_,rfl⟩,.inr ⟨k,hlt,AF⟩⟩
  ·obtain rfl:k=11:=by omega
   gi_wp2
   refine bodyPost_end (results_none rfl _ _ _) rfl ?_;exact⟨⟨_,rfl⟩,.inl hJ⟩
end
section
attribute [local go_sem] Oper.semAt_some
theorem kb(w:World):Calls Tryz.prog 141 #[] w λe w'=>e= .returned (.func (.func 161) #[] #[])/\w=w':=by
 have YH:∀(fn:Fn) (first cap:Array Value) (w:World),(Instr.makeFunc fn first cap).run Tryz.prog w= .ok (.func fn first cap) w:=λ_ _ _ _=>rfl
 go_enter Tryz.func141,Tryz.ntmps141;go_wp2_with fail;go_ret;exact⟨rfl,rfl⟩
theorem nK{q:Nat}(hq:q<=10):Im.fst q=ev q:=by
 unfold Im.fst ev
 by_cases h1:q<9
 ·rw[if_pos h1,if_pos h1]
 ·rw[if_neg h1,if_neg h1]
  by_cases h2:q=9
  ·rw[if_pos h2,if_pos h2]
  ·rw[if_neg h2,if_neg h2,if_pos (by omega)]
structure L6(w:World)(q r:Int)(W:World):Prop where
 q:At W w.heap.size 3 #[.int .i64 q]
 r:At W (w.heap.size+1) 3 #[.int .i64 r]
 bel:Below w.heap.size w W
theorem L6.loc{q r:Int}{B:Nat}(hB:w.heap.size+1<B):aw B (L6 w q r):=λA C h hg=>
 ⟨aw.heap _ (by omega) A C h.q hg,aw.heap _ hB A C h.r hg,aw.below w (by omega) (Nat.le_refl _) A C h.bel hg⟩
theorem nA(q:Nat)(hq:q<=10)(w:World):Calls Tryz.prog 132 #[.int .i64 (q:Int)] w λe w'=>e= .returned (.int .i64 ((Im.fst q:Nat):Int))/\Below w.heap.size w w':=by
 refine(callsIn_wide (n:=5)).1 (callsIn_of_wp_marks Tryz.func132 rfl trivial ?_ rfl);refine wpIn_wide.2 ?_;simp only[Tryz.ntmps132,List.size_toArray,List.length_cons,List.length_nil,Nat.reduceAdd,Nat.reduceSub,Array.replicate_succ,Array.replicate_zero,List.push_toArray,List.append_toArray,List.nil_append,List.cons_append];have st0:L6 w (q:Int) 0 ((w.alloc (.cells #[.int .i64 (q:Int)] 3)).alloc (.cells #[.int .i64 0] 3)):=by
  refine⟨(At.new w _ _).alloc _,?_,((Below.refl _ _).alloc (Nat.le_refl _) _).alloc (by simp) _⟩;have:=At.new (w.alloc (.cells #[.int .i64 (q:Int)] 3)) 3 #[.int .i64 0];rwa[World.size_alloc] at this
 have HFX:Hid (Im.fst q=ev q):=nK hq;have cX:=hid st0;clear st0;go_wp2_with fail;refine(kb _).mono ?_;rintro e w1 ⟨rfl,rfl⟩;go_wp2_with fail;apply oM (gf:=161) (lb:=#[]) rfl (enters_of Tryz.func161 (by kernel_rfl) rfl)
  (lV 4 (by decide)) (λk=>rfl)
  (λk W=>k<=q/\L6 w (q:Int) 0 W) (λc k W=>c= .ret/\L6 w (q:Int) ((ev q:Nat):Int) W)
  (λk=>(aw.pure _ _).and (L6.loc (by simp)))
  (λc k=>(aw.pure _ _).and (L6.loc (by simp)))
  (λk=>aw.pure _ True)
  ⟨Nat.zero_le _,cX.out⟩ trivial
 case assign=>
  intro l k W K hk hK;dsimp only[Bn]
  gi_wp2
  exact hK
 case body=>
  rintro l k W hk ⟨hkq,st⟩ _;have c0:W.cell? ⟨w.heap.size,0,none⟩=some (.int .i64 (q:Int)):=st.q.cell (i:=0) rfl;have c1:W.cell? ⟨w.heap.size+1,0,none⟩=some (.int .i64 0):=st.r.cell (i:=0) rfl;have f1:W.frozen? ⟨w.heap.size+1,0,none⟩=false:=ag st.r 0
  by_cases he:k=q
  ·subst he
   have q1:((k:Int)==(k:Int))=true:=by simp
   have ho:=an.setCell W ⟨w.heap.size+1,0,none⟩ (.int .i64 ((ev k:Nat):Int));have HF:Hid (KeepsFrom ((w.alloc (.cells #[.int .i64 (k:Int)] 3)).alloc (.cells #[.int .i64 0] 3)).heap.size W (W.setCell ⟨w.heap.size+1,0,none⟩ (.int .i64 ((ev k:Nat):Int)))/\L6 w (k:Int) ((ev k:Nat):Int) (W.setCell ⟨w.heap.size+1,0,none⟩ (.int .i64 ((ev k:Nat):Int)))):=
    ⟨ho.keeps c1,st.q.only ho (by simp),dh st.r 0 _,st.bel.trans (ho.below (by simp))⟩
   clear st ho
   gi_wp2
   exact⟨HF.out.1,rfl,HF.out.2⟩
  ·have q1:((k:Int)==(q:Int))=false:=by simp;omega
   have ST:=hid st;have hk1:k+1<=q:=by omega
   clear st he
   gi_wp2
   exact⟨KeepsFrom.refl _ _,⟨hk1,ST.out⟩,trivial⟩
 case done=>
  rintro D W hD ⟨h,_⟩ _;omega
 case stop=>
  rintro D c k W hD hk ⟨rfl,st⟩ hK;have hr:=st.r.cell (i:=0) (v:=.int .i64 ((ev q:Nat):Int)) rfl;have hb:=st.bel;have Zz:w.heap.size<=D:=by simp at hD;omega
  have hr2:=dp (D:=D) (o':=.deferred none) hK rfl hr;go_wp2_with fail;refine dB (v:=.int .i64 ((ev q:Nat):Int)) (D:=D) hK ?_ ⟨by rw[HFX.out],eG hb _ (Nat.le_refl _) Zz⟩;simp[results,Tryz.f132,go_sem,hr2]
end
end Go.Proofs.YtphamecphmbipaaGreatDoor
