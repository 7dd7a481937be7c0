/- Texts of this claim, merged. -/
import Derived.WalkKit
import Derived.Below
import Derived.Deep.Draws
import Derived.Lib.Hide
import Derived.Laws.BitsAllLaws
import Derived.OwnWalk
import Derived.OpenShut
import Derived.Laws.AppendOwnNone
import Derived.ChangeKeysEq
import Derived.Laws.StructEq
set_option linter.unusedVariables false
namespace Go.Proofs.YtphamecphmbipaaGreatDoor
open Go.RowKit
variable {p:Prop} {B off lo m j base cap g:Nat} {w w':World} {a sa:Option Addr} {k:IntKind} {z f y:Nat->Int} {v:Value} {e t T:TypeId} {P:Program} {i:TypeInfo}
def Hd(p:Prop):Prop:=p
theorem ah(h:p):Hd p:=h
theorem Hd.Z(h:Hd p):p:=h
theorem aa{α:Sort _}(a:α):∃x,x=a:=⟨a,rfl⟩
theorem ae{α:Sort _}(a:α):∃x,a=x:=⟨a,rfl⟩
theorem af{n:Nat}:n<=n:=Nat.le_refl n
theorem ag:Below B w w:=Below.refl _ _
theorem aI{a b:Bool}(h:a=b):Ending.returned (.bool a)= .returned (.bool b):=by rw[h]
theorem vE{a b:Int}{c d:Bool}(h:a=b)(g:c=d):Ending.returned (.tuple #[.int k a,.bool c])= .returned (.tuple #[.int k b,.bool d]):=by rw[h,g]
theorem int_eq{a b:Int}(h:a=b):Value.int k a= .int k b:=by rw[h]
def Seg(w:World)(b off n:Nat)(z:Nat->Int):Prop:=∀i,i<n->w.cell? ⟨b,off+i,none⟩=some (.int .u8 (z i))
def bu(z:Nat->Int):Prop:=∀i,0<=z i/\z i<256
def Row(w:World)(a:Option Addr)(n:Nat)(z:Nat->Int):Prop:=n=0\/∃b off,a=some ⟨b,off,none⟩/\Seg w b off n z
def KT(w:World)(b off n:Nat):Prop:=∀i,i<n->w.frozen? ⟨b,off+i,none⟩=false
def g16(z:Nat->Int)(i:Nat):Int:=z i+256*z (i+1)
def cR(z:Nat->Int)(i:Nat):Int:=z i+256*z (i+1)+65536*z (i+2)+16777216*z (i+3)
def byteOf(v:Int)(i:Nat):Int:=v/256^i%256
def over(z:Nat->Int)(k n:Nat)(f:Nat->Int):Nat->Int:=λi=>if k<=i/\i<k+n then f (i-k) else z i
theorem gx(v:Int)(i:Nat):0<=byteOf v i/\byteOf v i<256:=by unfold byteOf;omega
theorem dU(v:Int):byteOf v 0=v%256:=by simp[byteOf]
theorem bC(v:Int)(i:Nat):byteOf v (i+1)=byteOf (v/256) i:=by
 unfold byteOf;rw[Int.pow_succ,Int.mul_comm,<-Int.ediv_ediv_of_nonneg (by omega)]
theorem eO(hz:bu z)(hf:bu f)(k n:Nat):bu (over z k n f):=by
 intro i;unfold over;split
 ·exact hf _
 exact hz _
theorem mT(v:Int):bu (byteOf v):=gx v
theorem oS(hz:bu z)(i:Nat):0<=g16 z i/\g16 z i<65536:=by
 have:=hz i;have:=hz (i+1);unfold g16;omega
theorem dP(hz:bu z)(i:Nat):0<=cR z i/\cR z i<4294967296:=by
 have:=hz i;have:=hz (i+1);have:=hz (i+2);have:=hz (i+3);unfold cR;omega
theorem Seg.sub{b n:Nat}(h:Seg w b off n z)(k m:Nat)(hk:k+m<=n):Seg w b (off+k) m (λi=>z (k+i)):=by
 intro i hi;have:=h (k+i) (by omega);rw[Nat.add_assoc];exact this
theorem Seg.take{b n:Nat}(h:Seg w b off n z)(m:Nat)(hk:m<=n):Seg w b off m z:=λi hi=>h i (by omega)
theorem Seg.congr{b n:Nat}(h:Seg w b off n z)(e:∀i,i<n->z i=y i):Seg w b off n y:=λi hi=>by rw[<-e i hi];exact h i hi
theorem iD{a:World}(h:Below B a w)(n:Nat):Below B a (w.drewN n):=h.trans ⟨rfl,rfl,rfl,Nat.le_refl _,λ_ _=>rfl⟩
structure az(b:Nat)(w w':World):Prop where
 os:w'.os=w.os
 tape:w'.tape=w.tape
 output:w'.output=w.output
 size:w'.heap.size=w.heap.size
 block:∀k,k≠b->w'.heap[k]? =w.heap[k]?
 frozen:∀a,w'.frozen? a=w.frozen? a
 shape:∀c e fr,w.heap[b]? =some (.cells c e fr)->∃c',c'.size=c.size/\w'.heap[b]? =some (.cells c' e fr)
theorem az.refl(b:Nat)(w:World):az b w w:=⟨rfl,rfl,rfl,rfl,λ_ _=>rfl,λ_=>rfl,λc _ _ h=>⟨c,rfl,h⟩⟩
theorem az.drewN{b:Nat}(h:az b w w')(m:Nat):az b w (w'.drewN m):=⟨h.os,h.tape,h.output,h.size,h.block,h.frozen,h.shape⟩
theorem az.trans{b:Nat}{u v:World}(h:az b u v)(k:az b v w):az b u w:=
 ⟨k.os.trans h.os,k.tape.trans h.tape,k.output.trans h.output,k.size.trans h.size,λj hj=>(k.block j hj).trans (h.block j hj),λa=>(k.frozen a).trans (h.frozen a),
  λc e fr hc=>by obtain⟨c1,h1,g1⟩:=h.shape c e fr hc;obtain⟨c2,h2,g2⟩:=k.shape c1 e fr g1;exact⟨c2,h2.trans h1,g2⟩⟩
theorem az.setCell(w:World)(a:Addr)(v:Value):az a.block w (w.setCell a v):=
 ⟨rfl,rfl,rfl,by simp[World.setCell],λk hk=>Below.heap_setCell w a v k hk,λx=>World.frozen?_setCell ..,λc e fr hc=>by
  obtain⟨hlt,hk⟩:=Array.getElem?_eq_some_iff.1 hc;refine⟨if a.spot.isSome then c else c.setIfInBounds a.off v,by split<;>simp,?_⟩;show(w.heap.modify a.block _)[a.block]? =_;rw[Array.getElem?_eq_getElem (by rw[Array.size_modify];exact hlt),Array.getElem_modify_self,hk]⟩
theorem az.below{b:Nat}(h:az b w w')(hb:B<=b):Below B w w':=
 ⟨h.os,h.tape,h.output,by rw[h.size];exact Nat.le_refl _,λk hk=>h.block k (by omega)⟩
theorem az.cell{b:Nat}(h:az b w w'){p:Addr}(hp:p.block≠b):w'.cell? p=w.cell? p:=World.cell?_of_block (w:=w) (h.block p.block hp)
theorem az.bQ{b:Nat}(h:az b w w'){c n:Nat}(hc:c≠b)(hs:Seg w c off n z):Seg w' c off n z:=
 λi hi=>(h.cell (p:=⟨c,off+i,none⟩) hc).trans (hs i hi)
theorem az.row{b:Nat}(h:az b w w'){n:Nat}(hc:∀x,a=some x->x.block≠b)(hs:Row w a n z):Row w' a n z:=by
 rcases hs with h0|⟨c,off,rfl,hs⟩
 ·exact .inl h0
 exact .inr ⟨c,off,rfl,h.bQ (hc _ rfl) hs⟩
structure gj(b lo n:Nat)(f:Nat->Int)(w w':World):Prop where
 only:az b w w'
 cell:∀o,w'.cell? ⟨b,o,none⟩=if lo<=o/\o<lo+n then some (.int .u8 (f (o-lo))) else w.cell? ⟨b,o,none⟩
theorem gj.nil(b lo:Nat)(f:Nat->Int)(w:World):gj b lo 0 f w w:=⟨az.refl _ _,λo=>by rw[if_neg (by omega)]⟩
theorem gj.drewN{b n:Nat}(h:gj b lo n f w w')(m:Nat):gj b lo n f w (w'.drewN m):=⟨h.only.drewN m,h.cell⟩
theorem gj.snoc{b n:Nat}(h:gj b lo n f w w'){u:Value}(hu:w.cell? ⟨b,lo+n,none⟩=some u)(hv:v= .int .u8 (f n)):
  gj b lo (n+1) f w (w'.setCell ⟨b,lo+n,none⟩ v):=by
 subst hv;refine⟨h.only.trans (az.setCell w' ⟨b,lo+n,none⟩ _),λo=> ?_⟩
 by_cases ho:o=lo+n
 ·subst ho
  rw[if_pos (by omega),World.cell?_setCell_same (u:=u)]
  ·congr 2;rw[Nat.add_sub_cancel_left]
  rw[h.cell,if_neg (by omega)];exact hu
 rw[World.cell?_setCell_other,h.cell]
 ·by_cases hi:lo<=o/\o<lo+n
  ·rw[if_pos hi,if_pos (by omega)]
  rw[if_neg hi,if_neg (by omega)]
 intro he;apply ho;injection he with _ e2;exact e2.symm
theorem gj.bQ{b n:Nat}(h:gj b lo n f w w'){k:Nat}(hs:Seg w b off m z)(hk:lo=off+k):Seg w' b off m (over z k n f):=by
 intro i hi;rw[h.cell,hs i hi];unfold over;subst hk
 by_cases hc:k<=i/\i<k+n
 ·rw[if_pos (by omega),if_pos hc];congr 2;congr 1;omega
 rw[if_neg (by omega),if_neg hc]
theorem jV(v x:Int)(h0:0<=v)(h1:v<16777216)(h2:0<=x)(h3:x<256):bits .or .u32 (v*256) x=v*256+x:=by
 obtain⟨V,rfl⟩:=Int.eq_ofNat_of_zero_le h0;obtain⟨X,rfl⟩:=Int.eq_ofNat_of_zero_le h2;have e:=u32_or_nat (V*256) X (by omega) (by omega);rw[show((V*256:Nat):Int)=(V:Int)*256 from by omega] at e;rw[e];have:=Nat.two_pow_add_eq_or_of_lt (i:=8) (b:=X) (by omega) V;rw[show(2:Nat)^8*V=V*256 from by omega] at this;omega
theorem qV(v x:Int)(h0:0<=v)(h1:v<256)(h2:0<=x)(h3:x<256):bits .or .u16 (v*256) x=v*256+x:=by
 obtain⟨V,rfl⟩:=Int.eq_ofNat_of_zero_le h0;obtain⟨X,rfl⟩:=Int.eq_ofNat_of_zero_le h2;have e:=u16_or_nat (V*256) X (by omega) (by omega);rw[show((V*256:Nat):Int)=(V:Int)*256 from by omega] at e;rw[e];have:=Nat.two_pow_add_eq_or_of_lt (i:=8) (b:=X) (by omega) V;rw[show(2:Nat)^8*V=V*256 from by omega] at this;omega
def dw(z:Nat->Int):Nat->Bool
 |0=>true
 |n+1=>dw z n&&decide (z n=0)
theorem iE(z:Nat->Int)(n:Nat):dw z (n+1)=(dw z n&&decide (z n=0)):=rfl
theorem jO(z:Nat->Int)(n:Nat):dw z n=true↔∀i,i<n->z i=0:=by
 induction n with
 |zero=>simp[dw]
 |succ n ih=>
  rw[iE,Bool.and_eq_true,ih,decide_eq_true_eq];constructor
  ·rintro⟨h,g⟩ i hi
   by_cases e:i=n
   ·rw[e];exact g
   exact h i (by omega)
  intro h;exact⟨λi hi=>h i (by omega),h n (by omega)⟩
theorem Ck{n:Nat}(hj:j<n)(h:¬z j=0):dw z n=false:=by
 cases e:dw z n with
 |false=>rfl
 |true=>exact absurd ((jO z n).1 e j hj) h
def mr(z y:Nat->Int):Nat->Bool
 |0=>true
 |n+1=>mr z y n&&decide (z n=y n)
theorem y8(z y:Nat->Int)(n:Nat):mr z y (n+1)=(mr z y n&&decide (z n=y n)):=rfl
theorem jg(z y:Nat->Int)(n:Nat):mr z y n=true↔∀i,i<n->z i=y i:=by
 induction n with
 |zero=>simp[mr]
 |succ n ih=>
  rw[y8,Bool.and_eq_true,ih,decide_eq_true_eq];constructor
  ·rintro⟨h,g⟩ i hi
   by_cases e:i=n
   ·rw[e];exact g
   exact h i (by omega)
  intro h;exact⟨λi hi=>h i (by omega),h n (by omega)⟩
theorem Ol{n:Nat}(hj:j<n)(h:¬z j=y j):mr z y n=false:=by
 cases e:mr z y n with
 |false=>rfl
 |true=>exact absurd ((jg z y n).1 e j hj) h
def Bs(n:Nat)(z:Nat->Int):List Value:=(List.range n).map λi=> .int .u8 (z i)
theorem fL(n:Nat)(z:Nat->Int):(Bs n z).length=n:=by simp[Bs]
theorem mY(n:Nat)(z:Nat->Int)(i:Nat)(h:i<n):(Bs n z)[i]? =some (.int .u8 (z i)):=by simp[Bs,h]
def cat(z:Nat->Int)(n:Nat)(y:Nat->Int):Nat->Int:=λi=>if i<n then z i else y (i-n)
theorem O8(n m:Nat)(z y:Nat->Int):Bs n z++Bs m y=Bs (n+m) (cat z n y):=by
 apply List.ext_getElem?;intro i
 by_cases h:i<n
 ·rw[List.getElem?_append_left (by rw[fL];exact h),mY _ _ _ h,mY _ _ _ (by omega)];simp[cat,h]
 rw[List.getElem?_append_right (by rw[fL];omega),fL]
 by_cases h2:i-n<m
 ·rw[mY _ _ _ h2,mY _ _ _ (by omega)];simp[cat,h]
 rw[List.getElem?_eq_none (by rw[fL];omega),List.getElem?_eq_none (by rw[fL];omega)]
theorem Hz{n:Nat}(h:∀i,i<n->z i=y i):Bs n z=Bs n y:=by
 unfold Bs;apply List.map_congr_left;intro i hi;rw[h i (by simpa using hi)]
def gP(w:World)(base:Nat)(e:TypeId)(sa:Option Addr)(n cap:Nat)(z:Nat->Int):Prop:=w.ownsRow base e 1 (.slice sa n cap) n (Bs n z)
theorem gP.parts{n:Nat}(h:gP w base e sa n cap z):
  (sa=none/\n=0/\cap=0)\/∃g,sa=some ⟨g,0,none⟩/\base<=g/\g<w.heap.size/\n<=cap/\Seg w g 0 n z/\KT w g 0 cap:=by
 rcases h.2 with⟨hv,h0⟩|⟨g,cap',cur,hv,hb,hg,hn,hc,hs,ht⟩
 ·injection hv with h1 h2 h3;exact .inl ⟨h1,h0,h3⟩
 injection hv with h1 h2 h3
 subst h1 h3;have hlt:=(Array.getElem?_eq_some_iff.1 hg).1;refine .inr ⟨g,rfl,hb,hlt,hn,?_,?_⟩
 ·intro i hi
  have:=mY n z i hi;rw[<-ht,List.getElem?_take_of_lt (by omega)] at this;simp[World.cell?,hg];simpa using this
 intro i hi;simp[World.frozen?,hg]
theorem gP.row{n:Nat}(h:gP w base e sa n cap z):Row w sa n z:=by
 rcases h.parts with⟨_,h0,_⟩|⟨g,rfl,_,_,_,hs,_⟩
 ·exact .inl h0
 exact .inr ⟨g,0,rfl,hs⟩
theorem gP.le{n:Nat}(h:gP w base e sa n cap z):∀x,sa=some x->base<=x.block/\x.block<w.heap.size:=by
 intro x hx;rcases h.parts with⟨h0,_⟩|⟨g,h1,hb,hl,_⟩
 ·rw[h0] at hx;cases hx
 rw[h1] at hx;cases hx;exact⟨hb,hl⟩
theorem gP.congr{n:Nat}(h:gP w base e sa n cap z)(hy:∀i,i<n->z i=y i):gP w base e sa n cap y:=by
 unfold gP;rw[<-Hz hy];exact h
theorem gP.nil(w:World)(base:Nat)(e:TypeId)(z:Nat->Int):gP w base e none 0 0 z:=World.ownsRow_nil w base e 1
theorem gP.made(w:World)(base:Nat)(e:TypeId)(z:Nat->Int)(hb:base<=w.heap.size):gP (w.alloc (.cells #[] e)) base e (some ⟨w.heap.size,0,none⟩) 0 0 z:=
 World.ownsRow_made (cur:=#[]) (cap:=0) w (base:=base) (e:=e) (size:=1) hb (by unfold maxLen;omega) (by simp)
theorem lX{ops:Array Oper}{rest:List Oper}{o:Oper}{a:Act}{Q:Exit->Act->World->Prop}(hgd:o.guard=none)(s x:Operand)(t:TypeId)
  (ho:o.op= .call {callee:=.builtin .append,args:=#[s,x],argTypes:=#[t,t]})
  (base:Nat) (e:TypeId) (i:TypeInfo) (ht:P.underlying t=some (.slice e)) (hi:P.info? e=some i) (hz:i.zero=some (.int .u8 0)) (hsize:i.size=1) (hby:i.bytes=1)
  (sa:Option Addr) (n cap:Nat) (z:Nat->Int) (hs:a.eval s= .slice sa n cap) (hown:gP w base e sa n cap z)
  (xa:Option Addr) (m c:Nat) (y:Nat->Int) (hx:a.eval x= .slice xa m c) (hc:xa=none->c=0) (hr:Row w xa m y)
  (hm:n+m<=140737488355328) (hbase:base<=w.heap.size)
  (h:∀MO cap' w',gP w' base e MO (n+m) cap' (cat z n y)->w.grownBy w' (Value.slice sa n cap).ownBlock->(MO=none->n+m=0)->wpList P ops Q rest (a.put o.dst (.slice MO (n+m) cap')) w'):
  wpList P ops Q (o::rest) a w:=by
 have fin:∀v' w',w'.ownsRow base e 1 v' (n+m) (Bs n z++Bs m y)->w.grownBy w' (Value.slice sa n cap).ownBlock->wpList P ops Q rest (a.put o.dst v') w':=by
  intro v' w' hown' hg;rw[O8] at hown';rcases hown'.2 with⟨rfl,h0⟩|⟨g,cap',cur,rfl,_⟩
  ·have hM:gP w' base e none (n+m) 0 (cat z n y):=by unfold gP;rw[h0] at hown' ⊢;exact hown'
   have:=h none 0 w' hM hg (λ_=>h0);rw[h0] at this;exact this
  exact h _ cap' w' hown' hg (λh=>by cases h)
 have Pm:n+m<=maxLen:=by unfold maxLen;omega
 cases xa with
 |some ad=>
  refine wpList_append_own w hgd s x t ho base e i (.int .u8 0) 1 1 ht hi hz hsize hby rfl (by decide) _ n (Bs n z) hs hown ad m c (Bs m y) hx (by simp[fL]) ?_ ?_ Pm (by omega) hbase (λv' w' h1 h2 _=>fin v' w' h1 h2)
  ·intro j u hj
   have hjm:j<m:=by have:=(List.getElem?_eq_some_iff.1 hj).1;rwa[fL] at this
   rw[mY _ _ _ hjm] at hj;rcases hr with h0|⟨b,off,he,hseg⟩
   ·omega
   injection he with he;subst he
   have:=hseg j hjm;rw[<-hj,<-this];unfold Addr.add;split
   ·next h=>subst h;rfl
   rfl
  intro u hu;obtain⟨k,_,rfl⟩:=List.mem_map.1 hu
  rfl
 |none=>
  have h0:m=0:=by
   rcases hr with h0|⟨b,off,he,_⟩
   ·exact h0
   cases he
  have hc0:=hc rfl;subst h0 hc0;refine wpList_append_own_none hgd s x t ho base e i 1 ht hi _ n (Bs n z) hs hown hx (fin _ _ ?_ ?_)
  ·rw[show Bs 0 y=[] from rfl,List.append_nil];exact hown
  exact⟨rfl,rfl,rfl,Nat.le_refl _,λ_ _ _=>rfl⟩
def Ks(k:IntKind)(n:Nat)(z:Nat->Int):List Value:=(List.range n).map λi=> .int k (z i)
theorem bD(k:IntKind)(n:Nat)(z:Nat->Int):(Ks k n z).length=n:=by simp[Ks]
theorem gX(k:IntKind)(n:Nat)(z:Nat->Int)(i:Nat)(h:i<n):(Ks k n z)[i]? =some (.int k (z i)):=by simp[Ks,h]
theorem Hb(z y:Nat->Int)(n:Nat):((List.range n).all λi=>z i==y i)=mr z y n:=by
 rw[Bool.eq_iff_iff,jg,List.all_eq_true];simp
theorem gn(w:World)(d:Nat){n:Nat}(hu:P.underlying t=some (.array n e))(hi:P.info? e=some i)(he:P.underlying e=some (.int k))(hce:P.cellsOf e=1)
  (z y:Nat->Int):(Op.equalIn (d+2) t (.agg (Ks k n z).toArray) (.agg (Ks k n y).toArray)).run P w= .ok (mr z y n) w:=by
 rw[show d+2=(d+1)+1 from rfl,run_equalIn_array w (d+1) _ _ hu hi,hce,<-Hb z y n];have hl:∀j∈List.range n,j<n:=λj hj=>by simpa using hj
 generalize List.range n=l at hl ⊢
 induction l with
 |nil=>simp[Op.eqItems]
 |cons j l ih=>
  have hj:j<n:=hl j (by simp);have px:∀u:Nat->Int,(part e (Ks k n u).toArray (j*1)).run P w= .ok (.int k (u j)) w:=λu=>by
   simp[part,isAgg,run_underlying he,gX k n u j hj]
  simp only[Op.eqItems,Sem.run_bind,px,Result.andThen_ok,run_equalIn_int w d e k k _ _ he,List.all_cons];cases hb:(z j==y j)
  ·simp
  simp only[Bool.true_and];simp only[Bool.not_true,Bool.false_eq_true,if_false]
  first|exact ih (λj hj=>hl j (by simp[hj]))|(simp;exact ih (λj hj=>hl j (by simp[hj])))
theorem vv(w:World){n:Nat}(hu:P.underlying t=some (.array n e))(hi:P.info? e=some i)(he:P.underlying e=some (.int k))(hce:P.cellsOf e=1)
  (z y:Nat->Int):(binOp .eql t (.agg (Ks k n z).toArray) (.agg (Ks k n y).toArray)).run P w= .ok (.bool (mr z y n)) w:=by
 rw[run_eql_struct,show(10000:Nat)=9998+2 from rfl,gn w 9998 hu hi he hce z y];rfl
theorem vq(w:World){n:Nat}(hu:P.underlying t=some (.array n e))(hi:P.info? e=some i)(he:P.underlying e=some (.int k))(hce:P.cellsOf e=1)
  (z y:Nat->Int):(binOp .neq t (.agg (Ks k n z).toArray) (.agg (Ks k n y).toArray)).run P w= .ok (.bool (!mr z y n)) w:=by
 rw[run_neq_struct,show(10000:Nat)=9998+2 from rfl,gn w 9998 hu hi he hce z y];rfl
theorem Seg.alloc{b n:Nat}(h:Seg w b off n z)(o:Obj):Seg (w.alloc o) b off n z:=by
 intro i hi;have h1:=h i hi;have:=World.block_lt_of_cell? w _ h1;rw[World.cell?_of_block (w:=w) (Below.heap_alloc w o b this)];exact h1
theorem Row.alloc{n:Nat}(h:Row w a n z)(o:Obj):Row (w.alloc o) a n z:=by
 rcases h with h|⟨b,off,rfl,hs⟩
 ·exact .inl h
 exact .inr ⟨b,off,rfl,hs.alloc o⟩
theorem Seg.lt{b n:Nat}(h:Seg w b off n z)(h0:0<n):b<w.heap.size:=World.block_lt_of_cell? w _ (h 0 h0)
theorem Row.take{n:Nat}(h:Row w a n z)(m:Nat)(hm:m<=n):Row w a m z:=by
 rcases h with h|⟨b,off,rfl,hs⟩
 ·exact .inl (by omega)
 exact .inr ⟨b,off,rfl,hs.take m hm⟩
theorem zi(v:Int)(h0:0<=v)(h1:v<4294967296):byteOf v 0+256*byteOf v 1+65536*byteOf v 2+16777216*byteOf v 3=v:=by
 rw[bC v 2,bC (v/256) 1,bC v 1,bC (v/256) 0,bC (v/256/256) 0,bC v 0];simp only[dU];omega
theorem GJ(z:Nat->Int)(k:Nat)(v:Int)(h0:0<=v)(h1:v<4294967296):cR (over z k 4 (byteOf v)) k=v:=by
 unfold cR over;rw[if_pos (by omega),if_pos (by omega),if_pos (by omega),if_pos (by omega),Nat.sub_self,show k+1-k=1 by omega,show k+2-k=2 by omega,show k+3-k=3 by omega];exact zi v h0 h1
theorem cJ(z:Nat->Int)(k n i:Nat)(f:Nat->Int)(h:i<k\/k+n<=i):over z k n f i=z i:=by unfold over;rw[if_neg (by omega)]
theorem gC(z:Nat->Int)(k n i:Nat)(f:Nat->Int)(h:k<=i/\i<k+n):over z k n f i=f (i-k):=by unfold over;rw[if_pos h]
theorem Kg(z:Nat->Int)(k n i:Nat)(f:Nat->Int)(h:i+4<=k\/k+n<=i):cR (over z k n f) i=cR z i:=by
 unfold cR;rw[cJ z k n i f (by omega),cJ z k n (i+1) f (by omega),cJ z k n (i+2) f (by omega),cJ z k n (i+3) f (by omega)]
theorem A9(z:Nat->Int)(hz:bu z)(k i:Nat)(hi:i<4):byteOf (cR z k) i=z (k+i):=by
 have h0:=hz k;have h1:=hz (k+1);have h2:=hz (k+2);have h3:=hz (k+3);obtain rfl|rfl|rfl|rfl:i=0\/i=1\/i=2\/i=3:=by omega
 ·rw[dU,Nat.add_zero];unfold cR;omega
 ·rw[bC,dU];unfold cR;omega
 ·rw[bC,bC,dU];unfold cR;omega
 rw[bC,bC,bC,dU];unfold cR;omega
def aU(w:World)(g:Nat)(T:TypeId)(n:Nat)(z:Nat->Int):Prop:=w.heap[g]? =some (.cells (Ks .u8 n z).toArray T (0,0))
theorem aF{cs:Array Value}{fr:Nat×Nat}(h:w.heap[g]? =some (.cells cs t fr)){i:Nat}(hi:cs[i]? =some v):w.cell? ⟨g,i,none⟩=some v:=by
 simp only[World.cell?,h];simpa using hi
theorem an{cs:Array Value}(h:w.heap[g]? =some (.cells cs t (0,0)))(i:Nat):w.frozen? ⟨g,i,none⟩=false:=by
 simp only[World.frozen?,h];simp
theorem aU.lt{n:Nat}(h:aU w g T n z):g<w.heap.size:=(Array.getElem?_eq_some_iff.1 h).1
theorem aU.bQ{n:Nat}(h:aU w g T n z):Seg w g 0 n z:=λi hi=>
 aF h (by rw[Nat.zero_add];simpa using gX .u8 n z i hi)
theorem aU.soft{n:Nat}(h:aU w g T n z)(off m:Nat):KT w g off m:=λi _=>an h _
theorem aU.new(w:World)(T:TypeId)(n:Nat)(z:Nat->Int):aU (w.alloc (.cells (Ks .u8 n z).toArray T)) w.heap.size T n z:=heap_alloc_new w _
theorem aU.congr{n:Nat}(h:aU w g T n z)(e:∀i,i<n->z i=y i):aU w g T n y:=by
 unfold aU;have:Ks .u8 n y=Ks .u8 n z:=by unfold Ks;apply List.map_congr_left;intro i hi;rw[e i (by simpa using hi)]
 rw[this];exact h
theorem aU.rH{n:Nat}{c:Array Value}(h:w.heap[g]? =some (.cells c T (0,0)))(hc:c.size=n)(hs:Seg w g 0 n z):aU w g T n z:=by
 unfold aU;rw[h]
 congr 2
 apply Array.ext';apply List.ext_getElem?;intro i
 by_cases hi:i<n
 ·have:=hs i hi
  simp only[World.cell?,h,Nat.zero_add] at this;have h2:=gX .u8 n z i hi;simp at this ⊢;rw[this,<-h2]
 rw[List.getElem?_eq_none (by simp;omega),List.getElem?_eq_none (by simp[bD];omega)]
theorem aU.kD{n:Nat}(h:aU w g T n z)(hp:gj g lo m f w w'):aU w' g T n (over z lo m f):=by
 obtain⟨c',hc,hh⟩:=hp.only.shape _ _ _ h;exact aU.rH hh (by rw[hc];simp[bD]) (hp.bQ h.bQ (by omega))
theorem aU.setCell{n:Nat}(h:aU w g T n z)(i:Nat)(v:Int)(hi:i<n):aU (w.setCell ⟨g,i,none⟩ (.int .u8 v)) g T n (over z i 1 (λ_=>v)):=by
 have hp:gj g i 1 (λ_=>v) w (w.setCell ⟨g,i+0,none⟩ (.int .u8 v)):=(gj.nil g i (λ_=>v) w).snoc (u:=.int .u8 (z i)) (by have:=h.bQ i hi;simpa using this) rfl;exact h.kD hp
theorem aU.below{n:Nat}(h:aU w g T n z)(hb:Below B w w')(hg:g<B):aU w' g T n z:=(hb.block g hg).trans h
theorem aU.only{n:Nat}(h:aU w g T n z){b:Nat}(hb:az b w w')(hg:g≠b):aU w' g T n z:=(hb.block g hg).trans h
theorem aU.alloc{n:Nat}(h:aU w g T n z)(o:Obj):aU (w.alloc o) g T n z:=(Below.heap_alloc w o g h.lt).trans h
theorem eh{x:Obj}(h:w.heap[g]? =some x)(o:Obj):(w.alloc o).heap[g]? =some x:=(Below.heap_alloc w o g (Array.getElem?_eq_some_iff.1 h).1).trans h
theorem bE(k:IntKind)(n:Nat)(z:Nat->Int):(Ks k n z).toArray.size=n:=by simp[Ks]
theorem fF(k:IntKind)(n:Nat)(z:Nat->Int):(Ks k n z).toArray.all (·.oneCell')=true:=by
 rw[Array.all_eq_true];intro i hi;simp[Ks]
 rfl
theorem zp{n:Nat}(e:∀i,i<n->z i=y i):Ks k n z=Ks k n y:=by
 unfold Ks;apply List.map_congr_left;intro i hi;rw[e i (by simpa using hi)]
end Go.Proofs.YtphamecphmbipaaGreatDoor
