/- Texts of this claim, merged. -/
import Derived.WalkKit
import Derived.Below
import Derived.Deep.Draws
import Derived.Lib.Hide
import Derived.Laws.BitsAllLaws
import Derived.OwnWalk
import Derived.OpenShut
import Derived.Laws.AppendOwnNone
import Derived.ChangeKeysEq
import Derived.Laws.StructEq
import Derived.RangeFuncNested
import Derived.RangeFuncBound
import Derived.RangeFuncCalls
import Derived.RangeFuncLeaves
import Derived.RangeFuncWrites
import Derived.OwnWalkIn
import Derived.RangeFuncBox
set_option linter.unusedVariables false
namespace Go.Proofs.YtphamecphmbipaaGreatDoor
open Go.RowKit
variable {a sa:Option Addr} {b off B lo m j base cap g D:Nat} {k:IntKind} {z f y:Nat->Int} {w w' A C W':World} {v:Value} {p:Addr} {e t T:TypeId} {P:Program} {Q:Exit->Act->World->Prop} {i:TypeInfo} {cs tmps:Array Value} {ps:Array Tmp} {X:World->Prop} {fn:Func} {R:Ending->World->Prop}
theorem aC{a b:Bool}(h:a=b):Ending.returned (.bool a)= .returned (.bool b):=by rw[h]
theorem vp{a b:Int}{c d:Bool}(h:a=b)(g:c=d):Ending.returned (.tuple #[.int k a,.bool c])= .returned (.tuple #[.int k b,.bool d]):=by rw[h,g]
theorem int_eq{a b:Int}(h:a=b):Value.int k a= .int k b:=by rw[h]
def Seg(w:World)(b off n:Nat)(z:Nat->Int):Prop:=∀i,i<n->w.cell? ⟨b,off+i,none⟩=some (.int .u8 (z i))
def bm(z:Nat->Int):Prop:=∀i,0<=z i/\z i<256
def Row(w:World)(a:Option Addr)(n:Nat)(z:Nat->Int):Prop:=n=0\/∃b off,a=some ⟨b,off,none⟩/\Seg w b off n z
def Ku(w:World)(b off n:Nat):Prop:=∀i,i<n->w.frozen? ⟨b,off+i,none⟩=false
def g16(z:Nat->Int)(i:Nat):Int:=z i+256*z (i+1)
def b9(z:Nat->Int)(i:Nat):Int:=z i+256*z (i+1)+65536*z (i+2)+16777216*z (i+3)
def byteOf(v:Int)(i:Nat):Int:=v/256^i%256
def over(z:Nat->Int)(k n:Nat)(f:Nat->Int):Nat->Int:=λi=>if k<=i/\i<k+n then f (i-k) else z i
theorem gg(v:Int)(i:Nat):0<=byteOf v i/\byteOf v i<256:=by unfold byteOf;omega
theorem dG(v:Int):byteOf v 0=v%256:=by simp[byteOf]
theorem bf(v:Int)(i:Nat):byteOf v (i+1)=byteOf (v/256) i:=by
 unfold byteOf;rw[Int.pow_succ,Int.mul_comm,<-Int.ediv_ediv_of_nonneg (by omega)]
theorem eY(hz:bm z)(hf:bm f)(k n:Nat):bm (over z k n f):=by
 intro i;unfold over;split
 ·exact hf _
 ·exact hz _
theorem r5(v:Int):bm (byteOf v):=gg v
theorem oD(hz:bm z)(i:Nat):0<=g16 z i/\g16 z i<65536:=by
 have:=hz i;have:=hz (i+1);unfold g16;omega
theorem dA(hz:bm z)(i:Nat):0<=b9 z i/\b9 z i<4294967296:=by
 have:=hz i;have:=hz (i+1);have:=hz (i+2);have:=hz (i+3);unfold b9;omega
theorem Seg.sub{n:Nat}(h:Seg w b off n z)(k m:Nat)(hk:k+m<=n):Seg w b (off+k) m (λi=>z (k+i)):=by
 intro i hi;have:=h (k+i) (by omega);rw[Nat.add_assoc];exact this
theorem Seg.take{n:Nat}(h:Seg w b off n z)(m:Nat)(hk:m<=n):Seg w b off m z:=λi hi=>h i (by omega)
theorem Seg.congr{n:Nat}(h:Seg w b off n z)(e:∀i,i<n->z i=y i):Seg w b off n y:=λi hi=>by rw[<-e i hi];exact h i hi
theorem ie{a:World}(h:Below B a w)(n:Nat):Below B a (w.drewN n):=h.trans ⟨rfl,rfl,rfl,Nat.le_refl _,λ_ _=>rfl⟩
structure an(b:Nat)(w w':World):Prop where
 os:w'.os=w.os
 tape:w'.tape=w.tape
 output:w'.output=w.output
 size:w'.heap.size=w.heap.size
 block:∀k,k≠b->w'.heap[k]? =w.heap[k]?
 frozen:∀a,w'.frozen? a=w.frozen? a
 shape:∀c e fr,w.heap[b]? =some (.cells c e fr)->∃c',c'.size=c.size/\w'.heap[b]? =some (.cells c' e fr)
theorem an.refl(b:Nat)(w:World):an b w w:=⟨rfl,rfl,rfl,rfl,λ_ _=>rfl,λ_=>rfl,λc _ _ h=>⟨c,rfl,h⟩⟩
theorem an.drewN(h:an b w w')(m:Nat):an b w (w'.drewN m):=⟨h.os,h.tape,h.output,h.size,h.block,h.frozen,h.shape⟩
theorem an.trans{u v:World}(h:an b u v)(k:an b v w):an b u w:=
 ⟨k.os.trans h.os,k.tape.trans h.tape,k.output.trans h.output,k.size.trans h.size,λj hj=>(k.block j hj).trans (h.block j hj),λa=>(k.frozen a).trans (h.frozen a),
  λc e fr hc=>by obtain⟨c1,h1,g1⟩:=h.shape c e fr hc;obtain⟨c2,h2,g2⟩:=k.shape c1 e fr g1;exact⟨c2,h2.trans h1,g2⟩⟩
theorem an.setCell(w:World)(a:Addr)(v:Value):an a.block w (w.setCell a v):=
 ⟨rfl,rfl,rfl,by simp[World.setCell],λk hk=>Below.heap_setCell w a v k hk,λx=>World.frozen?_setCell ..,λc e fr hc=>by
  obtain⟨hlt,hk⟩:=Array.getElem?_eq_some_iff.1 hc;refine⟨if a.spot.isSome then c else c.setIfInBounds a.off v,by split<;>simp,?_⟩;show(w.heap.modify a.block _)[a.block]? =_;rw[Array.getElem?_eq_getElem (by rw[Array.size_modify];exact hlt),Array.getElem_modify_self,hk]⟩
theorem an.below(h:an b w w')(hb:B<=b):Below B w w':=
 ⟨h.os,h.tape,h.output,by rw[h.size];exact Nat.le_refl _,λk hk=>h.block k (by omega)⟩
theorem an.cell(h:an b w w')(hp:p.block≠b):w'.cell? p=w.cell? p:=World.cell?_of_block (w:=w) (h.block p.block hp)
theorem an.bI(h:an b w w'){c n:Nat}(hc:c≠b)(hs:Seg w c off n z):Seg w' c off n z:=
 λi hi=>(h.cell (p:=⟨c,off+i,none⟩) hc).trans (hs i hi)
theorem an.row(h:an b w w'){n:Nat}(hc:∀x,a=some x->x.block≠b)(hs:Row w a n z):Row w' a n z:=by
 rcases hs with h0|⟨c,off,rfl,hs⟩
 ·exact .inl h0
 ·exact .inr ⟨c,off,rfl,h.bI (hc _ rfl) hs⟩
structure fN(b lo n:Nat)(f:Nat->Int)(w w':World):Prop where
 only:an b w w'
 cell:∀o,w'.cell? ⟨b,o,none⟩=if lo<=o/\o<lo+n then some (.int .u8 (f (o-lo))) else w.cell? ⟨b,o,none⟩
theorem fN.nil(b lo:Nat)(f:Nat->Int)(w:World):fN b lo 0 f w w:=⟨an.refl _ _,λo=>by rw[if_neg (by omega)]⟩
theorem fN.drewN{n:Nat}(h:fN b lo n f w w')(m:Nat):fN b lo n f w (w'.drewN m):=⟨h.only.drewN m,h.cell⟩
theorem fN.snoc{n:Nat}(h:fN b lo n f w w'){u:Value}(hu:w.cell? ⟨b,lo+n,none⟩=some u)(hv:v= .int .u8 (f n)):
  fN b lo (n+1) f w (w'.setCell ⟨b,lo+n,none⟩ v):=by
 subst hv;refine⟨h.only.trans (an.setCell w' ⟨b,lo+n,none⟩ _),λo=> ?_⟩
 by_cases ho:o=lo+n
 ·subst ho
  rw[if_pos (by omega),World.cell?_setCell_same (u:=u)]
  ·congr 2;rw[Nat.add_sub_cancel_left]
  ·rw[h.cell,if_neg (by omega)];exact hu
 ·rw[World.cell?_setCell_other,h.cell]
  ·by_cases hi:lo<=o/\o<lo+n
   ·rw[if_pos hi,if_pos (by omega)]
   ·rw[if_neg hi,if_neg (by omega)]
  ·intro he;apply ho;injection he with _ e2;exact e2.symm
theorem fN.bI{n:Nat}(h:fN b lo n f w w'){k:Nat}(hs:Seg w b off m z)(hk:lo=off+k):Seg w' b off m (over z k n f):=by
 intro i hi;rw[h.cell,hs i hi];unfold over;subst hk
 by_cases hc:k<=i/\i<k+n
 ·rw[if_pos (by omega),if_pos hc];congr 2;congr 1;omega
 ·rw[if_neg (by omega),if_neg hc]
theorem jI(v x:Int)(h0:0<=v)(h1:v<16777216)(h2:0<=x)(h3:x<256):bits .or .u32 (v*256) x=v*256+x:=by
 obtain⟨V,rfl⟩:=Int.eq_ofNat_of_zero_le h0;obtain⟨X,rfl⟩:=Int.eq_ofNat_of_zero_le h2;have e:=u32_or_nat (V*256) X (by omega) (by omega);rw[show((V*256:Nat):Int)=(V:Int)*256 from by omega] at e;rw[e];have:=Nat.two_pow_add_eq_or_of_lt (i:=8) (b:=X) (by omega) V;rw[show(2:Nat)^8*V=V*256 from by omega] at this;omega
theorem qF(v x:Int)(h0:0<=v)(h1:v<256)(h2:0<=x)(h3:x<256):bits .or .u16 (v*256) x=v*256+x:=by
 obtain⟨V,rfl⟩:=Int.eq_ofNat_of_zero_le h0;obtain⟨X,rfl⟩:=Int.eq_ofNat_of_zero_le h2;have e:=u16_or_nat (V*256) X (by omega) (by omega);rw[show((V*256:Nat):Int)=(V:Int)*256 from by omega] at e;rw[e];have:=Nat.two_pow_add_eq_or_of_lt (i:=8) (b:=X) (by omega) V;rw[show(2:Nat)^8*V=V*256 from by omega] at this;omega
def de(z:Nat->Int):Nat->Bool
 |0=>true
 |n+1=>de z n&&decide (z n=0)
theorem ig(z:Nat->Int)(n:Nat):de z (n+1)=(de z n&&decide (z n=0)):=rfl
theorem jz(z:Nat->Int)(n:Nat):de z n=true↔∀i,i<n->z i=0:=by
 induction n with
 |zero=>simp[de]
 |succ n ih=>
  rw[ig,Bool.and_eq_true,ih,decide_eq_true_eq];constructor
  ·rintro⟨h,g⟩ i hi
   by_cases e:i=n
   ·rw[e];exact g
   ·exact h i (by omega)
  ·intro h;exact⟨λi hi=>h i (by omega),h n (by omega)⟩
theorem B5{n:Nat}(hj:j<n)(h:¬z j=0):de z n=false:=by
 cases e:de z n with
 |false=>rfl
 |true=>exact absurd ((jz z n).1 e j hj) h
def me(z y:Nat->Int):Nat->Bool
 |0=>true
 |n+1=>me z y n&&decide (z n=y n)
theorem yK(z y:Nat->Int)(n:Nat):me z y (n+1)=(me z y n&&decide (z n=y n)):=rfl
theorem iT(z y:Nat->Int)(n:Nat):me z y n=true↔∀i,i<n->z i=y i:=by
 induction n with
 |zero=>simp[me]
 |succ n ih=>
  rw[yK,Bool.and_eq_true,ih,decide_eq_true_eq];constructor
  ·rintro⟨h,g⟩ i hi
   by_cases e:i=n
   ·rw[e];exact g
   ·exact h i (by omega)
  ·intro h;exact⟨λi hi=>h i (by omega),h n (by omega)⟩
theorem NR{n:Nat}(hj:j<n)(h:¬z j=y j):me z y n=false:=by
 cases e:me z y n with
 |false=>rfl
 |true=>exact absurd ((iT z y n).1 e j hj) h
def Bs(n:Nat)(z:Nat->Int):List Value:=(List.range n).map λi=> .int .u8 (z i)
theorem fw(n:Nat)(z:Nat->Int):(Bs n z).length=n:=by simp[Bs]
theorem mO(n:Nat)(z:Nat->Int)(i:Nat)(h:i<n):(Bs n z)[i]? =some (.int .u8 (z i)):=by simp[Bs,h]
def cat(z:Nat->Int)(n:Nat)(y:Nat->Int):Nat->Int:=λi=>if i<n then z i else y (i-n)
theorem OE(n m:Nat)(z y:Nat->Int):Bs n z++Bs m y=Bs (n+m) (cat z n y):=by
 apply List.ext_getElem?;intro i
 by_cases h:i<n
 ·rw[List.getElem?_append_left (by rw[fw];exact h),mO _ _ _ h,mO _ _ _ (by omega)];simp[cat,h]
 ·rw[List.getElem?_append_right (by rw[fw];omega),fw]
  by_cases h2:i-n<m
  ·rw[mO _ _ _ h2,mO _ _ _ (by omega)];simp[cat,h]
  ·rw[List.getElem?_eq_none (by rw[fw];omega),List.getElem?_eq_none (by rw[fw];omega)]
theorem Ha{n:Nat}(h:∀i,i<n->z i=y i):Bs n z=Bs n y:=by
 unfold Bs;apply List.map_congr_left;intro i hi;rw[h i (by simpa using hi)]
def gB(w:World)(base:Nat)(e:TypeId)(sa:Option Addr)(n cap:Nat)(z:Nat->Int):Prop:=w.ownsRow base e 1 (.slice sa n cap) n (Bs n z)
theorem gB.parts{n:Nat}(h:gB w base e sa n cap z):
  (sa=none/\n=0/\cap=0)\/∃g,sa=some ⟨g,0,none⟩/\base<=g/\g<w.heap.size/\n<=cap/\Seg w g 0 n z/\Ku w g 0 cap:=by
 rcases h.2 with⟨hv,h0⟩|⟨g,cap',cur,hv,hb,hg,hn,hc,hs,ht⟩
 ·injection hv with h1 h2 h3;exact .inl ⟨h1,h0,h3⟩
 ·injection hv with h1 h2 h3
  subst h1 h3;have hlt:=(Array.getElem?_eq_some_iff.1 hg).1;refine .inr ⟨g,rfl,hb,hlt,hn,?_,?_⟩
  ·intro i hi
   have:=mO n z i hi;rw[<-ht,List.getElem?_take_of_lt (by omega)] at this;simp[World.cell?,hg];simpa using this
  ·intro i hi;simp[World.frozen?,hg]
theorem gB.row{n:Nat}(h:gB w base e sa n cap z):Row w sa n z:=by
 rcases h.parts with⟨_,h0,_⟩|⟨g,rfl,_,_,_,hs,_⟩
 ·exact .inl h0
 ·exact .inr ⟨g,0,rfl,hs⟩
theorem gB.le{n:Nat}(h:gB w base e sa n cap z):∀x,sa=some x->base<=x.block/\x.block<w.heap.size:=by
 intro x hx;rcases h.parts with⟨h0,_⟩|⟨g,h1,hb,hl,_⟩
 ·rw[h0] at hx;cases hx
 ·rw[h1] at hx;cases hx;exact⟨hb,hl⟩
theorem gB.congr{n:Nat}(h:gB w base e sa n cap z)(hy:∀i,i<n->z i=y i):gB w base e sa n cap y:=by
 unfold gB;rw[<-Ha hy];exact h
theorem gB.nil(w:World)(base:Nat)(e:TypeId)(z:Nat->Int):gB w base e none 0 0 z:=World.ownsRow_nil w base e 1
theorem gB.made(w:World)(base:Nat)(e:TypeId)(z:Nat->Int)(hb:base<=w.heap.size):gB (w.alloc (.cells #[] e)) base e (some ⟨w.heap.size,0,none⟩) 0 0 z:=
 World.ownsRow_made (cur:=#[]) (cap:=0) w (base:=base) (e:=e) (size:=1) hb (by unfold maxLen;omega) (by simp)
theorem lO{ops:Array Oper}{rest:List Oper}{o:Oper}{a:Act}(hgd:o.guard=none)(s x:Operand)(t:TypeId)
  (ho:o.op= .call {callee:=.builtin .append,args:=#[s,x],argTypes:=#[t,t]})
  (base:Nat) (e:TypeId) (i:TypeInfo) (ht:P.underlying t=some (.slice e)) (hi:P.info? e=some i) (hz:i.zero=some (.int .u8 0)) (hsize:i.size=1) (hby:i.bytes=1)
  (sa:Option Addr) (n cap:Nat) (z:Nat->Int) (hs:a.eval s= .slice sa n cap) (hown:gB w base e sa n cap z)
  (xa:Option Addr) (m c:Nat) (y:Nat->Int) (hx:a.eval x= .slice xa m c) (hc:xa=none->c=0) (hr:Row w xa m y)
  (hm:n+m<=140737488355328) (hbase:base<=w.heap.size)
  (h:∀Mn cap' w',gB w' base e Mn (n+m) cap' (cat z n y)->w.grownBy w' (Value.slice sa n cap).ownBlock->(Mn=none->n+m=0)->wpList P ops Q rest (a.put o.dst (.slice Mn (n+m) cap')) w'):
  wpList P ops Q (o::rest) a w:=by
 have fin:∀v' w',w'.ownsRow base e 1 v' (n+m) (Bs n z++Bs m y)->w.grownBy w' (Value.slice sa n cap).ownBlock->wpList P ops Q rest (a.put o.dst v') w':=by
  intro v' w' hown' hg;rw[OE] at hown';rcases hown'.2 with⟨rfl,h0⟩|⟨g,cap',cur,rfl,_⟩
  ·have hM:gB w' base e none (n+m) 0 (cat z n y):=by unfold gB;rw[h0] at hown' ⊢;exact hown'
   have:=h none 0 w' hM hg (λ_=>h0);rw[h0] at this;exact this
  ·exact h _ cap' w' hown' hg (λh=>by cases h)
 have OQ:n+m<=maxLen:=by unfold maxLen;omega
 cases xa with
 |some ad=>
  refine wpList_append_own w hgd s x t ho base e i (.int .u8 0) 1 1 ht hi hz hsize hby rfl (by decide) _ n (Bs n z) hs hown ad m c (Bs m y) hx (by simp[fw]) ?_ ?_ OQ (by omega) hbase (λv' w' h1 h2 _=>fin v' w' h1 h2)
  ·intro j u hj
   have hjm:j<m:=by have:=(List.getElem?_eq_some_iff.1 hj).1;rwa[fw] at this
   rw[mO _ _ _ hjm] at hj;rcases hr with h0|⟨b,off,he,hseg⟩
   ·omega
   ·injection he with he;subst he
    have:=hseg j hjm;rw[<-hj,<-this];unfold Addr.add;split
    ·next h=>subst h;rfl
    ·rfl
  ·intro u hu
   obtain⟨k,_,rfl⟩:=List.mem_map.1 hu
   rfl
 |none=>
  have h0:m=0:=by
   rcases hr with h0|⟨b,off,he,_⟩
   ·exact h0
   ·cases he
  have hc0:=hc rfl;subst h0 hc0;refine wpList_append_own_none hgd s x t ho base e i 1 ht hi _ n (Bs n z) hs hown hx (fin _ _ ?_ ?_)
  ·rw[show Bs 0 y=[] from rfl,List.append_nil];exact hown
  ·exact⟨rfl,rfl,rfl,Nat.le_refl _,λ_ _ _=>rfl⟩
def Ks(k:IntKind)(n:Nat)(z:Nat->Int):List Value:=(List.range n).map λi=> .int k (z i)
theorem bD(k:IntKind)(n:Nat)(z:Nat->Int):(Ks k n z).length=n:=by simp[Ks]
theorem j6(k:IntKind)(n:Nat)(z:Nat->Int)(i:Nat)(h:i<n):(Ks k n z)[i]? =some (.int k (z i)):=by simp[Ks,h]
theorem GL(z y:Nat->Int)(n:Nat):((List.range n).all λi=>z i==y i)=me z y n:=by
 rw[Bool.eq_iff_iff,iT,List.all_eq_true];simp
theorem fU(w:World)(d:Nat){n:Nat}(hu:P.underlying t=some (.array n e))(hi:P.info? e=some i)(he:P.underlying e=some (.int k))(hce:P.cellsOf e=1)
  (z y:Nat->Int):(Op.equalIn (d+2) t (.agg (Ks k n z).toArray) (.agg (Ks k n y).toArray)).run P w= .ok (me z y n) w:=by
 rw[show d+2=(d+1)+1 from rfl,run_equalIn_array w (d+1) _ _ hu hi,hce,<-GL z y n];have hl:∀j∈List.range n,j<n:=λj hj=>by simpa using hj
 generalize List.range n=l at hl ⊢
 induction l with
 |nil=>simp[Op.eqItems]
 |cons j l ih=>
  have hj:j<n:=hl j (by simp);have px:∀u:Nat->Int,(part e (Ks k n u).toArray (j*1)).run P w= .ok (.int k (u j)) w:=λu=>by
   simp[part,isAgg,run_underlying he,j6 k n u j hj]
  simp only[Op.eqItems,Sem.run_bind,px,Result.andThen_ok,run_equalIn_int w d e k k _ _ he,List.all_cons];cases hb:(z j==y j)
  ·simp
  ·simp only[Bool.true_and]
   simp only[Bool.not_true,Bool.false_eq_true,if_false]
   first|exact ih (λj hj=>hl j (by simp[hj]))|(simp;exact ih (λj hj=>hl j (by simp[hj])))
theorem vf(w:World){n:Nat}(hu:P.underlying t=some (.array n e))(hi:P.info? e=some i)(he:P.underlying e=some (.int k))(hce:P.cellsOf e=1)
  (z y:Nat->Int):(binOp .eql t (.agg (Ks k n z).toArray) (.agg (Ks k n y).toArray)).run P w= .ok (.bool (me z y n)) w:=by
 rw[run_eql_struct,show(10000:Nat)=9998+2 from rfl,fU w 9998 hu hi he hce z y];rfl
theorem uY(w:World){n:Nat}(hu:P.underlying t=some (.array n e))(hi:P.info? e=some i)(he:P.underlying e=some (.int k))(hce:P.cellsOf e=1)
  (z y:Nat->Int):(binOp .neq t (.agg (Ks k n z).toArray) (.agg (Ks k n y).toArray)).run P w= .ok (.bool (!me z y n)) w:=by
 rw[run_neq_struct,show(10000:Nat)=9998+2 from rfl,fU w 9998 hu hi he hce z y];rfl
theorem Seg.alloc{n:Nat}(h:Seg w b off n z)(o:Obj):Seg (w.alloc o) b off n z:=by
 intro i hi;have h1:=h i hi;have:=World.block_lt_of_cell? w _ h1;rw[World.cell?_of_block (w:=w) (Below.heap_alloc w o b this)];exact h1
theorem Row.alloc{n:Nat}(h:Row w a n z)(o:Obj):Row (w.alloc o) a n z:=by
 rcases h with h|⟨b,off,rfl,hs⟩
 ·exact .inl h
 ·exact .inr ⟨b,off,rfl,hs.alloc o⟩
theorem Seg.lt{n:Nat}(h:Seg w b off n z)(h0:0<n):b<w.heap.size:=World.block_lt_of_cell? w _ (h 0 h0)
theorem Row.take{n:Nat}(h:Row w a n z)(m:Nat)(hm:m<=n):Row w a m z:=by
 rcases h with h|⟨b,off,rfl,hs⟩
 ·exact .inl (by omega)
 ·exact .inr ⟨b,off,rfl,hs.take m hm⟩
theorem yU(v:Int)(h0:0<=v)(h1:v<4294967296):byteOf v 0+256*byteOf v 1+65536*byteOf v 2+16777216*byteOf v 3=v:=by
 rw[bf v 2,bf (v/256) 1,bf v 1,bf (v/256) 0,bf (v/256/256) 0,bf v 0];simp only[dG];omega
theorem Gm(z:Nat->Int)(k:Nat)(v:Int)(h0:0<=v)(h1:v<4294967296):b9 (over z k 4 (byteOf v)) k=v:=by
 unfold b9 over;rw[if_pos (by omega),if_pos (by omega),if_pos (by omega),if_pos (by omega),Nat.sub_self,show k+1-k=1 by omega,show k+2-k=2 by omega,show k+3-k=3 by omega];exact yU v h0 h1
theorem bY(z:Nat->Int)(k n i:Nat)(f:Nat->Int)(h:i<k\/k+n<=i):over z k n f i=z i:=by unfold over;rw[if_neg (by omega)]
theorem gl(z:Nat->Int)(k n i:Nat)(f:Nat->Int)(h:k<=i/\i<k+n):over z k n f i=f (i-k):=by unfold over;rw[if_pos h]
theorem JQ(z:Nat->Int)(k n i:Nat)(f:Nat->Int)(h:i+4<=k\/k+n<=i):b9 (over z k n f) i=b9 z i:=by
 unfold b9;rw[bY z k n i f (by omega),bY z k n (i+1) f (by omega),bY z k n (i+2) f (by omega),bY z k n (i+3) f (by omega)]
theorem AS(z:Nat->Int)(hz:bm z)(k i:Nat)(hi:i<4):byteOf (b9 z k) i=z (k+i):=by
 have h0:=hz k;have h1:=hz (k+1);have h2:=hz (k+2);have h3:=hz (k+3);obtain rfl|rfl|rfl|rfl:i=0\/i=1\/i=2\/i=3:=by omega
 ·rw[dG,Nat.add_zero];unfold b9;omega
 ·rw[bf,dG];unfold b9;omega
 ·rw[bf,bf,dG];unfold b9;omega
 ·rw[bf,bf,bf,dG];unfold b9;omega
def aQ(w:World)(g:Nat)(T:TypeId)(n:Nat)(z:Nat->Int):Prop:=w.heap[g]? =some (.cells (Ks .u8 n z).toArray T (0,0))
theorem ay{fr:Nat×Nat}(h:w.heap[g]? =some (.cells cs t fr)){i:Nat}(hi:cs[i]? =some v):w.cell? ⟨g,i,none⟩=some v:=by
 simp only[World.cell?,h];simpa using hi
theorem ag(h:w.heap[g]? =some (.cells cs t (0,0)))(i:Nat):w.frozen? ⟨g,i,none⟩=false:=by
 simp only[World.frozen?,h];simp
theorem aQ.lt{n:Nat}(h:aQ w g T n z):g<w.heap.size:=(Array.getElem?_eq_some_iff.1 h).1
theorem aQ.bI{n:Nat}(h:aQ w g T n z):Seg w g 0 n z:=λi hi=>
 ay h (by rw[Nat.zero_add];simpa using j6 .u8 n z i hi)
theorem aQ.soft{n:Nat}(h:aQ w g T n z)(off m:Nat):Ku w g off m:=λi _=>ag h _
theorem aQ.new(w:World)(T:TypeId)(n:Nat)(z:Nat->Int):aQ (w.alloc (.cells (Ks .u8 n z).toArray T)) w.heap.size T n z:=heap_alloc_new w _
theorem aQ.congr{n:Nat}(h:aQ w g T n z)(e:∀i,i<n->z i=y i):aQ w g T n y:=by
 unfold aQ;have:Ks .u8 n y=Ks .u8 n z:=by unfold Ks;apply List.map_congr_left;intro i hi;rw[e i (by simpa using hi)]
 rw[this];exact h
theorem aQ.re{n:Nat}{c:Array Value}(h:w.heap[g]? =some (.cells c T (0,0)))(hc:c.size=n)(hs:Seg w g 0 n z):aQ w g T n z:=by
 unfold aQ;rw[h]
 congr 2
 apply Array.ext';apply List.ext_getElem?;intro i
 by_cases hi:i<n
 ·have:=hs i hi
  simp only[World.cell?,h,Nat.zero_add] at this;have h2:=j6 .u8 n z i hi;simp at this ⊢;rw[this,<-h2]
 ·rw[List.getElem?_eq_none (by simp;omega),List.getElem?_eq_none (by simp[bD];omega)]
theorem aQ.kn{n:Nat}(h:aQ w g T n z)(hp:fN g lo m f w w'):aQ w' g T n (over z lo m f):=by
 obtain⟨c',hc,hh⟩:=hp.only.shape _ _ _ h;exact aQ.re hh (by rw[hc];simp[bD]) (hp.bI h.bI (by omega))
theorem aQ.setCell{n:Nat}(h:aQ w g T n z)(i:Nat)(v:Int)(hi:i<n):aQ (w.setCell ⟨g,i,none⟩ (.int .u8 v)) g T n (over z i 1 (λ_=>v)):=by
 have hp:fN g i 1 (λ_=>v) w (w.setCell ⟨g,i+0,none⟩ (.int .u8 v)):=(fN.nil g i (λ_=>v) w).snoc (u:=.int .u8 (z i)) (by have:=h.bI i hi;simpa using this) rfl;exact h.kn hp
theorem aQ.below{n:Nat}(h:aQ w g T n z)(hb:Below B w w')(hg:g<B):aQ w' g T n z:=(hb.block g hg).trans h
theorem aQ.only{n:Nat}(h:aQ w g T n z)(hb:an b w w')(hg:g≠b):aQ w' g T n z:=(hb.block g hg).trans h
theorem aQ.alloc{n:Nat}(h:aQ w g T n z)(o:Obj):aQ (w.alloc o) g T n z:=(Below.heap_alloc w o g h.lt).trans h
theorem dS{x:Obj}(h:w.heap[g]? =some x)(o:Obj):(w.alloc o).heap[g]? =some x:=(Below.heap_alloc w o g (Array.getElem?_eq_some_iff.1 h).1).trans h
theorem bK(k:IntKind)(n:Nat)(z:Nat->Int):(Ks k n z).toArray.size=n:=by simp[Ks]
theorem iD(k:IntKind)(n:Nat)(z:Nat->Int):(Ks k n z).toArray.all (·.oneCell')=true:=by
 rw[Array.all_eq_true];intro i hi;simp[Ks]
 rfl
theorem y7{n:Nat}(e:∀i,i<n->z i=y i):Ks k n z=Ks k n y:=by
 unfold Ks;apply List.map_congr_left;intro i hi;rw[e i (by simpa using hi)]
section
variable {F:Fence} {n:Nat} {P:Program}
def sg(own:Nat->Prop)(A B:World):Prop:=∃row,A.grownBy B row/\∀r,row=some r->own r
def ll(F:Fence)(n:Nat)(P:Program)(g:Nat)(lb:Array Value)(iH:Nat->Array Value)(N:Nat)(own:Nat->Prop)(ed:Nat->World->Prop):Prop:=
 ∀(l:Nat) (J Jx:Nat->World->Prop) (W:World),
  (∀k A B,J k A->sg own A B->J k B)->(∀k A B,Jx k A->sg own A B->Jx k B)->
  (∀k A,k<N->J k A->ed k A->YieldAt F (n-1) P l (iH k) A λe B=>(e= .returned (.bool true)/\J (k+1) B/\ed k B)\/(e= .returned (.bool false)/\Jx k B))->
  J 0 W->ed 0 W->
  CallsIn F n P g (#[.func (.yield l) #[] #[]]++lb) W λe B=>(∃v,e= .returned v)/\(J N B\/∃k,k<N/\Jx k B)
def nk(B:Nat)(J:Nat->World->Prop)(Jx:Code->Nat->World->Prop)(ed:Nat->World->Prop)(k:Nat)(W:World):Exit->Act->World->Prop
 | .normal,_,W'=>KeepsFrom B W W'/\J (k+1) W'/\ed k W'
 | .ret,_,W'=>KeepsFrom B W W'/\Jx .ret k W'
 | .exit id,_,W'=>KeepsFrom B W W'/\Jx (.exit id) k W'
 | .goto t,_,W'=>KeepsFrom B W W'/\Jx (.goto t) k W'
 | .panic _,_,_=>False
 | .outgrown,_,_=>False
theorem jG{g:Operand}{assign body:Code}{a:Act}
  (hro:F.round=none) (h1:1<=n) {gf:Nat} {lb:Array Value} (hg:a.eval g= .func (.func gf) #[] lb) (hFg:F.fn gf) (eg:∀args w,(callFunc gf args).run P w= .ok (.enter gf args) w)
  {iH:Nat->Array Value} {N:Nat} {own:Nat->Prop} {ed:Nat->World->Prop} (hit:ll F (n-1) P gf lb iH N own ed)
  (hown:∀r,own r->r<w.heap.size) (hps:∀k,(iH k).size=ps.size)
  (J:Nat->World->Prop) (Jx:Code->Nat->World->Prop) (Ax:Nat->Act->World->Prop)
  (hJ:OwnFrom w.heap.size J) (AG:∀c,OwnFrom w.heap.size (Jx c)) (hN:OwnFrom w.heap.size ed) (hAx:∀a',OwnFrom w.heap.size (λk W=>Ax k a' W))
  (Tn:∀k A B,J k A->sg own A B->J k B) (NM:∀c k A B,Jx c k A->sg own A B->Jx c k B)
  (h0:J 0 w) (hn0:ed 0 w)
  (vW:∀(l k:Nat) (W:World) (K:Act->World->Prop),k<N->J k W->ed k W->
   (∀a' W',KeepsFrom w.heap.size W W'->J k W'->ed k W'->Ax k a' W'->K a' W')->
   assign.wpIn (F.inRound l) (n-1-1) P (Exit.then K (λ_ _ _=>False)) {tmps:=(ps.zip (iH k)).foldl (λt (p,v)=>t.setIfInBounds p v) a.tmps,defers:=[]} W)
  (hbody:∀(l k:Nat) (a':Act) (W:World),k<N->J k W->ed k W->Ax k a' W->body.wpIn (F.inRound l) (n-1-1) P (nk w.heap.size J Jx ed k W) a' W)
  (hdone:∀(D:Nat) (W:World),w.heap.size<=D->J N W->W.heap[D]? =some (.deferred (some []))->Q .normal {a with defers:={target:=.collected D,args:=#[]}::a.defers} W)
  (FU:∀(D:Nat) (c:Code) (k:Nat) (W:World),w.heap.size<=D->k<N->Jx c k W->W.heap[D]? =some (.deferred (some []))->c.wpIn F n P Q {a with defers:={target:=.collected D,args:=#[]}::a.defers} W):
  (Code.rangeFunc g ps assign body).wpIn F n P Q a w:=by
 refine wpIn_rangeFunc ?_;intro fn hfn;rw[hro];generalize hrc:(λ(st:LoopState) (pe:Option Code)=>({state:=st,pending:=pe,fn:=fn,tmps:=a.tmps,params:=ps,assign:=assign,body:=body,defers:=w.heap.size}:Loop))=rc;have sY:∀st pe,rc st pe={state:=st,pending:=pe,fn:=fn,tmps:=a.tmps,params:=ps,assign:=assign,body:=body,defers:=w.heap.size}:=λst pe=>by rw[<-hrc]
 clear hrc
 let W1:=(w.alloc (.deferred (some []))).alloc (.loop (rc .ready none))
 have fR:W1.heap[w.heap.size+1]? =some (.loop (rc .ready none)):=by
  have:=World.alloc_heap_new (w.alloc (.deferred (some []))) (.loop (rc .ready none));rwa[World.size_alloc] at this
 have Zm:W1.heap[w.heap.size]? =some (.deferred (some [])):=(Below.heap_alloc _ _ _ (by simp)).trans (World.alloc_heap_new w _);have Rm:w.grownBy W1 none:=⟨rfl,rfl,rfl,by simp[W1];omega,λk hk _=>by
  show((w.alloc _).alloc _).heap[k]? =_;rw[Below.heap_alloc _ _ _ (by simp;omega),Below.heap_alloc _ _ _ hk]⟩
 have iG:∀{X:Nat->World->Prop},OwnFrom w.heap.size X->∀k,X k w->X k W1:=λh k hx=>h k w W1 none hx Rm (λr e=>by cases e)
 have book:∀{A B:World} {k:Nat} {o:Obj},sg own A B->w.heap.size<=k->A.heap[k]? =some o->B.heap[k]? =some o:=by
  rintro A B k o ⟨row,hgr,hr⟩ hk ho;refine(hgr.block k (Array.getElem?_eq_some_iff.1 ho).1 (λe=> ?_)).trans ho;have:=hown k (hr k e.symm);omega
 refine⟨w.heap.size+1,[{target:=.collected w.heap.size,args:=#[]}],W1,{target:=.fn (.func gf) lb,args:=#[.func (.yield (w.heap.size+1)) #[] #[]]},W1,gf,
  #[.func (.yield (w.heap.size+1)) #[] #[]]++lb,W1,?_,?_,?_,?_,λ_=>h1,?_⟩
 ·show _=Result.ok (_,_) ((w.alloc (.deferred (some []))).alloc (.loop (rc .ready none)))
  rw[sY];exact run_enterLoop_outer _ _ _ _ _
 ·simp only[resolve,hg]
  simp[go_sem]
 ·intro f' hf';simp[Target.leads] at hf';subst hf';exact hFg
 ·simp[invoke,go_sem,eg]
 refine(hit (w.heap.size+1)
  (λk W=>J k W/\W.heap[w.heap.size+1]? =some (.loop (rc .ready none))/\W.heap[w.heap.size]? =some (.deferred (some [])))
  (λk W=>∃c,Jx c k W/\W.heap[w.heap.size+1]? =some (.loop (rc .done (some c)))/\W.heap[w.heap.size]? =some (.deferred (some [])))
  W1
  (λk A B hs ht=>⟨Tn k A B hs.1 ht,book ht (by omega) hs.2.1,book ht (Nat.le_refl _) hs.2.2⟩)
  (λk A B hs ht=>by
   obtain⟨c,hc,hl,hk⟩:=hs;exact⟨c,NM c k A B hc ht,book ht (by omega) hl,book ht (Nat.le_refl _) hk⟩)
  ?_ ⟨iG hJ 0 h0,fR,Zm⟩ (iG hN 0 hn0)).mono ?_
 ·
  rintro k W QN ⟨hj,hl,hd⟩ hnd;have hy:=run_yield (P:=P) (args:=iH k) hl (by rw[sY];exact hps k);rw[sY] at hy;refine⟨fn,_,assign,body,hy,roundIn_of_wpIn hfn (vW _ k W _ QN hj hnd ?_)⟩;intro a' V Dv hjV Vf hax;have QL:=Dv.same _ _ (by omega) hl rfl;have hdV:=Dv.same _ _ (Nat.le_refl _) hd rfl;have Vt:w.heap.size+1<V.heap.size:=(Array.getElem?_eq_some_iff.1 QL).1;refine⟨_,run_beginRound QL (by rw[sY]),?_⟩;generalize hbz:({rc .ready none with state:=.busy}:Loop)=bz;have hl2:(V.putObj (w.heap.size+1) (.loop bz)).heap[w.heap.size+1]? =some (.loop bz):=World.putObj_heap_same Vt;have hd2:(V.putObj (w.heap.size+1) (.loop bz)).heap[w.heap.size]? =some (.deferred (some [])):=(World.putObj_heap_other (by omega)).trans hdV;refine wpIn_mono (hbody _ k a' _ QN (hJ.putObj _ hjV (by omega) QL rfl) (hN.putObj _ Vf (by omega) QL rfl) ((hAx a').putObj _ hax (by omega) QL rfl)) ?_;have fin:∀(jump:Option Code) (U:World),KeepsFrom w.heap.size (V.putObj (w.heap.size+1) (.loop bz)) U->
    (Instr.endRound (w.heap.size+1) jump).run P U= .ok (.bool jump.isNone) (U.putObj (w.heap.size+1) (.loop (rc (if jump.isNone then .ready else .done) jump)))/\
    U.heap[w.heap.size+1]? =some (.loop bz)/\
    (U.putObj (w.heap.size+1) (.loop (rc (if jump.isNone then .ready else .done) jump))).heap[w.heap.size+1]? =some (.loop (rc (if jump.isNone then .ready else .done) jump))/\
    (U.putObj (w.heap.size+1) (.loop (rc (if jump.isNone then .ready else .done) jump))).heap[w.heap.size]? =some (.deferred (some [])):=by
   intro jump U Hj;have Ed:=Hj.same _ _ (by omega) hl2 rfl;have he:=run_endRound (P:=P) jump Ed;refine⟨?_,Ed,World.putObj_heap_same (Array.getElem?_eq_some_iff.1 Ed).1,(World.putObj_heap_other (by omega)).trans (Hj.same _ _ (Nat.le_refl _) hd2 rfl)⟩;rw[he,<-hbz,sY,sY]
  rintro e a3 U hp;cases e with
  |normal=>
   obtain⟨Hj,Nn,Vg⟩:=hp;obtain⟨hr,Ed,hl4,AD⟩:=fin none U Hj;exact⟨_,_,hr,.inl ⟨rfl,⟨hJ.putObj _ Nn (by omega) Ed rfl,hl4,AD⟩,hN.putObj _ Vg (by omega) Ed rfl⟩⟩
  |ret=>
   obtain⟨Hj,Nn⟩:=hp;obtain⟨hr,Ed,hl4,AD⟩:=fin (some .ret) U Hj;exact⟨_,_,hr,.inr ⟨rfl,.ret,(AG _).putObj _ Nn (by omega) Ed rfl,hl4,AD⟩⟩
  |exit id=>
   obtain⟨Hj,Nn⟩:=hp;obtain⟨hr,Ed,hl4,AD⟩:=fin (some (.exit id)) U Hj;exact⟨_,_,hr,.inr ⟨rfl,.exit id,(AG _).putObj _ Nn (by omega) Ed rfl,hl4,AD⟩⟩
  |goto t=>
   obtain⟨Hj,Nn⟩:=hp;obtain⟨hr,Ed,hl4,AD⟩:=fin (some (.goto t)) U Hj;exact⟨_,_,hr,.inr ⟨rfl,.goto t,(AG _).putObj _ Nn (by omega) Ed rfl,hl4,AD⟩⟩
  |panic ch=>exact hp.elim
  |outgrown=>exact hp.elim
 ·
  rintro e W2 ⟨⟨v,rfl⟩,(⟨hj,hl,hd⟩|⟨k,QN,c,hj,hl,hd⟩)⟩
  ·exact⟨none,_,by have:=run_endLoop (P:=P) hl (by rw[sY];simp);rw[sY] at this;exact this,hdone _ _ (Nat.le_refl _) (hJ.putObj _ hj (by omega) hl rfl) ((World.putObj_heap_other (by omega)).trans hd)⟩
  ·exact⟨some c,_,by have:=run_endLoop (P:=P) hl (by rw[sY];simp);rw[sY] at this;exact this,FU _ c k _ (Nat.le_refl _) QN ((AG c).putObj _ hj (by omega) hl rfl) ((World.putObj_heap_other (by omega)).trans hd)⟩
end
section
variable {P:Program}
structure Still(B:Nat)(A C:World):Prop where
 os:C.os=A.os
 tape:C.tape=A.tape
 output:C.output=A.output
 size:A.heap.size<=C.heap.size
 block:∀k,k<B->k<A.heap.size->C.heap[k]? =A.heap[k]?
def aw(B:Nat)(X:World->Prop):Prop:=∀A C,X A->Still B A C->X C
theorem Still.ju{row:Option Nat}(h:A.grownBy C row)(hr:∀r,row=some r->B<=r):Still B A C:=
 ⟨h.os,h.tape,h.output,h.size,λk hk hl=>h.block k hl (λe=>by have:=hr k e.symm;omega)⟩
theorem aw.own{J:Nat->World->Prop}(h:∀k,aw B (J k)):OwnFrom B J:=
 λs A C row hs hg hr=>h s A C hs (Still.ju hg (λr e=>(hr r e).1))
theorem aw.turns(h:aw B X)(hs:X A)(ht:sg (λ_=>False) A C):X C:=by
 obtain⟨row,hg,hr⟩:=ht;exact h A C hs (Still.ju hg (λr e=>(hr r e).elim))
theorem aw.and{Y:World->Prop}(h:aw B X)(k:aw B Y):aw B (λW=>X W/\Y W):=λA C hs hg=>⟨h A C hs.1 hg,k A C hs.2 hg⟩
theorem aw.pure(B:Nat)(p:Prop):aw B (λ_=>p):=λ_ _ h _=>h
theorem aw.ex{α:Type}{X:α->World->Prop}(h:∀x,aw B (X x)):aw B (λW=>∃x,X x W):=λA C hs hg=>let ⟨x,hx⟩:=hs;⟨x,h x A C hx hg⟩
theorem aw.below{n:Nat}(w:World)(hn:n<=B)(hw:n<=w.heap.size):aw B (λW=>Below n w W):=λA C hs hg=>
 ⟨hg.os.trans hs.os,hg.tape.trans hs.tape,hg.output.trans hs.output,Nat.le_trans hs.size hg.size,λk hk=>(hg.block k (by omega) (by have:=hs.size;omega)).trans (hs.block k hk)⟩
theorem aw.cell(p:Addr)(v:Value)(hb:p.block<B):aw B (λW=>W.cell? p=some v):=λA C hs hg=>
 (World.cell?_of_block (w:=A) (hg.block p.block hb (World.block_lt_of_cell? A _ hs))).trans hs
theorem aw.bI(off n:Nat)(z:Nat->Int)(hb:b<B):aw B (λW=>Seg W b off n z):=λA C hs hg i hi=>aw.cell ⟨b,off+i,none⟩ _ hb A C (hs i hi) hg
theorem aw.row(n:Nat)(z:Nat->Int)(hb:∀x,a=some x->x.block<B):aw B (λW=>Row W a n z):=λA C hs hg=>by
 rcases hs with h0|⟨b,off,rfl,hs⟩
 ·exact .inl h0
 ·exact .inr ⟨b,off,rfl,aw.bI off n z (hb _ rfl) A C hs hg⟩
theorem aw.heap(o:Obj)(hb:b<B):aw B (λW=>W.heap[b]? =some o):=λA C hs hg=>(hg.block b hb (Array.getElem?_eq_some_iff.1 hs).1).trans hs
theorem Below.keeps{W:World}(h:Below W.heap.size W W'):KeepsFrom B W W':=
 ⟨h.size,λk o _ hk _=>(h.block k (Array.getElem?_eq_some_iff.1 hk).1).trans hk⟩
theorem an.keeps{W:World}(h:an b W W')(hc:W.cell? ⟨b,off,none⟩=some v):KeepsFrom B W W':=
 ⟨Nat.le_of_eq h.size.symm,λk o _ hk ho=>by
  by_cases hkb:k=b
  ·subst hkb
   simp only[World.cell?,hk] at hc;cases o with
   |cells c e f=>cases ho
   |_=>cases hc
  ·exact(h.block k hkb).trans hk⟩
theorem yL(W:World)(m:Nat):KeepsFrom B W (W.drewN m):=⟨Nat.le_refl _,λ_ _ _ hk _=>hk⟩
theorem zE{g:Operand}{assign body:Code}{a:Act}{gf:Nat}{lb:Array Value}
  (hg:a.eval g= .func (.func gf) #[] lb) (eg:∀args w,(callFunc gf args).run P w= .ok (.enter gf args) w)
  {iH:Nat->Array Value} {N:Nat} {ed:Nat->World->Prop} (hit:ll Fence.wide 4 P gf lb iH N (λ_=>False) ed) (hps:∀k,(iH k).size=ps.size)
  (J:Nat->World->Prop) (Jx:Code->Nat->World->Prop) (A1:Nat->Act)
  (hJ:∀k,aw w.heap.size (J k)) (AG:∀c k,aw w.heap.size (Jx c k)) (hN:∀k,aw w.heap.size (ed k)) (h0:J 0 w) (hn0:ed 0 w)
  (vW:∀(l k:Nat) (W:World) (K:Act->World->Prop),k<N->K (A1 k) W->
   assign.wpIn (Fence.wide.inRound l) 3 P (Exit.then K (λ_ _ _=>False)) {tmps:=(ps.zip (iH k)).foldl (λt (p,v)=>t.setIfInBounds p v) a.tmps,defers:=[]} W)
  (hbody:∀(l k:Nat) (W:World),k<N->J k W->ed k W->body.wpIn (Fence.wide.inRound l) 3 P (nk w.heap.size J Jx ed k W) (A1 k) W)
  (hdone:∀(D:Nat) (W:World),w.heap.size<=D->J N W->W.heap[D]? =some (.deferred (some []))->Q .normal {a with defers:={target:=.collected D,args:=#[]}::a.defers} W)
  (FU:∀(D:Nat) (c:Code) (k:Nat) (W:World),w.heap.size<=D->k<N->Jx c k W->W.heap[D]? =some (.deferred (some []))->c.wp P Q {a with defers:={target:=.collected D,args:=#[]}::a.defers} W):
  (Code.rangeFunc g ps assign body).wp P Q a w:=by
 refine(wpIn_wide (n:=5)).1 ?_;exact jG rfl (by decide) hg trivial eg hit (λr h=>h.elim) hps J Jx (λk a' _=>a'=A1 k)
  (aw.own hJ) (λc=>aw.own (AG c)) (aw.own hN) (λa'=>aw.own (λk=>aw.pure _ _))
  (λk A C hs ht=>(hJ k).turns hs ht) (λc k A C hs ht=>(AG c k).turns hs ht) h0 hn0
  (λl k W K hk hj hn hK=>vW l k W K hk (hK _ _ (KeepsFrom.refl _ _) hj hn rfl))
  (λl k a' W hk hj hn ha=>by subst ha;exact hbody l k W hk hj hn)
  hdone (λD c k W h1 h2 h3 h4=>wpIn_wide.2 (FU D c k W h1 h2 h3 h4))
theorem dB{n:Nat}{W:World}(hD:W.heap[D]? =some (.deferred (some [])))
  (hres:(results fn tmps).run P (W.putObj D (.deferred none))= .ok v (W.putObj D (.deferred none))) (hR:R (.returned v) (W.putObj D (.deferred none))):
  bodyPostM Fence.wide n P fn R .ret {tmps:=tmps,defers:=[{target:=.collected D,args:=#[]}]} W:=
 ⟨by simp,.inl ⟨_,_,rfl,run_takeDeferred hD,⟨_,hres,hR⟩⟩⟩
theorem dV{n:Nat}{W:World}
  (hres:(results fn tmps).run P W= .ok v W) (hR:R (.returned v) W):
  bodyPostM Fence.wide n P fn R .ret {tmps:=tmps,defers:=[]} W:=⟨_,hres,hR⟩
theorem dp{W:World}{o o':Obj}(hD:W.heap[D]? =some o)(ho:o.isCells=false)(hc:W.cell? p=some v):(W.putObj D o').cell? p=some v:=by
 have hne:p.block≠D:=by
  intro e;simp only[World.cell?,e,hD] at hc;cases o with
  |cells c e f=>cases ho
  |_=>cases hc
 rw[World.cell?_of_block (w:=W) (World.putObj_heap_other hne)];exact hc
theorem eG{W:World}{n:Nat}(h:Below n w W)(o':Obj)(hn:n<=w.heap.size)(hD:n<=D):Below n w (W.putObj D o'):=
 h.grown (grownBy_putObj' W D o') (Nat.le_trans hn h.size) (λk e=>by cases e;exact hD)
end
end Go.Proofs.YtphamecphmbipaaGreatDoor
