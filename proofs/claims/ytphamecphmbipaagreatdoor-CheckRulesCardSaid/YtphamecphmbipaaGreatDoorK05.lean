/- Texts of this claim, merged. -/
import Derived.Test.YtphamecphmbipaaGreatDoorK04
import Derived.Deep.OwnRows
set_option linter.unusedVariables false
set_option maxRecDepth 100000
set_option maxHeartbeats 16000000

namespace Go.Proofs.YtphamecphmbipaaGreatDoor
open Go.RowKit
open Lib (hid)
variable {w w':World} {g B b i m j off cap k:Nat} {T:TypeId} {cs:Array Value} {v:Value} {P:Program} {ops:Array Oper} {rest:List Oper} {o:Oper} {a:Act} {Q:Exit->Act->World->Prop} {G S:Int} {f:Nat->List Value}
def At(w:World)(g:Nat)(T:TypeId)(cs:Array Value):Prop:=w.heap[g]? =some (.cells cs T (0,0))
theorem At.lt(h:At w g T cs):g<w.heap.size:=(Array.getElem?_eq_some_iff.1 h).1
theorem At.new(w:World)(T:TypeId)(cs:Array Value):At (w.alloc (.cells cs T)) w.heap.size T cs:=heap_alloc_new w _
theorem At.alloc(h:At w g T cs)(o:Obj):At (w.alloc o) g T cs:=dS h o
theorem At.below(h:At w g T cs)(hb:Below B w w')(hg:g<B):At w' g T cs:=(hb.block g hg).trans h
theorem At.only(h:At w g T cs)(hb:an b w w')(hg:g≠b):At w' g T cs:=(hb.block g hg).trans h
theorem At.cell(h:At w g T cs)(hi:cs[i]? =some v):w.cell? ⟨g,i,none⟩=some v:=ay h hi
theorem At.range(h:At w g T cs):w.rangeAt g 0 cs.toList:=by
 intro j v hj;rw[Nat.zero_add];exact ay h (by simpa using hj)
theorem ax(hgd:o.guard=none)(T:TypeId)(p q:Operand)(ho:o.op= .store T p q)
  (g:Nat) (cs old:Array Value) (hx:a.eval p= .pointer (some ⟨g,0,none⟩)) (hy:a.eval q= .agg cs) (hI:At w g T old) (hi:(P.info? T).map (·.size)=some cs.size) (hs:old.size=cs.size) (h1:cs.all (·.oneCell')=true)
  (h:∀w',At w' g T cs->an g w w'->wpList P ops Q rest (a.put o.dst undef) w'):wpList P ops Q (o::rest) a w:=
 wpList_store_row hgd T p q ho g cs hx hy T _ hI hi hs h1 (h _ (setRow_heap w g _ cs _ _ hI) (gx w g _ hI hs.symm))
theorem ar(hw:Region.wanted o (yielded ops a.tmps)=true)(T:TypeId)(p:Operand)(ho:o.op= .load T p)
  (g:Nat) (cs:Array Value) (d:TypeDesc) (hx:a.eval p= .pointer (some ⟨g,0,none⟩)) (hI:At w g T cs) (hu:P.underlying T=some d) (hd:(match d with| .struct _| .array _ _=>true|_=>false)=true) (hi:(P.info? T).map (·.size)=some cs.size)
  (h:wpList P ops Q rest (a.put o.dst (.agg cs)) w):wpList P ops Q (o::rest) a w:=
 BigFrame.wpList_want hw λ_ hK=>wp_load_row T p ho g hx T cs (0,0) d hI hu hd hi (hK _ _ h)
theorem dD(hw:Region.wanted o (yielded ops a.tmps)=true)(p:Operand)(ho:o.op= .load 32 p)
  (g:Nat) (z:Nat->Int) (hx:a.eval p= .pointer (some ⟨g,0,none⟩)) (hB:aQ w g 32 256 z)
  (h:wpList Tryz.prog ops Q rest (a.put o.dst (aL z)) w):wpList Tryz.prog ops Q (o::rest) a w:=
 BigFrame.wpList_want hw λ_ hK=>wp_load_row 32 p ho g hx 32 (Ks .u8 256 z).toArray (0,0) _ hB Tryz.underlying32 rfl (a9 _) (hK _ _ h)
abbrev bN(G S I J:Int):Value:=.agg #[.int .i64 G,.int .i64 S,.int .i64 I,.int .i64 J]
abbrev aa(G S I J:Int):Array Value:=#[.int .i64 G,.int .i64 S,.int .i64 I,.int .i64 J]
def aM(G S I J:Int):Bool:=decide (1<=G/\G<=4/\16<=S/\S<=512/\4<=I/\I<=64/\I%4=0/\40<=J/\J<=256/\3+I/4<=S/\2+J+G*S<=2048)
theorem aX(G S I J:Int):aM G S I J=true↔1<=G/\G<=4/\16<=S/\S<=512/\4<=I/\I<=64/\I%4=0/\40<=J/\J<=256/\3+I/4<=S/\2+J+G*S<=2048:=by unfold aM;exact decide_eq_true_iff
theorem cr{I J:Int}(h:¬(1<=G/\G<=4/\16<=S/\S<=512/\4<=I/\I<=64/\I%4=0/\40<=J/\J<=256/\3+I/4<=S/\2+J+G*S<=2048)):aM G S I J=false:=by unfold aM;exact decide_eq_false h
theorem nI(I:Int)(h:4<=I):I.tdiv 4=I/4:=Int.tdiv_eq_ediv_of_nonneg (by omega)
theorem yl(I:Int)(h:4<=I):I.tmod 4=I%4:=Int.tmod_eq_emod_of_nonneg (by omega)
theorem Ce(h1:1<=G)(h2:G<=4)(h3:16<=S)(h4:S<=512):0<=G*S/\G*S<=2048:=by
 have:0<=G*S:=Int.mul_nonneg (by omega) (by omega);have h:=Int.mul_le_mul h2 h4 (by omega) (by omega:(0:Int)<=4);omega
theorem eu(G S I J:Int)(w:World):Calls Tryz.prog 38 #[bN G S I J] w λe w'=>e= .returned (.bool (aM G S I J))/\Below w.heap.size w w':=by
 have HA:=hid (At.new w 23 (aa G S I J));have HL:Hid (Below w.heap.size w (w.alloc (.cells (aa G S I J) 23))):=(Below.refl _ _).alloc (Nat.le_refl _) _;have c0:(w.alloc (.cells #[.int .i64 G,.int .i64 S,.int .i64 I,.int .i64 J] 23)).cell? ⟨w.heap.size,0,none⟩=some (.int .i64 G):=HA.out.cell (i:=0) rfl;have c1:(w.alloc (.cells #[.int .i64 G,.int .i64 S,.int .i64 I,.int .i64 J] 23)).cell? ⟨w.heap.size,1,none⟩=some (.int .i64 S):=HA.out.cell (i:=1) rfl;have c2:(w.alloc (.cells #[.int .i64 G,.int .i64 S,.int .i64 I,.int .i64 J] 23)).cell? ⟨w.heap.size,2,none⟩=some (.int .i64 I):=HA.out.cell (i:=2) rfl;have c3:(w.alloc (.cells #[.int .i64 G,.int .i64 S,.int .i64 I,.int .i64 J] 23)).cell? ⟨w.heap.size,3,none⟩=some (.int .i64 J):=HA.out.cell (i:=3) rfl;go_enter Tryz.func38,Tryz.ntmps38
 by_cases h1:1<=G
 rotate_left
 ·have HN:Hid (aM G S I J=false):=cr λh=>by omega
  have UF:G<1:=by omega
  go_wp2_with fail;go_ret;exact⟨by rw[HN.out];rfl,HL.out⟩
 have UF:¬G<1:=by omega
 by_cases h2:G<=4
 rotate_left
 ·have HN:Hid (aM G S I J=false):=cr λh=>by omega
  have UE:4<G:=by omega
  go_wp2_with fail;go_ret;exact⟨by rw[HN.out];rfl,HL.out⟩
 have UE:¬4<G:=by omega
 by_cases h3:16<=S
 rotate_left
 ·have HN:Hid (aM G S I J=false):=cr λh=>by omega
  have UD:S<16:=by omega
  go_wp2_with fail;go_ret;exact⟨by rw[HN.out];rfl,HL.out⟩
 have UD:¬S<16:=by omega
 by_cases h4:S<=512
 rotate_left
 ·have HN:Hid (aM G S I J=false):=cr λh=>by omega
  have UC:512<S:=by omega
  go_wp2_with fail;go_ret;exact⟨by rw[HN.out];rfl,HL.out⟩
 have UC:¬512<S:=by omega
 by_cases h5:4<=I
 rotate_left
 ·have HN:Hid (aM G S I J=false):=cr λh=>by omega
  have UB:I<4:=by omega
  go_wp2_with fail;go_ret;exact⟨by rw[HN.out];rfl,HL.out⟩
 have UB:¬I<4:=by omega
 have t1:=nI I h5;have t2:=yl I h5
 by_cases h6:I<=64
 rotate_left
 ·have HN:Hid (aM G S I J=false):=cr λh=>by omega
  have UA:64<I:=by omega
  go_wp2_with fail;go_ret;exact⟨by rw[HN.out];rfl,HL.out⟩
 have UA:¬64<I:=by omega
 by_cases h7:I%4=0
 rotate_left
 ·have HN:Hid (aM G S I J=false):=cr λh=>by omega
  have q7:(I%4 !=0)=true:=by simpa using h7
  go_wp2_with fail;go_ret;exact⟨by rw[HN.out];rfl,HL.out⟩
 have q7:(I%4 !=0)=false:=by simpa using h7
 by_cases h8:40<=J
 rotate_left
 ·have HN:Hid (aM G S I J=false):=cr λh=>by omega
  have Uz:J<40:=by omega
  go_wp2_with fail;go_ret;exact⟨by rw[HN.out];rfl,HL.out⟩
 have Uz:¬J<40:=by omega
 by_cases h9:J<=256
 rotate_left
 ·have HN:Hid (aM G S I J=false):=cr λh=>by omega
  have Uy:256<J:=by omega
  go_wp2_with fail;go_ret;exact⟨by rw[HN.out];rfl,HL.out⟩
 have Uy:¬256<J:=by omega
 obtain⟨g0,g1⟩:=Ce h1 h2 h3 h4;have w1:IntKind.i64.wrap (G*S)=G*S:=IntWalk.i64_in _ (by omega)
 by_cases h10:3+I/4<=S
 rotate_left
 ·have HN:Hid (aM G S I J=false):=cr λh=>by omega
  have n10:S<2+I/4+1:=by omega
  have n11:¬3+I/4<=S:=by omega
  go_wp2_with fail;go_ret;exact⟨by rw[HN.out];rfl,HL.out⟩
 have n10:¬S<2+I/4+1:=by omega
 have HY:Hid (aM G S I J=decide (2+J+G*S<=2048)):=by
  show _=_;rw[Bool.eq_iff_iff,aX,decide_eq_true_eq];exact⟨λh=>h.2.2.2.2.2.2.2.2.2.2,λh=>⟨h1,h2,h3,h4,h5,h6,h7,h8,h9,h10,h⟩⟩
 go_wp2_with fail;go_ret;exact⟨by rw[HY.out];rfl,HL.out⟩
theorem dY(G S I J:Int)(w:World):Calls Tryz.prog 56 #[bN G S I J] w λe w'=>e= .returned (.bool (aM G S I J))/\Below w.heap.size w w':=by
 have HA:=hid (At.new w 23 (aa G S I J));have HL:Hid (Below w.heap.size w (w.alloc (.cells (aa G S I J) 23))):=(Below.refl _ _).alloc (Nat.le_refl _) _;have c0:(w.alloc (.cells #[.int .i64 G,.int .i64 S,.int .i64 I,.int .i64 J] 23)).cell? ⟨w.heap.size,0,none⟩=some (.int .i64 G):=HA.out.cell (i:=0) rfl;have c1:(w.alloc (.cells #[.int .i64 G,.int .i64 S,.int .i64 I,.int .i64 J] 23)).cell? ⟨w.heap.size,1,none⟩=some (.int .i64 S):=HA.out.cell (i:=1) rfl;have c2:(w.alloc (.cells #[.int .i64 G,.int .i64 S,.int .i64 I,.int .i64 J] 23)).cell? ⟨w.heap.size,2,none⟩=some (.int .i64 I):=HA.out.cell (i:=2) rfl;have c3:(w.alloc (.cells #[.int .i64 G,.int .i64 S,.int .i64 I,.int .i64 J] 23)).cell? ⟨w.heap.size,3,none⟩=some (.int .i64 J):=HA.out.cell (i:=3) rfl;go_enter Tryz.func56,Tryz.ntmps56
 by_cases h1:1<=G
 rotate_left
 ·have HN:Hid (aM G S I J=false):=cr λh=>by omega
  have UF:G<1:=by omega
  go_wp2_with fail;go_ret;exact⟨by rw[HN.out];rfl,HL.out⟩
 have UF:¬G<1:=by omega
 by_cases h2:G<=4
 rotate_left
 ·have HN:Hid (aM G S I J=false):=cr λh=>by omega
  have UE:4<G:=by omega
  go_wp2_with fail;go_ret;exact⟨by rw[HN.out];rfl,HL.out⟩
 have UE:¬4<G:=by omega
 by_cases h3:16<=S
 rotate_left
 ·have HN:Hid (aM G S I J=false):=cr λh=>by omega
  have UD:S<16:=by omega
  go_wp2_with fail;go_ret;exact⟨by rw[HN.out];rfl,HL.out⟩
 have UD:¬S<16:=by omega
 by_cases h4:S<=512
 rotate_left
 ·have HN:Hid (aM G S I J=false):=cr λh=>by omega
  have UC:512<S:=by omega
  go_wp2_with fail;go_ret;exact⟨by rw[HN.out];rfl,HL.out⟩
 have UC:¬512<S:=by omega
 by_cases h5:4<=I
 rotate_left
 ·have HN:Hid (aM G S I J=false):=cr λh=>by omega
  have UB:I<4:=by omega
  go_wp2_with fail;go_ret;exact⟨by rw[HN.out];rfl,HL.out⟩
 have UB:¬I<4:=by omega
 have t1:=nI I h5;have t2:=yl I h5
 by_cases h6:I<=64
 rotate_left
 ·have HN:Hid (aM G S I J=false):=cr λh=>by omega
  have UA:64<I:=by omega
  go_wp2_with fail;go_ret;exact⟨by rw[HN.out];rfl,HL.out⟩
 have UA:¬64<I:=by omega
 by_cases h7:I%4=0
 rotate_left
 ·have HN:Hid (aM G S I J=false):=cr λh=>by omega
  have q7:(I%4 !=0)=true:=by simpa using h7
  go_wp2_with fail;go_ret;exact⟨by rw[HN.out];rfl,HL.out⟩
 have q7:(I%4 !=0)=false:=by simpa using h7
 by_cases h8:40<=J
 rotate_left
 ·have HN:Hid (aM G S I J=false):=cr λh=>by omega
  have Uz:J<40:=by omega
  go_wp2_with fail;go_ret;exact⟨by rw[HN.out];rfl,HL.out⟩
 have Uz:¬J<40:=by omega
 by_cases h9:J<=256
 rotate_left
 ·have HN:Hid (aM G S I J=false):=cr λh=>by omega
  have Uy:256<J:=by omega
  go_wp2_with fail;go_ret;exact⟨by rw[HN.out];rfl,HL.out⟩
 have Uy:¬256<J:=by omega
 obtain⟨g0,g1⟩:=Ce h1 h2 h3 h4;have w1:IntKind.i64.wrap (G*S)=G*S:=IntWalk.i64_in _ (by omega)
 by_cases h10:3+I/4<=S
 rotate_left
 ·have HN:Hid (aM G S I J=false):=cr λh=>by omega
  have n10:S<2+I/4+1:=by omega
  have n11:¬3+I/4<=S:=by omega
  go_wp2_with fail;go_ret;exact⟨by rw[HN.out];rfl,HL.out⟩
 have n10:¬S<2+I/4+1:=by omega
 have HY:Hid (aM G S I J=decide (2+J+G*S<=2048)):=by
  show _=_;rw[Bool.eq_iff_iff,aX,decide_eq_true_eq];exact⟨λh=>h.2.2.2.2.2.2.2.2.2.2,λh=>⟨h1,h2,h3,h4,h5,h6,h7,h8,h9,h10,h⟩⟩
 go_wp2_with fail;go_ret;exact⟨by rw[HY.out];rfl,HL.out⟩
def Cs(f:Nat->List Value):Nat->List Value
 |0=>[]
 |k+1=>Cs f k++f k
theorem lN(f:Nat->List Value)(n:Nat):Cs f (n+1)=Cs f n++f n:=rfl
theorem dC(hf:∀i,(f i).length=m)(n:Nat):(Cs f n).length=n*m:=by
 induction n with
 |zero=>simp[Cs]
 |succ n ih=>rw[Cs,List.length_append,ih,hf,Nat.succ_mul]
theorem Bb(hf:∀i,(f i).length=m){n:Nat}(hi:i<n)(hj:j<m):(Cs f n)[i*m+j]? =(f i)[j]?:=by
 induction n with
 |zero=>omega
 |succ n ih=>
  rw[Cs]
  by_cases h:i<n
  ·rw[List.getElem?_append_left,ih h]
   rw[dC hf];have:(i+1)*m<=n*m:=Nat.mul_le_mul_right m h;rw[Nat.succ_mul] at this;omega
  ·obtain rfl:i=n:=by omega
   rw[List.getElem?_append_right (by rw[dC hf];omega),dC hf]
   congr 1;omega
theorem gC{g:Nat->List Value}{n:Nat}(h:∀i,i<n->f i=g i):Cs f n=Cs g n:=by
 induction n with
 |zero=>rfl
 |succ n ih=>rw[Cs,Cs,ih λi hi=>h i (by omega),h n (by omega)]
theorem OB(hf:∀i,∀v∈f i,v.oneCell'=true)(n:Nat):∀v∈Cs f n,v.oneCell'=true:=by
 induction n with
 |zero=>intro v hv;cases hv
 |succ n ih=>
  intro v hv;rw[Cs] at hv;rcases List.mem_append.1 hv with h|h
  ·exact ih v h
  ·exact hf n v h
theorem wL(f:Nat->List Value)(k m:Nat):Cs f k++Cs (λi=>f (k+i)) m=Cs f (k+m):=by
 induction m with
 |zero=>simp[Cs]
 |succ m ih=>show _++(_++_)=Cs f (k+m)++_;rw[<-List.append_assoc,ih];rfl
def aF(w:World)(b off m n:Nat)(f:Nat->List Value):Prop:=∀i,i<n->∀j v,(f i)[j]? =some v->w.cell? ⟨b,off+i*m+j,none⟩=some v
def cY(w:World)(a:Option Addr)(m n:Nat)(f:Nat->List Value):Prop:=n=0\/∃b off,a=some ⟨b,off,none⟩/\aF w b off m n f
theorem aF.range{n:Nat}(h:aF w b off m n f)(i:Nat)(hi:i<n):w.rangeAt b (off+i*m) (f i):=λj v hv=>h i hi j v hv
theorem aF.below{n:Nat}(h:aF w b off m n f)(hb:Below B w w')(hB:b<B):aF w' b off m n f:=
 λi hi j v hv=>(hb.cell (p:=⟨b,off+i*m+j,none⟩) hB).trans (h i hi j v hv)
theorem aF.lt{n:Nat}(h:aF w b off m n f)(hn:0<n)(hf:f 0≠[]):b<w.heap.size:=by
 cases e:f 0 with
 |nil=>exact absurd e hf
 |cons x xs=>exact World.block_lt_of_cell? w _ (h 0 hn 0 x (by rw[e];rfl))
theorem cY.below{a:Option Addr}{n:Nat}(h:cY w a m n f)(hf:f 0≠[])(hb:Below w.heap.size w w'):cY w' a m n f:=by
 by_cases h0:n=0
 ·exact .inl h0
 rcases h with h|⟨b,off,rfl,h⟩
 ·exact .inl h
 ·exact .inr ⟨b,off,rfl,h.below hb (h.lt (by omega) hf)⟩
def ah(w:World)(base:Nat)(e:TypeId)(m:Nat)(v:Value)(n:Nat)(f:Nat->List Value):Prop:=w.ownsRow base e m v n (Cs f n)
section
variable {w w':World} {base:Nat} {e:TypeId} {m:Nat} {v:Value} {n:Nat} {f:Nat->List Value}
theorem ah.nil(w:World)(base:Nat)(e:TypeId)(m:Nat)(f:Nat->List Value):ah w base e m (.slice none 0 0) 0 f:=World.ownsRow_nil w base e m
theorem ah.below(h:ah w base e m v n f)(hb:Below w.heap.size w w'):ah w' base e m v n f:=World.ownsRow.kept h (bq (row:=none) hb) (Classical.em _)
theorem ah.alloc(h:ah w base e m v n f)(o:Obj):ah (w.alloc o) base e m v n f:=World.ownsRow.alloc h o
theorem ah.kept{row:Option Nat}(h:ah w base e m v n f)(hg:w.grownBy w' row)(hne:v.ownBlock=none\/v.ownBlock≠row):ah w' base e m v n f:=World.ownsRow.kept h hg hne
theorem ah.low{base':Nat}(h:ah w base e m v n f)(hb:base'<=base):ah w base' e m v n f:=by
 refine⟨h.1,?_⟩;rcases h.2 with h'|⟨g',cap',cur,hv,hbb,hr⟩
 ·exact .inl h'
 ·exact .inr ⟨g',cap',cur,hv,by omega,hr⟩
theorem ah.form(h:ah w base e m v n f):∃a cap,v= .slice a n cap:=by
 rcases h.2 with⟨rfl,rfl⟩|⟨g,cap,cur,rfl,_⟩
 ·exact⟨none,0,rfl⟩
 ·exact⟨_,cap,rfl⟩
theorem ah.nM(h:ah w base e m v n f)(hn:0<n):∃g cap,v= .slice (some ⟨g,0,none⟩) n cap/\base<=g/\g<w.heap.size/\n<=cap/\cap<=maxLen:=by
 rcases h.2 with⟨_,h0⟩|⟨g,cap,cur,hv,hb,hg,hn,hc,_⟩
 ·omega
 ·exact⟨g,cap,hv,hb,(Array.getElem?_eq_some_iff.1 hg).1,hn,hc⟩
theorem ah.congr{g:Nat->List Value}(h:ah w base e m v n f)(he:∀i,i<n->f i=g i):ah w base e m v n g:=by
 unfold ah;rw[<-gC he];exact h
theorem ah.row{a:Option Addr}(h:ah w base e m (.slice a n cap) n f)(hf:∀i,(f i).length=m):cY w a m n f:=by
 rcases h.2 with⟨hv,h0⟩|⟨g,cap',cur,hv,hb,hg,hn,hc,hs,ht⟩
 ·exact .inl h0
 ·injection hv with h1 h2 h3
  subst h1;refine .inr ⟨g,0,rfl,λi hi j v hj=> ?_⟩;have hjm:j<m:=by have:=(List.getElem?_eq_some_iff.1 hj).1;rwa[hf] at this
  rw[<-Bb hf hi hjm,<-ht] at hj;have hlt:=(List.getElem?_eq_some_iff.1 hj).1;rw[List.getElem?_take_of_lt (by rw[List.length_take] at hlt;omega)] at hj;rw[Nat.zero_add];exact ay hg (by simpa using hj)
theorem ah.bI(h:ah w base e m (.slice (some ⟨g,0,none⟩) n cap) n f)(hf:∀i,(f i).length=m):aF w g 0 m n f:=by
 rcases h.row hf with h0|⟨b,off,he,hs⟩
 ·intro i hi;omega
 ·injection he with he;injection he with h1 h2;subst h1 h2;exact hs
theorem ah.append{news:List Value}(h:w.ownsRow base e m v (n+k) (Cs f n++news))(hk:news=Cs (λi=>f (n+i)) k):ah w base e m v (n+k) f:=by
 unfold ah;rw[<-wL,<-hk];exact h
end
theorem ez(w:World)(vs:List Value)(T:TypeId):∀(j:Nat) (u:Value),vs[j]? =some u->(w.alloc (.cells vs.toArray T)).cell? ((⟨w.heap.size,0,none⟩:Addr).add j)=some u:=by
 intro j u hj;rw[bh,Nat.zero_add];exact ay (heap_alloc_new w _) (by simpa using hj)
structure az(W:World)(g:Nat)(T:TypeId)(m n:Nat)(f:Nat->List Value):Prop where
 blk:∃cs,W.heap[g]? =some (.cells cs T (0,0))/\cs.size=n*m
 bI:aF W g 0 m n f
section
variable {W W':World} {g:Nat} {T:TypeId} {m n:Nat} {f:Nat->List Value}
theorem az.lt(h:az W g T m n f):g<W.heap.size:=by obtain⟨cs,h,_⟩:=h.blk;exact(Array.getElem?_eq_some_iff.1 h).1
theorem az.of_block(h:az W g T m n f)(e:W'.heap[g]? =W.heap[g]?):az W' g T m n f:=
 ⟨by obtain⟨cs,h1,h2⟩:=h.blk;exact⟨cs,e.trans h1,h2⟩,λi hi j v hv=>(World.cell?_of_block (w:=W) e).trans (h.bI i hi j v hv)⟩
theorem az.below(h:az W g T m n f)(hb:Below W.heap.size W W'):az W' g T m n f:=h.of_block (hb.block g h.lt)
theorem az.grown(h:az W g T m n f){row:Option Nat}(hb:W.grownBy W' row)(hg:some g≠row):az W' g T m n f:=h.of_block (hb.block g h.lt hg)
theorem az.only(h:az W g T m n f)(hb:an b W W')(hg:g≠b):az W' g T m n f:=h.of_block (hb.block g hg)
theorem az.congr{f':Nat->List Value}(h:az W g T m n f)(e:∀i,i<n->f i=f' i):az W g T m n f':=⟨h.blk,λi hi j v hv=>h.bI i hi j v (by rw[e i hi];exact hv)⟩
theorem az.there(h:az W g T m n f)(hk:k<n):W.there g (k*m) m:=λj hj=>by
 obtain⟨cs,h1,h2⟩:=h.blk;have hlt:k*m+j<cs.size:=by
  rw[h2];have:(k+1)*m<=n*m:=Nat.mul_le_mul_right m hk;rw[Nat.succ_mul] at this;omega
 exact⟨by rw[ay h1 (Array.getElem?_eq_getElem hlt)];rfl,ag h1 _⟩
theorem az.set(h:az W g T m n f)(hk:k<n){vs:List Value}(hv:vs.length=m)(hf:∀i,(f i).length=m):az (W.setCells g (k*m) vs) g T m n (λj=>if j=k then vs else f j)/\an g W (W.setCells g (k*m) vs):=by
 have ho:=eU g vs (k*m) W;have gn:=h.there hk;obtain⟨cs,h1,h2⟩:=h.blk;obtain⟨c',hc1,hc2⟩:=ho.shape _ _ _ h1;refine⟨⟨⟨c',hc2,by rw[hc1,h2]⟩,λi hi j v hj=> ?_⟩,ho⟩;rw[Nat.zero_add]
 by_cases e:i=k
 ·subst e
  rw[if_pos rfl] at hj;exact World.rangeAt_setCells_same W g (i*m) vs (by rw[hv];exact gn) j v hj
 ·rw[if_neg e] at hj
  have hr:W.rangeAt g (i*m) (f i):=by have:=h.bI.range i hi;rwa[Nat.zero_add] at this
  refine World.rangeAt_setCells_apart hr g (k*m) vs ?_ j v hj;rw[hf,hv];rcases Nat.lt_or_gt_of_ne e with h'|h'
  ·have:(i+1)*m<=k*m:=Nat.mul_le_mul_right m h'
   rw[Nat.succ_mul] at this;omega
  ·have:(k+1)*m<=i*m:=Nat.mul_le_mul_right m h'
   rw[Nat.succ_mul] at this;omega
theorem az.P8(h:az W g T m n f)(hf:∀i,(f i).length=m){base:Nat}(hb:base<=g)(hn:n<=maxLen):ah W base T m (.slice (some ⟨g,0,none⟩) n n) n f:=by
 obtain⟨cs,h1,h2⟩:=h.blk;refine⟨dC hf n,.inr ⟨g,n,cs,rfl,hb,h1,Nat.le_refl _,hn,h2,?_⟩⟩;rw[List.take_of_length_le (by rw[Array.length_toList,h2];exact Nat.le_refl _)];apply List.ext_getElem?;intro p
 by_cases hp:p<n*m
 ·have hm:0<m:=by
   rcases Nat.eq_zero_or_pos m with e|e
   ·rw[e,Nat.mul_zero] at hp;omega
   ·exact e
  have hq:p/m<n:=(Nat.div_lt_iff_lt_mul hm).2 hp;have hr:p%m<m:=Nat.mod_lt _ hm;have he:p/m*m+p%m=p:=by rw[Nat.mul_comm];exact Nat.div_add_mod p m
  obtain⟨v,hv⟩:∃v,(f (p/m))[p%m]? =some v:=⟨_,List.getElem?_eq_getElem (by rw[hf];exact hr)⟩;have h3:=h.bI (p/m) hq (p%m) v hv;rw[Nat.zero_add,he] at h3;have h4:=Bb hf hq hr;rw[he] at h4;rw[h4,hv,Array.getElem?_toList,Array.getElem?_eq_getElem (by rw[h2];exact hp)];have h5:=ay h1 (Array.getElem?_eq_getElem (show p<cs.size by rw[h2];exact hp));rw[h3] at h5;exact h5.symm
 ·rw[List.getElem?_eq_none (by rw[Array.length_toList,h2];omega),List.getElem?_eq_none (by rw[dC hf];omega)]
theorem az.made(w:World)(z:Array Value)(hz:z.size=m)(hm:0<m)(n:Nat)(T:TypeId):az (w.alloc (.cells (madeCells z (n*m)) T)) w.heap.size T m n (λ_=>z.toList):=
 ⟨⟨_,heap_alloc_new w _,size_madeCells _ _⟩,λi hi j v hj=>by
  rw[Nat.zero_add];have hj':j<m:=by have:=(List.getElem?_eq_some_iff.1 hj).1;rw[Array.length_toList,hz] at this;exact this
  have hlt:i*m+j<n*m:=by
   have:(i+1)*m<=n*m:=Nat.mul_le_mul_right m hi;rw[Nat.succ_mul] at this;omega
  refine ay (heap_alloc_new w _) ?_;have Nh:(i*m+j)%m=j:=by rw[Nat.mul_comm,Nat.mul_add_mod,Nat.mod_eq_of_lt hj']
  have hz':z[j]? =some v:=by rw[<-hj,Array.getElem?_toList]
  simp only[madeCells,Array.getElem?_map,Array.getElem?_range,hlt,if_true,Option.map_some,hz,Nh];rw[getElem!_def,hz']⟩
theorem dg(t e:TypeId)(z:Value)(m bytes:Nat)(ht:P.underlying t=some (.slice e))(hinfo:(P.info? e).map (λi=>(i.zero,i.size,i.bytes))=some (some z,m,bytes))
  (kl kc:IntKind) (n:Nat) (hbytes:bytes*n<=281474976710656) (h63:n<=9223372036854775807) (w:World):
  (Instr.makeSlice t (.int kl (n:Int)) (.int kc (n:Int))).run P w= .ok (.slice (some ⟨w.heap.size,0,none⟩) n n) (w.alloc (.cells (madeCells z.cells (n*m)) e)):=by
 obtain⟨i,hi,hzz⟩:=Option.map_eq_some_iff.1 hinfo;simp only[Prod.mk.injEq] at hzz;obtain⟨hz,hs,hb⟩:=hzz;have hb':(i.bytes:Int)*(n:Int)<=281474976710656:=by
  have h:((i.bytes*n:Nat):Int)<=281474976710656:=by rw[hb];omega
  rwa[Int.natCast_mul] at h
 have hr:=run_make (P:=P) w t e i z ht hi hz kl kc n n (by omega) (Int.le_refl _) hb' (by omega);simp only[Int.toNat_natCast,hs] at hr;exact hr
end
theorem az.dz{W:World}{n:Nat}(h:az W g T m n f)(hk:k<n)(hj:j<m)(hf:∀i,(f i).length=m)(v:Value):az (W.setCell ⟨g,k*m+j,none⟩ v) g T m n (λi=>if i=k then(f i).set j v else f i):=by
 have ho:=an.setCell W ⟨g,k*m+j,none⟩ v;obtain⟨cs,h1,h2⟩:=h.blk;obtain⟨c',hc1,hc2⟩:=ho.shape _ _ _ h1;refine⟨⟨c',hc2,by rw[hc1,h2]⟩,λi hi p u hp=> ?_⟩;rw[Nat.zero_add];obtain⟨x,hx⟩:∃x,W.cell? ⟨g,k*m+j,none⟩=some x:=by
  have:=h.bI k hk j _ (List.getElem?_eq_getElem (by rw[hf];exact hj));rw[Nat.zero_add] at this;exact⟨_,this⟩
 have hpm:p<m:=by
  have:=(List.getElem?_eq_some_iff.1 hp).1
  by_cases e:i=k
  ·rw[if_pos e,List.length_set,hf] at this;exact this
  ·rw[if_neg e,hf] at this;exact this
 by_cases e:i=k
 ·subst e
  rw[if_pos rfl] at hp
  by_cases e2:p=j
  ·subst e2
   rw[List.getElem?_set_self (by rw[hf];exact hpm)] at hp;cases hp
   exact World.cell?_setCell_same _ _ _ hx
  ·rw[List.getElem?_set_ne (λh=>e2 h.symm)] at hp
   rw[World.cell?_setCell_other _ _ _ _ (by intro h;injection h with _ h _;omega)];have:=h.bI i hi p u hp;rwa[Nat.zero_add] at this
 ·rw[if_neg e] at hp
  have hne:k*m+j≠i*m+p:=by
   rcases Nat.lt_or_gt_of_ne e with h'|h'
   ·have:(i+1)*m<=k*m:=Nat.mul_le_mul_right m h'
    rw[Nat.succ_mul] at this;omega
   ·have:(k+1)*m<=i*m:=Nat.mul_le_mul_right m h'
    rw[Nat.succ_mul] at this;omega
  rw[World.cell?_setCell_other _ _ _ _ (by intro h;injection h with _ h _;exact hne h)];have:=h.bI i hi p u hp;rwa[Nat.zero_add] at this
theorem an.grown(h:an b w w'):w.grownBy w' (some b):=⟨h.os,h.tape,h.output,by rw[h.size];exact Nat.le_refl _,λk _ hk=>h.block k (λe=>hk (by rw[e]))⟩
theorem iK{op:Oper}(hgd:op.guard=none)(ty:TypeId)(x y:Operand)(ho:op.op= .store ty x y)
  (b o:Nat) (cs:List Value) (hx:a.eval x= .pointer (some ⟨b,o,none⟩)) (hy:a.eval y= .agg cs.toArray)
  (ht:w.there b o cs.length) (hi:(P.info? ty).map (·.size)=some cs.length) (h1:∀v∈cs,v.oneCell'=true)
  (h:∀w',Hid (w'=w.setCells b o cs)->wpList P ops Q rest (a.put op.dst undef) w'):wpList P ops Q (op::rest) a w:=
 wpList_store_mid hgd ty x y ho b o cs.toArray hx hy (by simpa using ht) (by simpa using hi) (by rw[List.all_toArray,List.all_eq_true];exact h1) (h _ (hid rfl))
theorem dt(hgd:o.guard=none)(t:TypeId)(n i:Nat)(x:Operand)(ho:o.op= .buildSlice t n #[(i,x)])
  (u:Value) (hx:a.eval x=u) (v:Value) (w':World) (hr:(Instr.buildSlice t n #[(i,u)]).run P w= .ok v w') (h:wpList P ops Q rest (a.put o.dst v) w'):wpList P ops Q (o::rest) a w:=
 wpList_plain hgd λ_ hK=>by
  unfold Oper.wp execOp;subst hx;simp only[ho,Sem.run_bind,List.map_toArray,List.map_cons,List.map_nil,hr,Result.andThen_ok,Sem.run_pure];exact hK _ _ h
section
variable {P:Program} {F:Fence} {nF:Nat} {ops:Array Oper} {rest:List Oper} {o:Oper} {a:Act} {w:World} {Q:Exit->Act->World->Prop}
theorem qs(hw:Region.wanted o (yielded ops a.tmps)=true)(hc:∀c,o.op≠ .call c)(hd:∀c,o.op≠ .defer c)(hr:(execOp a.eval o).run P w= .ok (.value v) w')
  (h:wpListIn F nF P ops Q rest (a.put o.dst v) w'):wpListIn F nF P ops Q (o::rest) a w:=by
 refine wpListIn_step λK hK=> ?_
 simp only[hw,if_true];unfold Oper.wpIn;refine⟨?_,?_⟩
 ·intro f hf
  unfold Oper.about at hf;split at hf
  ·rename_i c ho;exact absurd ho (hc c)
  ·cases hf
 ·rw[Oper.semAt_plain F _ _ hd,hr]
  exact hK _ _ h
theorem n5(hw:Region.wanted o (yielded ops a.tmps)=true)(hc:∀c,o.op≠ .call c)(hd:∀c,o.op≠ .defer c)(hr:(execOp a.eval o).run P w= .ok .skip w')
  (h:wpListIn F nF P ops Q rest (a.put o.dst undef) w'):wpListIn F nF P ops Q (o::rest) a w:=by
 refine wpListIn_step λK hK=> ?_
 simp only[hw,if_true];unfold Oper.wpIn;refine⟨?_,?_⟩
 ·intro f hf
  unfold Oper.about at hf;split at hf
  ·rename_i c ho;exact absurd ho (hc c)
  ·cases hf
 ·rw[Oper.semAt_plain F _ _ hd,hr]
  exact hK _ _ h
theorem iL(hw:Region.wanted o (yielded ops a.tmps)=true)(T:TypeId)(p:Operand)(ho:o.op= .load T p)
  (g:Nat) (cs:Array Value) (d:TypeDesc) (hx:a.eval p= .pointer (some ⟨g,0,none⟩)) (hI:At w g T cs) (hu:P.underlying T=some d) (hd:(match d with| .struct _| .array _ _=>true|_=>false)=true) (hi:(P.info? T).map (·.size)=some cs.size)
  (h:wpListIn F nF P ops Q rest (a.put o.dst (.agg cs)) w):wpListIn F nF P ops Q (o::rest) a w:=by
 refine qs hw (by rw[ho];intro c h;cases h) (by rw[ho];intro c h;cases h) ?_ h;unfold execOp;simp only[ho,hx,Instr.loadAt,Instr.sureAddr,Sem.run_bind,Sem.run_pure,Result.andThen_ok,run_loadVar_row w g T T cs (0,0) d hI hu hd hi]
theorem fy(hw:Region.wanted o (yielded ops a.tmps)=true)(T:TypeId)(p q:Operand)(ho:o.op= .store T p q)
  (g:Nat) (cs old:Array Value) (hx:a.eval p= .pointer (some ⟨g,0,none⟩)) (hy:a.eval q= .agg cs) (hI:At w g T old) (hi:(P.info? T).map (·.size)=some cs.size) (hs:old.size=cs.size) (h1:cs.all (·.oneCell')=true)
  (h:∀w',At w' g T cs->an g w w'->wpListIn F nF P ops Q rest (a.put o.dst undef) w'):wpListIn F nF P ops Q (o::rest) a w:=by
 refine n5 hw (by rw[ho];intro c h;cases h) (by rw[ho];intro c h;cases h) (w':=w.setRow g cs) ?_ (h _ (setRow_heap w g _ cs _ _ hI) (gx w g _ hI hs.symm));unfold execOp;simp only[ho,hx,hy,Instr.storeAt,Instr.sureAddr,Sem.run_bind,Sem.run_pure,Result.andThen_ok,run_storeVar_row w g T T old cs hI hi hs h1]
end
section
variable {P:Program}
theorem aw.bel{X:World->Prop}(h:aw B X){W W':World}(hs:X W)(hb:Below W.heap.size W W'):X W':=h W W' hs ⟨hb.os,hb.tape,hb.output,hb.size,λk _ hl=>hb.block k hl⟩
theorem aw.at(t:TypeId)(cs:Array Value)(hb:b<B):aw B (λW=>At W b t cs):=λ_ _ hs hg=>(hg.block b hb (At.lt hs)).trans hs
theorem xf{g:Operand}{ps:Array Tmp}{LG LC:Code}{gf:Nat}{lb:Array Value}
  (hg:a.eval g= .func (.func gf) #[] lb) (eg:∀args w,(callFunc gf args).run P w= .ok (.enter gf args) w)
  {iH:Nat->Array Value} {N:Nat} {ed:Nat->World->Prop} (hit:ll Fence.wide 4 P gf lb iH N (λ_=>False) ed) (hps:∀k,(iH k).size=ps.size)
  (T:TypeId) (cs:Nat->Array Value)
  (J:Nat->World->Prop) (Jx:Code->Nat->World->Prop)
  (hJ:∀k,aw w.heap.size (J k)) (AG:∀c k,aw w.heap.size (Jx c k)) (hN:∀k,aw w.heap.size (ed k)) (h0:J 0 w) (hn0:ed 0 w) (A1:Nat->Nat->Act)
  (assign:∀(l k:Nat) (W:World) (K:Act->World->Prop),k<N->(∀p W',p=W.heap.size->Below W.heap.size W W'->At W' p T (cs k)->K (A1 k p) W')->
   LG.wpIn (Fence.wide.inRound l) 3 P (Exit.then K (λ_ _ _=>False)) {tmps:=(ps.zip (iH k)).foldl (λt (p,v)=>t.setIfInBounds p v) a.tmps,defers:=[]} W)
  (body:∀(l k p:Nat) (W:World),k<N->J k W->ed k W->At W p T (cs k)->LC.wpIn (Fence.wide.inRound l) 3 P (nk w.heap.size J Jx ed k W) (A1 k p) W)
  (done:∀(D:Nat) (W:World),w.heap.size<=D->J N W->W.heap[D]? =some (.deferred (some []))->Q .normal {a with defers:={target:=.collected D,args:=#[]}::a.defers} W)
  (stop:∀(D:Nat) (c:Code) (k:Nat) (W:World),w.heap.size<=D->k<N->Jx c k W->W.heap[D]? =some (.deferred (some []))->c.wp P Q {a with defers:={target:=.collected D,args:=#[]}::a.defers} W):
  (Code.rangeFunc g ps LG LC).wp P Q a w:=by
 refine(wpIn_wide (n:=5)).1 ?_;exact jG rfl (by decide) hg trivial eg hit (λr h=>h.elim) hps J Jx (λk a' W=>∃p,a'=A1 k p/\At W p T (cs k))
  (aw.own hJ) (λc=>aw.own (AG c)) (aw.own hN)
  (λa' k W W' row hs hgr hr=>by
   obtain⟨p,he,hA⟩:=hs;refine⟨p,he,(hgr.block p hA.lt (λe=> ?_)).trans hA⟩;obtain⟨_,o,ho,hc⟩:=hr p e.symm;have:some (Obj.cells (cs k) T (0,0))=some o:=hA.symm.trans ho;injection this with this
   subst this;cases hc)
  (λk A C hs ht=>(hJ k).turns hs ht) (λc k A C hs ht=>(AG c k).turns hs ht) h0 hn0
  (λl k W K hk hj hn hK=>assign l k W K hk (λp W' _ hb hA=>hK _ _ (Below.keeps hb) ((hJ k).bel hj hb) ((hN k).bel hn hb) ⟨p,rfl,hA⟩))
  (λl k a' W hk hj hn ha=>by obtain⟨p,rfl,hA⟩:=ha;exact body l k p W hk hj hn hA)
  done (λD c k W h1 h2 h3 h4=>wpIn_wide.2 (stop D c k W h1 h2 h3 h4))
end
theorem aB(hw:Region.wanted o (yielded ops a.tmps)=true)(T:TypeId)(p:Operand)(ho:o.op= .load T p)
  (g off:Nat) (cs:List Value) (d:TypeDesc) (hx:a.eval p= .pointer (some ⟨g,off,none⟩)) (hI:w.rangeAt g off cs) (hu:P.underlying T=some d) (hd:d.isRow=true) (hi:(P.info? T).map (·.size)=some cs.length)
  (h:wpList P ops Q rest (a.put o.dst (.agg cs.toArray)) w):wpList P ops Q (o::rest) a w:=
 BigFrame.wpList_want hw λ_ hK=>wp_load_mid T p ho g off hx cs d hI hu hd hi (hK _ _ h)
section
variable {F:Fence} {n:Nat} {P:Program}
end
section
open Go.Shelf
attribute [local go_sem] Oper.semAt_some
end
end Go.Proofs.YtphamecphmbipaaGreatDoor
