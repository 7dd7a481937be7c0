/- Texts of this claim, merged. -/
import Derived.Test.YtphamecphmbipaaGreatDoorZ06
import Derived.Test.YtphamecphmbipaaGreatDoorZ07
import Derived.Lib.Strings
import Derived.Lib.Slices
import Derived.Lib.Walk
import Derived.Lib.Bytealg
set_option linter.unusedVariables false
set_option maxRecDepth 100000
set_option maxHeartbeats 16000000

namespace Go.Proofs.YtphamecphmbipaaGreatDoor
open Go.RowKit
variable {ops:Array Oper} {rest:List Oper} {o:Oper} {a:Act} {w:World} {Q:Exit->Act->World->Prop} {base j:Nat} {e:TypeId} {v:Value} {xs:List Value}
section
variable {P:Program} {md:Region.Mode} {ops:Array Oper}
end
section
variable {P:Program}
theorem jm(w:World)(b off:Nat)(ty:TypeId)(u v:Value)(hc:w.cell? ⟨b,off,none⟩=some u)(hf:w.frozen? ⟨b,off,none⟩=false)(hi:(P.info? ty).map (·.size)=some 1)(h1:v.oneCell'=true):
  (storeVar ty ⟨b,off,none⟩ v).run P w= .ok () (w.setCell ⟨b,off,none⟩ v):=by
 have hv:v.cells= #[v]:=by cases v<;>first|rfl|cases h1
 have hst:(store ⟨b,off,none⟩ v).run P w= .ok () (w.setCell ⟨b,off,none⟩ v):=by rw[run_store P w _ _ _ h1,hc];simp[hf]
 cases hq:P.info? ty with
 |none=>simp[hq] at hi
 |some i=>
  have hs:i.size=1:=by simpa[hq] using hi
  simp[storeVar,sizeOf,typeInfo,hq,hv,hs,storeCells,bA,hst]
theorem tM(hgd:o.guard=none)(ty:TypeId)(x y:Operand)(ho:o.op= .store ty x y)
  (b off:Nat) (v:Value) (hx:a.eval x= .pointer (some ⟨b,off,none⟩)) (hy:a.eval y=v) (u:Value) (hc:w.cell? ⟨b,off,none⟩=some u) (hf:w.frozen? ⟨b,off,none⟩=false) (hi:(P.info? ty).map (·.size)=some 1) (h1:v.oneCell'=true)
  (h:wpList P ops Q rest (a.put o.dst undef) (w.setCell ⟨b,off,none⟩ v)):wpList P ops Q (o::rest) a w:=
 wpList_plain hgd λ_ hK=>by
  unfold Oper.wp execOp;simp only[ho,hx,hy,Instr.storeAt,Instr.sureAddr,Sem.run_bind,Sem.run_pure,Result.andThen_ok,jm w b off ty u v hc hf hi h1];exact hK _ _ h
end
theorem BP:(Tryz.prog.info? 5).map (·.size)=some 1:=by kernel_rfl
theorem dA(hgd:o.guard=none)(x y:Operand)(ho:o.op= .store 5 x y)
  (b off:Nat) (v:Int) (hx:a.eval x= .pointer (some ⟨b,off,none⟩)) (hy:a.eval y= .int .u8 v) {T:TypeId} {n:Nat} {z:Nat->Int} (hB:aU w b T n z) (hn:off<n)
  (h:∀w',aU w' b T n (over z off 1 (λ_=>v))->az b w w'->wpList Tryz.prog ops Q rest (a.put o.dst undef) w'):wpList Tryz.prog ops Q (o::rest) a w:=
 tM hgd 5 x y ho b off _ hx hy _ (by have:=hB.bQ off hn;rwa[Nat.zero_add] at this) (an hB off) BP rfl (h _ (hB.setCell off v hn) (az.setCell w ⟨b,off,none⟩ _))
theorem jG{W:World}{n:Nat}{size:Nat}(h:W.ownsRow base e size v n xs)(hn:0<n):∃g cap,v= .slice (some ⟨g,0,none⟩) n cap:=by
 rcases h.2 with⟨_,h0⟩|⟨g',cap',cur,hv,_⟩
 ·omega
 exact⟨g',cap',hv⟩
def Cl(R:World->Prop):Prop:=∀W W',R W->Below W.heap.size W W'->R W'
section
variable {P:Program} {md:Region.Mode} {ops ops1:Array Oper} {S:World->Prop} {A:Act}
variable {n d:Nat} {al:Oper} {l2:List Oper} {T:TypeId} {cs:Array Value} {Q:Exit->Act->World->Prop} {base:Nat}
end
theorem fm{W W':World}{k p:Nat}{size:Nat}(h:W.ownsRow base e size v k xs)(ho:az p W W')(hp:v.ownBlock≠some p):W'.ownsRow base e size v k xs:=by
 refine⟨h.1,?_⟩;rcases h.2 with h'|⟨g',cap',cur,hv,hbb,hg,hr⟩
 ·exact .inl h'
 exact .inr ⟨g',cap',cur,hv,hbb,(ho.block g' (λe=>hp (by rw[hv,e];rfl))).trans hg,hr⟩
def mu(md:Region.Mode)(n:Nat)(ops:Array Oper):Bool:=
 (List.range ops.size).all λj=>match ops[j]? with
  |none=>true
  |some o=>if j<n then(match o.guard with|none=>true|some (g,_)=>decide (g<n)) else(List.range j).all λi=>Mv.kU md ops ops.size j i
section
variable {P:Program} {md:Region.Mode} {ops:Array Oper}
theorem mV{n:Nat}(h:mu md n ops=true)(hj:ops[j]? =some o)(hn:n<=j){i:Nat}(hi:i<j):Mv.kU md ops ops.size j i=true:=by
 unfold mu at h;rw[List.all_eq_true] at h;have h1:=h j (List.mem_range.2 (Array.getElem?_eq_some_iff.1 hj).1);simp only[hj,if_neg (show¬j<n by omega),List.all_eq_true] at h1;exact h1 i (List.mem_range.2 hi)
theorem pH{n:Nat}(h:mu md n ops=true)(hj:ops[j]? =some o)(hn:j<n){g:Nat}{b:Bool}(hg:o.guard=some (g,b)):g<n:=by
 unfold mu at h;rw[List.all_eq_true] at h;have h1:=h j (List.mem_range.2 (Array.getElem?_eq_some_iff.1 hj).1);simp only[hj,if_pos hn,hg,decide_eq_true_eq] at h1;exact h1
theorem oZ{n:Nat}(hb:mu md n ops=true)(hd:ft md ops=true):∀(l:List Oper) (k x:Nat) (listed:Array Bool) (a:Act) (w:World),n<=k->(∀j,l[j]? =ops[k+j]?)->listed.size=ops.size->
  (∀i,i<k->listed.getD i false=true)->(∀i,k<=i->i<ops.size->listed.getD i true=false)->wpList P ops Q l a w->wpAny P md ops Q (l.length+x) listed a w
 |[],k,x,listed,a,w,hk,hl,hs,h1,h0,h=>by
  have hsz:ops.size<=k:=by have:=(hl 0).symm;simp at this;omega
  have hr:Region.ready md ops listed=[]:=by
   cases hr:Region.ready md ops listed with
   |nil=>rfl
   |cons i r=>
    have hi:i∈Region.ready md ops listed:=by rw[hr];simp
    obtain⟨hu,o,ho,_⟩:=mem_ready.1 hi;have hlt:=(Array.getElem?_eq_some_iff.1 ho).1;have:=h1 i (by omega);rw[Array.getD_eq_getD_getElem?,Array.getElem?_eq_getElem (by omega)] at hu this;simp at hu this;rw[this] at hu;cases hu
  cases x with
  |zero=>exact⟨hr,h⟩
  |succ x=>
   rw[show([]:List Oper).length+(x+1)=x+1 by simp];exact⟨λ_=>h,λi hi=>by rw[hr] at hi;cases hi⟩
 |o::l,k,x,listed,a,w,hk,hl,hs,h1,h0,h=>by
  have ho:ops[k]? =some o:=by simpa using(hl 0).symm
  have hlt:=(Array.getElem?_eq_some_iff.1 ho).1;have hin:k∈Region.ready md ops listed:=mem_ready.2 ⟨h0 k af hlt,o,ho,λe he pr=>h1 _ (cX hd ho he pr)⟩;rw[show(o::l).length+x=(l.length+x)+1 by simp;omega];refine⟨λhr=>(by rw[hr] at hin;cases hin),λi hi=> ?_⟩;obtain⟨hu,oi,hoi,hall⟩:=mem_ready.1 hi;have adC:=(Array.getElem?_eq_some_iff.1 hoi).1;have hik:i=k:=by
   rcases Nat.lt_trichotomy i k with hh|hh|hh
   ·have:=h1 i hh
    rw[Array.getD_eq_getD_getElem?,Array.getElem?_eq_getElem (by omega)] at hu this;simp at hu this;rw[this] at hu;cases hu
   ·exact hh
   have hcl:Mv.Cl md ops listed:=λj oj hj Et e he pr=>by
    have hjk:j<k:=by
     rcases Nat.lt_or_ge j k with h'|h'
     ·exact h'
     have h2:=h0 j h' (Array.getElem?_eq_some_iff.1 hj).1;rw[Array.getD_eq_getD_getElem?,Array.getElem?_eq_getElem (by have:=(Array.getElem?_eq_some_iff.1 hj).1;omega)] at h2 Et;simp at h2 Et;rw[h2] at Et;cases Et
    have:=cX hd hj he pr;exact h1 _ (by omega)
   have hx:=hcl.reach hall hoi (mV hb hoi (by omega) hh);have h2:=h0 k af hlt;rw[Array.getD_eq_getD_getElem?,Array.getElem?_eq_getElem (by omega)] at hx h2;simp at hx h2;rw[hx] at h2;cases h2
  subst hik;have key:wpOp P ops Q i (wpList P ops Q l) a w:=by
   unfold wpOp;simp only[ho];exact h
  refine wpOp_mono (λa' w' h'=>oZ hb hd l (i+1) x _ a' w' (by omega) (λj=>by have:=hl (j+1);simpa[Nat.add_assoc,Nat.add_comm 1 j] using this) (by simpa using hs) (λj hj=> ?_) (λj hj hjs=> ?_) h') key
  ·by_cases rZ:j=i
   ·subst rZ;simp[Array.getD_eq_getD_getElem?,hs,hlt]
   rw[Array.getD_eq_getD_getElem?,Array.getElem?_setIfInBounds_ne (Ne.symm rZ),<-Array.getD_eq_getD_getElem?];exact h1 j (by omega)
  rw[Array.getD_eq_getD_getElem?,Array.getElem?_setIfInBounds_ne (by omega),<-Array.getD_eq_getD_getElem?];exact h0 j (by omega) hjs
theorem D7{n:Nat}{ops1:Array Oper}{l2:List Oper}{C:World->Prop}(hb:mu md n ops=true)(hd:ft md ops=true)(hd1:ft md ops1=true)(uq:ops1.size=n)(h1:∀i,i<n->ops1[i]? =ops[i]?)(hl:∀j,l2[j]? =ops[n+j]?)
  {Q:Exit->Act->World->Prop} {Q1:Act->Prop} (hQ:∀a w,C w->Q1 a->wpList P ops Q l2 a w):∀(fuel:Nat) (bf listed:Array Bool) (a:Act) (w:World),C w->Mv.Cl md ops listed->bf.size=n->listed.size=ops.size->
   (∀i,i<n->bf[i]? =listed[i]?)->(∀i,n<=i->i<ops.size->listed.getD i true=false)->wpAnyQ P md ops1 C Q1 fuel bf a->wpAny P md ops Q (l2.length+fuel) listed a w:=by
 have hnn:n<=ops.size:=by
  rcases Nat.lt_or_ge ops.size n with h|h
  ·have:=h1 ops.size h
   rw[Array.getElem?_eq_none af,Array.getElem?_eq_none_iff] at this;omega
  exact h
 have done:∀(fuel:Nat) (bf listed:Array Bool) (a:Act) (w:World),C w->bf.size=n->listed.size=ops.size->(∀i,i<n->bf[i]? =listed[i]?)->(∀i,n<=i->i<ops.size->listed.getD i true=false)->
   Region.ready md ops1 bf=[]->Q1 a->wpAny P md ops Q (l2.length+fuel) listed a w:=λfuel bf listed a w hw hs1 hs hll h0 hr hq=>by
  refine oZ hb hd l2 n fuel listed a w af hl hs (λi hi=> ?_) h0 (hQ a w hw hq);have:=oG hd1 (by omega) hr i (by omega);rw[Array.getD_eq_getD_getElem?,hll i hi,<-Array.getD_eq_getD_getElem?] at this;exact this
 intro fuel
 induction fuel with
 |zero=>intro bf listed a w hw hcl hs1 hs hll h0 h;exact done 0 bf listed a w hw hs1 hs hll h0 h.1 h.2
 |succ fuel ih=>
  intro bf listed a w hw hcl hs1 hs hll h0 h
  by_cases hr:Region.ready md ops1 bf=[]
  ·exact done _ bf listed a w hw hs1 hs hll h0 hr (h.1 hr)
  obtain⟨i0,hi0⟩:=List.exists_mem_of_ne_nil _ hr;obtain⟨hu0,o0,ho0,GA⟩:=mem_ready.1 hi0;have AR:i0<n:=by rw[<-uq];exact(Array.getElem?_eq_some_iff.1 ho0).1
  have get:∀i,i<n->∀d,bf.getD i d=listed.getD i d:=λi hi d=>by rw[Array.getD_eq_getD_getElem?,Array.getD_eq_getD_getElem?,hll i hi]
  have up:i0∈Region.ready md ops listed:=mem_ready.2 ⟨by rw[<-get i0 AR];exact hu0,o0,by rw[<-h1 i0 AR];exact ho0,λe he pr=>by
   have hlt:=cX hd1 ho0 he pr;rw[<-get e.on (by omega)];exact GA e he pr⟩
  rw[show l2.length+(fuel+1)=(l2.length+fuel)+1 by omega];refine⟨λNA=>(by rw[NA] at up;cases up),λi hi=> ?_⟩;obtain⟨hu,o,ho,hall⟩:=mem_ready.1 hi;have hin:i<n:=by
   rcases Nat.lt_or_ge i n with hh|hh
   ·exact hh
   have hx:=hcl.reach hall ho (mV hb ho hh (i:=i0) (by omega));rw[<-get i0 AR] at hx;rw[Array.getD_eq_getD_getElem?,Array.getElem?_eq_getElem (by omega)] at hx hu0;simp at hx hu0;rw[hx] at hu0;cases hu0
  have wm:ops1[i]? =some o:=by rw[h1 i hin];exact ho
  have hi1:i∈Region.ready md ops1 bf:=mem_ready.2 ⟨by rw[get i hin];exact hu,o,wm,λe he pr=>by
   have hlt:=cX hd1 wm he pr;rw[get e.on (by omega)];exact hall e he pr⟩
  have hq:=h.2 i hi1;have hwant:∀a:Act,Region.wanted o (yielded ops1 a.tmps)=Region.wanted o (yielded ops a.tmps):=λa=>by
   unfold Region.wanted;cases hg:o.guard with
   |none=>rfl
   |some p=>
    obtain⟨g,b⟩:=p;have:=pH hb ho hin hg;simp only[yielded,h1 g this]
  have hq':qOp P ops C i (wpAnyQ P md ops1 C Q1 fuel (bf.setIfInBounds i true)) a:=by
   unfold qOp at hq ⊢;simp only[wm] at hq;simp only[ho];rw[<-hwant];exact hq
  refine wpOp_of_qOp hw (λa' w' hw' h'=>ih (bf.setIfInBounds i true) (listed.setIfInBounds i true) a' w' hw' (hcl.next hi) (by simpa using hs1) (by simpa using hs) (λj hj=> ?_) (λj hj hjs=> ?_) h') hq'
  ·by_cases rZ:i=j
   ·subst rZ;simp[hs1,hs,hj,show i<ops.size by omega]
   rw[Array.getElem?_setIfInBounds_ne rZ,Array.getElem?_setIfInBounds_ne rZ];exact hll j hj
  rw[Array.getD_eq_getD_getElem?,Array.getElem?_setIfInBounds_ne (by omega),<-Array.getD_eq_getD_getElem?];exact h0 j hj hjs
theorem aG(S:World->Prop)(n:Nat){id:Nat}{L:List Oper}(hm:P.follows .mixedOrders=true)(hB:Region.lexB .any (L.take n).toArray=true)
  (hb:mu .any n L.toArray=true) (hd:ft .any L.toArray=true) (hd1:ft .any (L.take n).toArray=true) (hn:n<=L.length) (hS:S {w with drawn:=w.drawn+1})
  (h:Nonempty (a9 S)->wpQuiet P (L.take n).toArray (λw'=>∃s:a9 S,w'=s.W) (λa'=>∀w',Sv S w'->wpList P L.toArray Q (L.drop n) a' w') (L.take n) a):(Code.region id L.toArray true).wp P Q a w:=by
 have hC:∃s:a9 S,{w with drawn:=w.drawn+1}=s.W:=⟨⟨_,hS⟩,rfl⟩;simp only[Region.lexB,Bool.and_eq_true] at hB;have hq:=wpAnyQ_lex (C:=λw'=>∃s:a9 S,w'=s.W) (md:=.any) hB.1 (L.take n) 0 (Array.replicate n false) a (by simp) (by have:=hB.2;simpa[Nat.min_eq_left hn] using this) (h ⟨⟨_,hS⟩⟩);have hlen:(L.take n).length=n:=by simp[Nat.min_eq_left hn]
 rw[hlen] at hq;have:=D7 (P:=P) (md:=.any) (ops:=L.toArray) (ops1:=(L.take n).toArray) (l2:=L.drop n) (n:=n) (C:=λw'=>∃s:a9 S,w'=s.W) hb hd hd1 (by simp[Nat.min_eq_left hn]) (λi hi=>by simp[hi]) (λj=>by simp)
  (Q:=Q) (Q1:=λa'=>∀w',Sv S w'->wpList P L.toArray Q (L.drop n) a' w') (λa w hw h=>h w hw) n (Array.replicate n false) (Array.replicate L.length false) a {w with drawn:=w.drawn+1} hC (λj oj hj hl e he pr=>by
   rcases Nat.lt_or_ge j L.length with h'|h'
   ·simp[h'] at hl
   simp[h'] at hl) (by simp) (by simp)
  (λi hi=>by simp[hi,show i<L.length by omega]) (λi hi hs=>by simp at hs;simp[hs]) hq
 rw[show(L.drop n).length+n=L.length by simp;omega] at this;refine wp_region_any hm ?_;simpa using this
end
def dH(b i d:Nat->Int):Nat->Nat->Int
 |0=>λ_=>0
 |k+1=>upd (upd (upd (dH b i d k) (4*k) (b k)) (4*k+1) (i k)) (4*k+2) (d k)
def mS(G S I J:Int)(n:Nat)(b i d:Nat->Int):Bool:=aT G S I J&&j5 G S I J n b i d
def pD(G S I J:Int)(n:Nat)(b i d:Nat->Int):Int:=if aT G S I J then(if j5 G S I J n b i d then 0 else 2) else 50
def ky(G S I J:Int)(n:Nat)(b i d:Nat->Int):Nat->Int:=if mS G S I J n b i d then me (hz (dH b i d n)) elseλ_=>0
theorem yp{G S I J:Int}{n:Nat}{b i d:Nat->Int}(hm:aT G S I J=true)(h:j5 G S I J n b i d=true):(n:Int)=G/\n<=4/\∀k,k<n->(0<=b k/\b k<=512)/\(0<=i k/\i k<=64)/\(0<=d k/\d k<=64):=by
 unfold j5 at h;rw[Bool.and_eq_true,decide_eq_true_eq,aY] at h;obtain⟨h1,h2,h3,h4,h5,h6,h7,h8,h9,h10,h11⟩:=(bq G S I J).1 hm;have:=Au G S I J;refine⟨h.1,by omega,λk hk=> ?_⟩;have:=(vO _ _ _ _ _).1 (h.2 k hk);omega
theorem rO(s:ByteArray)(c:Int)(w:World):
  Calls Tryz.prog 167 #[.string s,.int .u8 c] w λe w'=>e= .returned (.int .i64 (Lib.indexByte s.data.toList c.toNat.toUInt8))/\w'=w:=by
 go_enter Tryz.func167,Tryz.ntmps167
 go_wp2
 rw[run_callFunc_extern Tryz.func168 (by kernel_rfl) (by kernel_rfl) (by kernel_rfl) (e:=Extern.BytealgIndexByte.indexByte) (by kernel_rfl),Lib.run_indexByteString];simp only[Result.andThen];rw[Oper.upon_value]
 go_wp2
 go_ret;exact⟨rfl,rfl⟩
theorem jb(s:ByteArray)(c:Int)(w:World):
  Calls Tryz.prog 164 #[.string s,.int .u8 c] w λe w'=>e= .returned (.int .i64 (Lib.indexByte s.data.toList c.toNat.toUInt8))/\w'=w:=by
 go_enter Tryz.func164,Tryz.ntmps164;go_wp2_with fail;refine(rO _ _ _).mono ?_;rintro e w' ⟨rfl,rfl⟩;go_wp2_with fail;go_ret;exact⟨rfl,rfl⟩
def Jz(l:List UInt8):Bool:=decide (1<=l.length)&&(decide (l.length<=27)&&(l !=[46]&&(l !=[46,46]&&(!l.contains 47&& !l.contains 0))))
def eR(s:ByteArray):Bool:=Jz s.data.toList
theorem mn(l:List UInt8)(c:UInt8):decide (Lib.indexByte l c<0)= !l.contains c:=by
 induction l with
 |nil=>rfl
 |cons b l ih=>
  have hge:=Lib.indexByte_ge l c;unfold Lib.indexByte
  by_cases hb:(b==c)=true
  ·have:b=c:=by simpa using hb
   subst this;simp
  have hb':(b==c)=false:=by simpa using hb
  have hcb:(c==b)=false:=by rw[beq_eq_false_iff_ne] at hb' ⊢;exactλh=>hb' h.symm
  rw[List.contains_cons,hcb,Bool.false_or,<-ih,hb'];simp only[Bool.false_eq_true,if_false];split
  ·rename_i h1;have h2:=beq_iff_eq.1 h1;rw[h2]
  rename_i h1;have:Lib.indexByte l c≠ -1:=by simpa using h1
  rw[decide_eq_false (by omega),decide_eq_false (by omega)]
theorem yo(s:ByteArray)(hs:s.size<=9223372036854775807)(w:World):Calls Tryz.prog 160 #[.string s] w λe w'=>e= .returned (.bool (eR s))/\w=w':=by
 have hsz:s.size=s.toList.length:=by rw[ByteArray.toList_eq];rfl
 have hM:eR s=(decide (1<=s.toList.length)&&(decide (s.toList.length<=27)&&(s.toList !=[46]&&(s.toList !=[46,46]&&(!s.toList.contains 47&& !s.toList.contains 0))))):=by unfold eR Jz;rw[ByteArray.toList_eq]
 have HM:=ah hM;have HZ:=ah hsz;clear hM hsz;go_enter Tryz.func160,Tryz.ntmps160
 by_cases h1:1<=s.size
 rotate_left
 ·have d1:(s.size:Int)<1:=by omega
  have HN:Hd (eR s=false):=by show _=_;rw[HM.Z,<-HZ.Z,decide_eq_false h1];rfl
  go_wp2_with fail;go_ret;exact⟨by rw[HN.Z];rfl,rfl⟩
 have d1:¬(s.size:Int)<1:=by omega
 by_cases h2:s.size<=27
 rotate_left
 ·have d2:(27:Int)<s.size:=by omega
  have HN:Hd (eR s=false):=by show _=_;rw[HM.Z,<-HZ.Z,decide_eq_false h2];simp
  go_wp2_with fail;go_ret;exact⟨by rw[HN.Z];rfl,rfl⟩
 have d2:¬(27:Int)<s.size:=by omega
 cases h3:s.toList==[46] with
 |true=>
  have HN:Hd (eR s=false):=by show _=_;rw[HM.Z,bne,h3];simp
  go_wp2_with fail;go_ret;exact⟨by rw[HN.Z];rfl,rfl⟩
 |false=>
 cases h4:s.toList==[46,46] with
 |true=>
  have HN:Hd (eR s=false):=by show _=_;rw[HM.Z,bne,bne,h4];simp
  go_wp2_with fail;go_ret;exact⟨by rw[HN.Z];rfl,rfl⟩
 |false=>
 have HY:Hd (eR s=(!s.data.toList.contains 47&& !s.data.toList.contains 0)):=by
  show _=_;rw[HM.Z,<-HZ.Z,bne,bne,h3,h4,decide_eq_true h1,decide_eq_true h2,ByteArray.toList_eq];rfl
 go_wp2_with fail;refine(jb _ _ _).mono ?_;rintro e w' ⟨rfl,rfl⟩;have e1:=mn s.data.toList 47;have e2:=mn s.data.toList 0;rw[show((47:Int).toNat.toUInt8)=47 from rfl];generalize Lib.indexByte s.data.toList 47=k1 at*;cases hc:s.data.toList.contains 47 with
 |true=>
  rw[hc] at e1 HY;have q:¬k1<0:=by simpa using e1
  clear e1 hc;go_wp2_with fail;go_ret;exact⟨by rw[HY.Z];rfl,rfl⟩
 |false=>
  rw[hc] at e1 HY;have q:k1<0:=by simpa using e1
  clear e1 hc;go_wp2_with fail;refine(jb _ _ _).mono ?_;rintro e w' ⟨rfl,rfl⟩;rw[show((0:Int).toNat.toUInt8)=0 from rfl];generalize Lib.indexByte s.data.toList 0=k2 at*;have E2:=ah e2;clear e2;go_wp2_with fail;go_ret;exact⟨by rw[HY.Z,<-E2.Z];rfl,rfl⟩
def b8(a b c d e f g h:Bool):Nat:=a.toNat+2*b.toNat+4*c.toNat+8*d.toNat+16*e.toNat+32*f.toNat+64*g.toNat+128*h.toNat
def uO(P:Nat->Bool)(k:Nat):Nat:=b8 (P (8*k)) (P (8*k+1)) (P (8*k+2)) (P (8*k+3)) (P (8*k+4)) (P (8*k+5)) (P (8*k+6)) (P (8*k+7))
def bZ(P:Nat->Bool)(k:Nat):Int:=(uO P k:Nat)
theorem Se:∀a b c d e f g h:Bool,b8 a b c d e f g h<256:=by decide
theorem oX(P:Nat->Bool)(k:Nat):uO P k<256:=Se _ _ _ _ _ _ _ _
theorem Bc(P:Nat->Bool):bu (bZ P):=λi=>by have:=oX P i;unfold bZ;omega
def nA(P:Nat->Bool)(i:Nat):Nat->Bool:=λj=>if j=i then true else P j
theorem an0:∀a b c d e f g h:Bool,(b8 a b c d e f g h&&&1)=1*a.toNat:=by decide
theorem an1:∀a b c d e f g h:Bool,(b8 a b c d e f g h&&&2)=2*b.toNat:=by decide
theorem an2:∀a b c d e f g h:Bool,(b8 a b c d e f g h&&&4)=4*c.toNat:=by decide
theorem an3:∀a b c d e f g h:Bool,(b8 a b c d e f g h&&&8)=8*d.toNat:=by decide
theorem an4:∀a b c d e f g h:Bool,(b8 a b c d e f g h&&&16)=16*e.toNat:=by decide
theorem an5:∀a b c d e f g h:Bool,(b8 a b c d e f g h&&&32)=32*f.toNat:=by decide
theorem an6:∀a b c d e f g h:Bool,(b8 a b c d e f g h&&&64)=64*g.toNat:=by decide
theorem an7:∀a b c d e f g h:Bool,(b8 a b c d e f g h&&&128)=128*h.toNat:=by decide
theorem Ce(P:Nat->Bool)(k j:Nat)(hj:j<8):uO P k&&&2^j=2^j*(P (8*k+j)).toNat:=by
 unfold uO;have:j=0\/j=1\/j=2\/j=3\/j=4\/j=5\/j=6\/j=7:=by omega
 rcases this with rfl|rfl|rfl|rfl|rfl|rfl|rfl|rfl
 ·exact an0 _ _ _ _ _ _ _ _
 ·exact an1 _ _ _ _ _ _ _ _
 ·exact an2 _ _ _ _ _ _ _ _
 ·exact an3 _ _ _ _ _ _ _ _
 ·exact an4 _ _ _ _ _ _ _ _
 ·exact an5 _ _ _ _ _ _ _ _
 ·exact an6 _ _ _ _ _ _ _ _
 exact an7 _ _ _ _ _ _ _ _
theorem KE(k:Nat):bZ (λ_=>false) k=0:=rfl
theorem D6(i:Nat)(hi:i<2048)(w:World):Calls Tryz.prog 45 #[.int .i64 (i:Int)] w λe w'=>e= .returned (.bool true)/\w=w':=by
 have h1:(i:Int)<2048:=by omega
 have h2:decide ((i:Int)<2048)=true:=decide_eq_true h1;have h0:(0:Int)<=(i:Int):=by omega
 have h3:decide ((0:Int)<=(i:Int))=true:=decide_eq_true h0;go_enter Tryz.func45,Tryz.ntmps45;go_wp2_with fail;go_ret;exact⟨rfl,rfl⟩
theorem MC(j:Nat)(hj:j<8):(2:Int)^j%256=((2^j:Nat):Int):=by
 have:j=0\/j=1\/j=2\/j=3\/j=4\/j=5\/j=6\/j=7:=by omega
 rcases this with rfl|rfl|rfl|rfl|rfl|rfl|rfl|rfl<;>rfl
theorem lA(i:Nat)(hi:i<2048)(w:World):Calls Tryz.prog 46 #[.int .i64 (i:Int)] w λe w'=>e= .returned (.int .u8 ((2^(i%8):Nat):Int))/\w=w':=by
 have h0:(i:Int).tmod 8=(i:Int)%8:=Int.tmod_eq_emod_of_nonneg (by omega);have hq:=MC (i%8) (Nat.mod_lt _ (by decide));have HQ:=ah hq;clear hq;go_enter Tryz.func46,Tryz.ntmps46;go_wp2_with fail;go_ret;exact⟨by rw[<-HQ.Z];rfl,rfl⟩
theorem vK(i:Nat):2^(i%8)<256:=by
 have:i%8=0\/i%8=1\/i%8=2\/i%8=3\/i%8=4\/i%8=5\/i%8=6\/i%8=7:=by omega
 rcases this with h|h|h|h|h|h|h|h<;>(rw[h];decide)
def lf(used size:Nat)(i:Nat):Bool:=decide (i<used)||(decide (size<=i)&&decide (i<2048))
def preB(n:Nat)(i:Nat):Bool:=decide (i<n)
def xk(P:Nat->Bool)(i:Nat):Nat->Nat
 |0=>0
 |t+1=>2*xk P i t+(P (8*i+(7-t))).toNat
theorem Gs(P:Nat->Bool)(i:Nat):∀t,xk P i t<2^t
 |0=>by show 0<2^0;decide
 |t+1=>by
  have h:=Gs P i t;have hb:(P (8*i+(7-t))).toNat<=1:=Bool.toNat_le _;show 2*xk P i t+(P (8*i+(7-t))).toNat<2^(t+1);rw[Nat.pow_succ];omega
theorem JZ(P:Nat->Bool)(i:Nat){t:Nat}(ht:t<=8):xk P i t<256:=by
 have h1:=Gs P i t;have h2:2^t<=2^8:=Nat.pow_le_pow_right (by decide) ht;omega
theorem Rm(P:Nat->Bool)(i:Nat):xk P i 8=uO P i:=by
 unfold uO b8;show 2*(2*(2*(2*(2*(2*(2*(2*0+(P (8*i+7)).toNat)+(P (8*i+6)).toNat)+(P (8*i+5)).toNat)+(P (8*i+4)).toNat)+(P (8*i+3)).toNat)+(P (8*i+2)).toNat)+(P (8*i+1)).toNat)+(P (8*i+0)).toNat=_;rw[Nat.add_zero (8*i)];omega
def kH(P:Nat->Bool)(i:Nat):List Value:=[.bool (P i)]
theorem KA(P:Nat->Bool)(i:Nat):(kH P i).length=1:=rfl
def uB(P:Nat->Bool)(k j:Nat):Int:=if j<k then bZ P j else 0
structure XJ(w:World)(P:Nat->Bool)(b off k:Nat)(W:World):Prop where
 r:aU W w.heap.size 32 256 (λ_=>0)
 bk:aU W (w.heap.size+1) 32 256 (uB P k)
 l:cU W (some ⟨b,off,none⟩) 1 2048 (kH P)
 bel:Below w.heap.size w W
theorem Sd{W:World}{b off:Nat}{P:Nat->Bool}(h:cU W (some ⟨b,off,none⟩) 1 2048 (kH P)){d:Nat}(hd:d<2048):W.cell? ⟨b,off+d,none⟩=some (.bool (P d)):=by
 rcases h with h|⟨b',off',e,h⟩
 ·omega
 injection e with e;injection e with e1 e2;subst e1 e2
 have:=h d hd 0 _ rfl;rwa[Nat.mul_one,Nat.add_zero] at this
theorem rz(P:Nat->Bool)(la:Option Addr)(cap:Nat)(w:World)(hl:cU w la 1 2048 (kH P))(BV:∀b off,la=some ⟨b,off,none⟩->b<w.heap.size):
  Calls Tryz.prog 59 #[.slice la 2048 cap] w λe w'=>e= .returned (aR (bZ P))/\Below w.heap.size w w':=by
 obtain⟨b,off,rfl⟩:∃b off,la=some ⟨b,off,none⟩:=by
  rcases hl with h|⟨b,off,e,_⟩
  ·omega
  exact⟨b,off,e⟩
 have r6:=BV b off rfl;have hal:=cW;have st:Hd (XJ w P b off 0 ((w.alloc (.cells (Ks .u8 256 (λ_=>0)).toArray 32)).alloc (.cells (Ks .u8 256 (λ_=>0)).toArray 32))):=by
  refine⟨(aU.new w _ _ _).alloc _,?_,?_,(ag.alloc af _).alloc (by simp) _⟩
  ·have:=aU.new (w.alloc (.cells (Ks .u8 256 (λ_=>0)).toArray 32)) 32 256 (λ_=>0)
   simp only[World.size_alloc] at this;exact this.congr λi _=>rfl
  exact hl.below (by intro e;cases e) (((Below.refl w.heap.size w).alloc af _).alloc (by simp) _)
 clear hl BV;go_enter Tryz.func59,Tryz.ntmps59;go_wp2_with fail;go_loopw [4,5,6] (λu _ _ wr=>∃k:Nat,u= .int .i64 (k:Int)/\k<=256/\XJ w P b off k wr) (λu _ _ _=>256-(intOf u).toNat)
 case atStart=>exact⟨0,rfl,Nat.zero_le _,st.Z⟩
 clear st;obtain⟨k,rfl,hk,st⟩:=hrel;have ST:=ah st;clear st
 by_cases hlt:k<256
 ·have hlt':(k:Int)<256:=by omega
  have k0:(0:Int)<=(k:Int):=by omega
  go_wp2_with fail;go_loopw [5,6] (λx u wq=>∃(t:Nat),x= .int .i64 (xk P k t:Int)/\u= .int .i64 (7-(t:Int))/\t<=8/\wq=wr) (λ_ u _=>(intOf u+1).toNat)
  case atStart=>exact⟨0,rfl,rfl,Nat.zero_le _,rfl⟩
  obtain⟨t,rfl,rfl,ht,rfl⟩:=hrel
  by_cases kf:t<8
  ·obtain⟨q,hq⟩:∃q:Nat,7-(t:Int)=(q:Int):=⟨7-t,by omega⟩
   have hq':q=7-t:=by omega
   have q0:(0:Int)<=(q:Int):=by omega
   obtain⟨D,hD⟩:∃D:Nat,8*(k:Int)+(q:Int)=(D:Int):=⟨8*k+q,by omega⟩;have Xj:D=8*k+(7-t):=by omega
   have hD2:D<2048:=by omega
   have hD3:(D:Int)<2048:=by omega
   have D0:(0:Int)<=(D:Int):=by omega
   have cD:=Sd ST.Z.l hD2;have HX:=JZ P k (t:=t) (by omega);have HN:Hd (xk P k (t+1)=2*xk P k t+(P D).toNat):=by show xk P k (t+1)=_;rw[Xj];rfl
   rw[hq];obtain⟨X,hX⟩:=aa (xk P k t);rw[<-hX] at HX HN;rw[<-hX];have hq1:Hd (7-((t+1:Nat):Int)=(q:Int)-1):=by show _=_;omega
   have Ih:Hd ((q:Int)=7-(t:Int)):=hq.symm;have hD7:=ah Xj;clear hX hq hq' Xj;cases hP:P D with
   |true=>
    rw[hP] at cD;have hn:Hd (2*(X:Int)+1=(xk P k (t+1):Int)):=by show _=_;rw[HN.Z,hP,Bool.toNat_true];omega
    clear hP HN;go_wp2_with fail;go_roundw
    case rel=>exact⟨t+1,by rw[<-hn.Z],by rw[hq1.Z],by omega,trivial⟩
    simp[intOf]
   |false=>
    rw[hP] at cD;have hn:Hd (2*(X:Int)=(xk P k (t+1):Int)):=by show _=_;rw[HN.Z,hP,Bool.toNat_false];omega
    clear hP HN;go_wp2_with fail;go_roundw
    case rel=>exact⟨t+1,by rw[<-hn.Z],by rw[hq1.Z],by omega,trivial⟩
    simp[intOf]
  obtain rfl:t=8:=by omega
  rw[Rm];have hB:=oX P k;obtain⟨X,hX⟩:=aa (uO P k);rw[<-hX] at hB;rw[<-hX];have HX:=ah hX;clear hX;have hb:=ST.Z.bk;have c9:wr.cell? ⟨w.heap.size+1,k,none⟩=some (.int .u8 0):=by
   have:=hb.bQ k hlt;rw[Nat.zero_add] at this;rw[this];unfold uB;rw[if_neg (by omega)]
  have f9:wr.frozen? ⟨w.heap.size+1,k,none⟩=false:=an hb k;have ho:=az.setCell wr ⟨w.heap.size+1,k,none⟩ (.int .u8 (X:Int));have hl2:Below w.heap.size w wr:=ST.Z.bel;have bW:Hd (XJ w P b off (k+1) (wr.setCell ⟨w.heap.size+1,k,none⟩ (.int .u8 (X:Int)))):=by
   refine⟨ST.Z.r.only ho (by show _≠w.heap.size+1;omega),(hb.setCell k (X:Int) hlt).congr λj hj=> ?_,?_,hl2.trans (ho.below (by show _<=w.heap.size+1;omega))⟩
   ·unfold uB over
    show(if k<=j/\j<k+1 then(X:Int) else(if j<k then bZ P j else 0))=if j<k+1 then bZ P j else 0
    by_cases e:j=k
    ·rw[if_pos (by omega),if_pos (by omega),HX.Z,e];rfl
    rw[if_neg (by omega)]
    by_cases e2:j<k
    ·rw[if_pos e2,if_pos (by omega)]
    rw[if_neg e2,if_neg (by omega)]
   rcases ST.Z.l with h|⟨b',off',e,h⟩
   ·omega
   injection e with e;injection e with e1 e2;subst e1 e2
   exact .inr ⟨b,off,rfl,λi hi j v hj=>(World.cell?_of_block (ho.block b (by show b≠w.heap.size+1;omega))).trans (h i hi j v hj)⟩
  clear ho hl2 hb ST;go_wp2_with fail;go_roundw
  case rel=>(try((repeat apply Exists.intro);refine⟨?_,rfl⟩));exact⟨k+1,by first|rfl|go_num,by omega,bW.Z⟩
  simp[intOf];omega
 obtain rfl:k=256:=by omega
 have hb:aU wr (w.heap.size+1) 32 256 (bZ P):=ST.Z.bk.congr λj hj=>by unfold uB;rw[if_pos hj]
 have hr:=ST.Z.r;go_wp2_with (first|(refine de rfl (.tmp 3) rfl (w.heap.size+1) _ rfl hb ?_)|(refine bm rfl (.tmp 2) (.tmp 30) rfl w.heap.size (bZ P) _ rfl rfl hr ?_))
 intro w7 Pv DL;go_wp2_with fail;exact bodyPost_ret (fI rfl _ _ w.heap.size _ rfl Pv) rfl ⟨rfl,ST.Z.bel.trans (DL.below af)⟩
end Go.Proofs.YtphamecphmbipaaGreatDoor
