/- Texts of this claim, merged. -/
import Derived.Test.YtphamecphmbipaaGreatDoorZ12
import Derived.ChangeOld
import Derived.Deep.Slices
import Derived.ChangeSlices
import Derived.LaidMore
import Derived.MakeChecks
import Derived.Lib.LaidTab
import Derived.Laws.BytesArg
import Derived.WalkMore
set_option linter.unusedVariables false
set_option maxRecDepth 100000
set_option maxHeartbeats 16000000

namespace Go.Proofs.YtphamecphmbipaaGreatDoor
open Go.RowKit
variable {P:Program} {w W':World} {f:Nat->List Value} {m off k g base:Nat} {fn:Func} {p:Tmp} {T e:TypeId} {N M:Nat->ByteArray} {J z:Nat->Int} {s:ByteArray}
section
variable {P:Program} {W:World} {base:Nat} {t:TypeId} {v:Value}
end
section
open Go.ChangeShapes Go.WideShapes Go.ChangeAt Go.Deep
theorem tab_of_laid{W:World}(h:laidMetH Tryz.prog [("quern/crc.steps",Rows.laid_quern_crc_steps)] W):Tab W:=by
 rw[MakeChecks.laidMetH_plain _ _ _ (by kernel_rfl)] at h;have hT:=Lib.tabIs_of_head (zs:=s7.map λ(x:Nat)=>(x:Int)) (k:=.u32) (g:=0) (by kernel_rfl) (by kernel_rfl) Tryz.underlying224 Tryz.underlying45 (by kernel_rfl) (by kernel_rfl) h;intro i hi;have:=hT.cell (g:=0) (by kernel_rfl) i (by simpa[s7] using hi);rw[this];have key:∀i,i<16->(s7.map λ(x:Nat)=>(x:Int)).getD i 0=((s7.getD i 0:Nat):Int):=by decide
 rw[key i hi]
theorem door_met(os:Os)(args:Array Value):laidMetH Tryz.prog [("quern/crc.steps",Rows.laid_quern_crc_steps)] ((World.doorLaid Tryz.prog 14 os).forCall (λ_ _=>0) ⟨#[],args,[]⟩).memory:=
 laidMetH_of_parts3 (fuel:=8) (laidMet_of_run' 8 (by kernel_rfl) (by kernel_rfl)) (by kernel_rfl) (by kernel_rfl)
end
theorem o9{ops:Array Oper}{rest:List Oper}{o:Oper}{a:Act}{Q:Exit->Act->World->Prop}(hgd:o.guard=none)(s x:Operand)(t:TypeId)
  (ho:o.op= .call {callee:=.builtin .append,args:=#[s,x],argTypes:=#[t,t]})
  (base:Nat) (e:TypeId) (i:TypeInfo) (z:Value) (size bytes:Nat) (ht:P.underlying t=some (.slice e)) (hi:P.info? e=some i) (hz:i.zero=some z)
  (hsize:i.size=size) (hby:i.bytes=bytes) (hzs:z.cells.size=size) (hsz:0<size) (g:Nat) (hs:a.eval s= .slice (some ⟨g,0,none⟩) 0 0) (hown:w.ownsRow base e size (.slice (some ⟨g,0,none⟩) 0 0) 0 [])
  (xa:Option Addr) (n c:Nat) (news:List Value) (hx:a.eval x= .slice xa n c) (hc:xa=none->n=0/\c=0) (hl:news.length=n*size)
  (hnews:∀ad,xa=some ad->∀j u,news[j]? =some u->w.cell? (ad.add j)=some u) (h1:∀u∈news,u.oneCell'=true) (h63:n<=maxLen) (hbytes:n*bytes<=140737488355328) (hbase:base<=w.heap.size)
  (h:∀v' w',w'.ownsRow base e size v' n news->w.grownBy w' (some g)->wpList P ops Q rest (a.put o.dst v') w'):wpList P ops Q (o::rest) a w:=by
 cases xa with
 |some ad=>
  refine wpList_append_own w hgd s x t ho base e i z size bytes ht hi hz hsize hby hzs hsz _ 0 [] hs hown ad n c news hx hl (hnews ad rfl) h1 (by omega) (by rw[Nat.zero_add];exact hbytes) hbase (λv' w' h2 h3 _=>h v' w' ?_ h3);rw[Nat.zero_add,List.nil_append] at h2;exact h2
 |none=>
  obtain⟨rfl,rfl⟩:=hc rfl;have:news=[]:=by simpa using hl
  subst this;exact wpList_append_own_none hgd s x t ho base e i size ht hi _ 0 [] hs hown hx (h _ _ hown ⟨rfl,rfl,rfl,Nat.le_refl _,λ_ _ _=>rfl⟩)
theorem rh{W:World}{ad:Addr}{n:Nat}(hm:0<m)(hf:∀i,(f i).length=m)(hr:cU W (some ad) m n f):∀(j:Nat) (u:Value),(Cs f n)[j]? =some u->W.cell? (ad.add j)=some u:=by
 intro j u hj;have hjn:j<n*m:=by have:=(List.getElem?_eq_some_iff.1 hj).1;rwa[di hf] at this
 have hq:j/m<n:=(Nat.div_lt_iff_lt_mul hm).2 hjn;have NA:j%m<m:=Nat.mod_lt _ hm;have he:j/m*m+j%m=j:=by rw[Nat.mul_comm];exact Nat.div_add_mod j m
 rcases hr with h0|⟨b,off,Pq,hseg⟩
 ·rw[h0,Nat.zero_mul] at hjn;omega
 injection Pq with Pq;subst Pq
 have h4:=xf hf hq NA;rw[he,hj] at h4;have h5:=hseg (j/m) hq (j%m) u h4.symm;rw[Nat.add_assoc,he] at h5;rw[bA];exact h5
def Ic(rb rf:Nat->Int)(rm:Nat->Bool)(i:Nat):List Value:=[.int .i64 (rb i),.int .u8 (rf i),.bool (rm i)]
section
variable {w:World} {s:Int} {la:Option Addr} {n:Nat} {rb rf:Nat->Int} {rm:Nat->Bool} {rv:Nat->Int} {p k m:Nat} {ca:Option Addr} {cc:Nat} {ra:Option Addr} {rc:Nat} {W W':World}
end
def sl(z:Nat->Int)(i:Nat):Nat->Int:=λj=>z (32*i+j)
def bT(y:Nat->Int):Int:=cR y 0
def dB(y:Nat->Int):Nat:=(y 4).toNat
def sQ(y:Nat->Int):ByteArray:=strOfNums ((List.range (dB y)).map λj=>y (5+j))
def mf(y:Nat->Int):Bool:=if bT y=0 then dw y 32 else decide (dB y<=27)&&(dw (λj=>y (5+dB y+j)) (27-dB y)&&eR (sQ y))
def CR(y:Nat->Int):Int:=if mf y then bT y else 0
def CQ(y:Nat->Int):ByteArray:=if mf y&&bT y !=0 then sQ y else ByteArray.empty
abbrev sv(i:Int)(s:ByteArray):Value:=.agg #[.int .u32 i,.string s]
theorem lH(W:World):(zeroValue 90).run Tryz.prog W= .ok (sv 0 ByteArray.empty) W:=by kernel_rfl
theorem ew(i:Int)(s:ByteArray):(Tryz.prog.info? 90).map (·.size)=some (#[Value.int .u32 i,.string s]:Array Value).size:=by kernel_rfl
theorem fU(i:Int)(s:ByteArray):(#[Value.int .u32 i,.string s]:Array Value).all (·.oneCell')=true:=by simp[Value.oneCell']
theorem fT{u:Tmp}(h:fn.results= #[.cell p 90,.tmp u])(tmps:Array Value)(w:World)(g:Nat)(i:Int)(s:ByteArray)
  (hp:tmps.getD p undef= .pointer (some ⟨g,0,none⟩)) (hg:At w g 90 #[.int .u32 i,.string s]):(results fn tmps).run Tryz.prog w= .ok (.tuple #[sv i s,tmps.getD u undef]) w:=
 bP h tmps w g 90 _ (0,0) _ hp hg Tryz.underlying90 rfl (ew _ _)
theorem Kr(g i:Nat)(hi:i<8)(w:World):Calls Tryz.prog 139 #[.pointer (some ⟨g,0,none⟩),.int .i64 (i:Int)] w λe w'=>e= .returned (.slice (some ⟨g,32*i,none⟩) 32 32)/\w=w':=by
 have hsl:∀W,(Instr.sliceAt 32 (.pointer (some ⟨g,0,none⟩)) (some (.int .i64 (32*(i:Int)))) (some (.int .i64 (32*((i:Int)+1)))) (some (.int .i64 (32*((i:Int)+1))))).run Tryz.prog W= .ok (.slice (some ⟨g,32*i,none⟩) 32 32) W:=λW=>by
  have hal:Tryz.prog.arrayLen 32=256:=by kernel_rfl
  have hsz:∀W,(Go.sizeOf (Tryz.prog.elem 32)).run Tryz.prog W= .ok 1 W:=λW=>by kernel_rfl
  rw[run_sliceAt_array_lhm W 32 _ (by kernel_rfl) .i64 .i64 .i64 _ _ _ (by omega) (by omega) (by omega) (by rw[hal];omega),hsz];simp only[Result.andThen,slicedAt,Nat.mul_one];rw[show(32*(i:Int)).toNat=32*i by omega,show(32*((i:Int)+1)).toNat=32*i+32 by omega,if_neg (by omega),bA];simp only[Nat.zero_add,show 32*i+32-32*i=32 by omega]
 go_enter Tryz.func139,Tryz.ntmps139;go_wp2_with fail;go_ret;exact⟨rfl,rfl⟩
theorem E9(g i:Nat)(hi:i<8)(z:Nat->Int)(hz:bu z)(w:World)(hB:aU w g T 256 z):
  Calls Tryz.prog 138 #[.slice (some ⟨g,32*i,none⟩) 32 32] w λe w'=>e= .returned (.tuple #[sv (CR (sl z i)) (CQ (sl z i)),.bool (mf (sl z i))])/\Below w.heap.size w w':=by
 have hal:=lH;have hB0:Hd (aU (w.alloc (.cells #[.int .u32 0,.string ByteArray.empty] 90)) g T 256 z):=hB.alloc _;have hA0:Hd (At (w.alloc (.cells #[.int .u32 0,.string ByteArray.empty] 90)) w.heap.size 90 #[.int .u32 0,.string ByteArray.empty]):=At.new _ _ _;have uw:Hd (Below w.heap.size w (w.alloc (.cells #[.int .u32 0,.string ByteArray.empty] 90))):=ag.alloc af _;have wu:=hB.lt;clear hB;generalize hy:sl z i=y;have hseg:Hd (Seg (w.alloc (.cells #[.int .u32 0,.string ByteArray.empty] 90)) g (32*i) 32 y):=by
  have:=hB0.Z.bQ.sub (32*i) 32 (by omega);rw[Nat.zero_add] at this;rw[<-hy];exact this
 have xh:bu y:=by rw[<-hy];exactλj=>hz _
 clear hy hB0;go_enter Tryz.func138,Tryz.ntmps138;go_wp2_with fail;have hget:=iB g (32*i) 32 32 0 y _ (by decide) (by decide) (by decide) hseg.Z xh;refine(hget.mono (R':=λe w'=>e= .returned (.tuple #[.int .u32 (bT y),.bool true])/\Seg w' g (32*i) 32 y/\At w' w.heap.size 90 #[.int .u32 0,.string ByteArray.empty]/\Below w.heap.size w w') (λe w' h=>⟨h.1,h.2▸hseg.Z,h.2▸hA0.Z,h.2▸uw.Z⟩)).mono ?_;rintro e w1 ⟨rfl,hs,hA,hL⟩;clear hseg hA0 uw hget hal;have hI:=dP xh 0
 by_cases h0:bT y=0
 ·have HO:Hd (mf y=dw y 32):=by show _=_;unfold mf;rw[if_pos h0]
  have HI:Hd (bT y=0):=h0;rw[h0];clear h0;go_wp2_with fail;refine(nh _ 32 32 y _ (by decide) (.inr ⟨_,_,rfl,hs⟩)).mono ?_;rintro e w2 ⟨rfl,rfl⟩;go_wp2_with (first|(refine aD rfl 90 _ _ rfl _ _ _ rfl rfl hA (ew _ _) rfl (fU _ _) ?_))
  intro w2 sR eI;go_wp2_with fail;exact bodyPost_ret (fT rfl _ _ w.heap.size _ _ rfl sR) rfl ⟨by rw[CR,CQ,HO.Z,HI.Z];cases dw y 32<;>rfl,hL.trans (eI.below af)⟩
 have hlen:y 4=(dB y:Int):=by have:=xh 4;unfold dB;omega
 have hlb:dB y<256:=by have:=xh 4;unfold dB;omega
 have HO:Hd (mf y=(decide (dB y<=27)&&(dw (λj=>y (5+dB y+j)) (27-dB y)&&eR (sQ y)))):=by show _=_;unfold mf;rw[if_neg h0]
 have HI:Hd (bT y≠0):=h0;have q0:(bT y==0)=false:=by simpa using h0
 have c4:w1.cell? ⟨g,32*i+4,none⟩=some (.int .u8 (dB y:Int)):=by rw[<-hlen];exact hs 4 (by omega)
 clear h0 hlen;have zw:Hd (sQ y=strOfNums ((List.range (dB y)).map λj=>y (5+j))):=rfl;generalize hn:dB y=n at*
 by_cases BY:n<=27
 rotate_left
 ·have HN:Hd (mf y=false):=by show _=_;rw[HO.Z,decide_eq_false BY];rfl
  have d1:(32:Int)<5+(n:Int):=by omega
  go_wp2_with (first|(refine aD rfl 90 _ _ rfl _ _ _ rfl rfl hA (ew _ _) rfl (fU _ _) ?_))
  intro w2 sR eI;go_wp2_with fail;exact bodyPost_ret (fT rfl _ _ w.heap.size _ _ rfl sR) rfl ⟨by rw[CR,CQ,HN.Z];rfl,hL.trans (eI.below af)⟩
 have d1:¬(32:Int)<5+(n:Int):=by omega
 have hrow:Row w1 (some ⟨g,32*i,none⟩) 32 y:=.inr ⟨_,_,rfl,hs⟩;have hsl:=λW=>q8 (some ⟨g,32*i,none⟩) 32 32 (5+n) (5+(n:Int)) (by omega) (by omega) W
 have hrs:Hd (Row w1 (z9 (some ⟨g,32*i,none⟩) (5+n) 32) (32-(5+n)) (λj=>y (5+n+j))):=hrow.slice (by omega) (by omega);clear hrow;go_wp2_with fail;refine(nh _ _ _ _ _ (by omega) (by exact hrs.Z)).mono ?_;rintro e w2 ⟨rfl,rfl⟩;clear hsl hrs;rw[show 32-(5+n)=27-n by omega];cases hzz:dw (λj=>y (5+n+j)) (27-n) with
 |false=>
  have HN:Hd (mf y=false):=by show _=_;rw[HO.Z,hzz];simp
  clear hzz;go_wp2_with (first|(refine aD rfl 90 _ _ rfl _ _ _ rfl rfl hA (ew _ _) rfl (fU _ _) ?_))
  intro w2 sR eI;go_wp2_with fail;exact bodyPost_ret (fT rfl _ _ w.heap.size _ _ rfl sR) rfl ⟨by rw[CR,CQ,HN.Z];rfl,hL.trans (eI.below af)⟩
 |true=>
 have HO2:Hd (mf y=eR (sQ y)):=by show _=_;rw[HO.Z,hzz,decide_eq_true BY];rfl
 clear hzz HO;have hsl:∀W,(Instr.slice 119 (.slice (some ⟨g,32*i,none⟩) 32 32) (some (.int .i64 5)) (some (.int .i64 (5+(n:Int)))) none).run Tryz.prog W= .ok (.slice (some ⟨g,32*i+5,none⟩) n 27) W:=λW=>by
  have hsz:∀W,(Go.sizeOf 5).run Tryz.prog W= .ok 1 W:=λW=>by kernel_rfl
  rw[run_slice_lh W 119 _ 32 32 (by kernel_rfl) .i64 .i64 5 (5+(n:Int)) (by omega) (by omega) (by omega),show Tryz.prog.elem 119=5 from by kernel_rfl,hsz];simp only[Result.andThen,sliced,Nat.mul_one];rw[show(5+(n:Int)).toNat=5+n by omega];simp[bA]
 have hcv:∀dst,Tryz.prog.underlying dst=some .string->(convert 119 dst (.slice (some ⟨g,32*i+5,none⟩) n 27)).run Tryz.prog w1= .ok (.string (sQ y)) w1:=by
  rw[zw.Z];exact run_convert_bytes_arg w1 119 5 Tryz.underlying119 Tryz.underlying5 g (32*i+5) n 27 _ (by simp) (λj hj=>by
   have:=hs (5+j) (by omega);rw[Nat.add_assoc,this];simp[List.getD,hj])
 have J4:=hcv 9 Tryz.underlying9;have adh:(sQ y).size=n:=by rw[zw.Z,strOfNums_size];simp
 generalize Vv:sQ y=s at*;have HSN:Hd (sQ y=s):=Vv;clear hcv Vv;go_wp2_with fail;refine(yo s (by omega) _).mono ?_;rintro e w2 ⟨rfl,rfl⟩;clear hsl J4;cases hm:eR s with
 |false=>
  have HN:Hd (mf y=false):=by show _=_;rw[HO2.Z,hm]
  clear hm;go_wp2_with (first|(refine aD rfl 90 _ _ rfl _ _ _ rfl rfl hA (ew _ _) rfl (fU _ _) ?_))
  intro w2 sR eI;go_wp2_with fail;exact bodyPost_ret (fT rfl _ _ w.heap.size _ _ rfl sR) rfl ⟨by rw[CR,CQ,HN.Z];rfl,hL.trans (eI.below af)⟩
 |true=>
 have HY:Hd (mf y=true):=by show _=_;rw[HO2.Z,hm]
 have HQ:=ah q0;clear hm;go_wp2_with (first|(refine aD rfl 90 _ _ rfl _ _ _ rfl rfl hA (ew _ _) rfl (fU _ _) ?_))
 intro w2 sR eI;go_wp2_with fail;exact bodyPost_ret (fT rfl _ _ w.heap.size _ _ rfl sR) rfl ⟨by rw[CR,CQ,HY.Z,bne,HQ.Z,HSN.Z];rfl,hL.trans (eI.below af)⟩
def lD(w:World)(b off n:Nat)(I:Nat->Int)(N:Nat->ByteArray):Prop:=∀i,i<n->w.cell? ⟨b,off+i*2,none⟩=some (.int .u32 (I i))/\w.cell? ⟨b,off+i*2+1,none⟩=some (.string (N i))
def He(w:World)(a:Option Addr)(n:Nat)(I:Nat->Int)(N:Nat->ByteArray):Prop:=n=0\/∃b off,a=some ⟨b,off,none⟩/\lD w b off n I N
theorem lD.below{w':World}{b n:Nat}{I:Nat->Int}(h:lD w b off n I N){B:Nat}(hb:Below B w w')(hB:b<B):lD w' b off n I N:=
 λi hi=>⟨(hb.cell (p:=⟨b,off+i*2,none⟩) hB).trans (h i hi).1,(hb.cell (p:=⟨b,off+i*2+1,none⟩) hB).trans (h i hi).2⟩
theorem lD.lt{b n:Nat}{I:Nat->Int}(h:lD w b off n I N)(hn:0<n):b<w.heap.size:=World.block_lt_of_cell? w _ (h 0 hn).1
theorem lD.range{b n:Nat}{I:Nat->Int}(h:lD w b off n I N)(i:Nat)(hi:i<n):w.rangeAt b (off+i*2) [.int .u32 (I i),.string (N i)]:=by
 intro j v hj;rcases j with _|_|j
 ·cases hj;exact(h i hi).1
 ·cases hj;exact(h i hi).2
 cases hj
def gv(I:Nat->Int)(N:Nat->ByteArray)(s:ByteArray)(i:Nat):Bool:=I i !=0&&(N i).data.toList==s.data.toList
def dq(p:Nat->Bool):Nat->Int
 |0=> -1
 |n+1=>if dq p n= -1 then(if p n then(n:Int) else -1) else dq p n
theorem jf{p:Nat->Bool}{n:Nat}(h:∀i,i<n->p i=false):dq p n= -1:=by
 induction n with
 |zero=>rfl
 |succ n ih=>unfold dq;rw[ih λi hi=>h i (by omega),h n (by omega)];rfl
theorem sg{p:Nat->Bool}{n:Nat}(hk:k<n)(h:∀i,i<k->p i=false)(hp:p k=true):dq p n=(k:Int):=by
 induction n with
 |zero=>omega
 |succ n ih=>
  unfold dq
  by_cases hkn:k<n
  ·rw[ih hkn,if_neg (by omega)]
  obtain rfl:k=n:=by omega
  rw[jf h,hp];rfl
theorem n6(p:Nat->Bool)(n:Nat):(dq p n= -1/\∀i,i<n->p i=false)\/∃k,k<n/\dq p n=(k:Int)/\p k=true/\∀i,i<k->p i=false:=by
 induction n with
 |zero=>exact .inl ⟨rfl,λi hi=>by omega⟩
 |succ n ih=>
  rcases ih with⟨h1,h2⟩|⟨k,hk,h1,h2,h3⟩
  ·cases hp:p n with
   |false=>exact .inl ⟨by unfold dq;rw[h1,hp];rfl,λi hi=>by
     by_cases e:i=n
     ·rw[e];exact hp
     exact h2 i (by omega)⟩
   |true=>exact .inr ⟨n,by omega,by unfold dq;rw[h1,hp];rfl,hp,h2⟩
  exact .inr ⟨k,by omega,by unfold dq;rw[h1,if_neg (by omega)],h2,h3⟩
theorem Dm(a:Option Addr)(n cap:Nat)(I:Nat->Int)(N:Nat->ByteArray)(s:ByteArray)(hn:(n:Int)<=9223372036854775807)(w:World)(hs:He w a n I N):
  Calls Tryz.prog 140 #[.slice a n cap,.string s] w λe w'=>e= .returned (.int .i64 (dq (gv I N s) n))/\Below w.heap.size w w':=by
 have HS:=ah hs;clear hs;go_enter Tryz.func140,Tryz.ntmps140;go_wp2_with fail
 go_step3
 go_wp2_with fail
 go_step3
 go_wp2_with fail;have hal:=lH;go_loopw [5,10] (λv u wr=>∃k:Nat,k<=n/\v= .int .i64 (-1)/\u= .int .i64 (k:Int)/\Hd (∀i,i<k->gv I N s i=false)/\Below w.heap.size w wr) (λ_ u _=>n-(intOf u).toNat)
 case atStart=>exact⟨0,by omega,rfl,rfl,λi hi=>by omega,Below.refl _ _⟩
 obtain⟨k,hk,rfl,rfl,cY,hb⟩:=hrel
 by_cases hlt:k<n
 ·obtain⟨b,off,rfl,hseg⟩:∃b off,a=some ⟨b,off,none⟩/\lD w b off n I N:=by
   rcases HS.Z with h|h
   ·omega
   exact h
  have hr:=(hseg.below hb (hseg.lt (by omega))).range k hlt;have hA0:=At.new wr 90 #[.int .u32 0,.string ByteArray.empty];go_wp2_with (first|(refine wpList_load_mid rfl 90 _ rfl _ _ rfl _ _ hr Tryz.underlying90 rfl (by kernel_rfl) ?_)|(refine aD rfl 90 _ _ rfl _ #[.int .u32 (I k),.string (N k)] _ rfl rfl hA0 (ew _ _) rfl (fU _ _) ?_))
  intro w2 sR eI;have hb2:Below w.heap.size w w2:=(hb.alloc hb.size _).trans (eI.below hb.size);have c0:=sR.cell (i:=0) rfl;have c1:=sR.cell (i:=1) rfl;clear hr hA0 hb eI;have HH:Hd (gv I N s k=(I k !=0&&(N k).toList==s.toList)):=by show _=_;unfold gv;rw[ByteArray.toList_eq,ByteArray.toList_eq]
  have c0':w2.cell? ⟨wr.heap.size,0,none⟩=some (.int .u32 (I k)):=c0;have c1':w2.cell? ⟨wr.heap.size,1,none⟩=some (.string (N k)):=c1;clear c0 c1;have hnx:Hd (gv I N s k=false->∀i,i<k+1->gv I N s i=false):=λh i hi=>by
   by_cases e:i=k
   ·rw[e];exact h
   exact cY.Z i (by omega)
  cases h1:(I k !=0) with
  |false=>
   have xd:Hd (∀i,i<k+1->gv I N s i=false):=hnx.Z (by rw[HH.Z,h1];rfl);clear hnx HH;go_wp2_with fail;go_roundw
   case rel=>(try((repeat apply Exists.intro);refine⟨?_,rfl⟩));exact⟨k+1,by omega,rfl,by go_num,xd,hb2⟩
   simp[intOf];omega
  |true=>
  cases h2:((N k).toList==s.toList) with
  |false=>
   have xd:Hd (∀i,i<k+1->gv I N s i=false):=hnx.Z (by rw[HH.Z,h1,h2];rfl);clear hnx HH;go_wp2_with fail;go_roundw
   case rel=>(try((repeat apply Exists.intro);refine⟨?_,rfl⟩));exact⟨k+1,by omega,rfl,by go_num,xd,hb2⟩
   simp[intOf];omega
  |true=>
   have HF:Hd (dq (gv I N s) n=(k:Int)):=sg hlt cY.Z (by rw[HH.Z,h1,h2];rfl);clear hnx HH;go_wp2_with fail
   try rw[Exit.noGoto_ret]
   go_ret;exact⟨by rw[HF.Z];rfl,hb2⟩
 obtain rfl:k=n:=by omega
 have HF:Hd (dq (gv I N s) k= -1):=jf cY.Z;go_wp2_with fail
 try rw[Exit.noGoto_ret]
 go_ret;exact⟨by rw[HF.Z];rfl,hb⟩
def Sc(I:Nat->Int)(N:Nat->ByteArray):Nat->List Value
 |0=>[]
 |k+1=>Sc I N k++[.int .u32 (I k),.string (N k)]
theorem eV(I:Nat->Int)(N:Nat->ByteArray)(k:Nat):(Sc I N k).length=k*2:=by
 induction k with
 |zero=>rfl
 |succ k ih=>simp[Sc,ih];omega
theorem Bg(I:Nat->Int)(N:Nat->ByteArray)(k i:Nat)(hi:i<k):(Sc I N k)[i*2]? =some (.int .u32 (I i))/\(Sc I N k)[i*2+1]? =some (.string (N i)):=by
 induction k with
 |zero=>omega
 |succ k ih=>
  unfold Sc
  by_cases h:i<k
  ·obtain⟨h1,h2⟩:=ih h
   rw[List.getElem?_append_left (by rw[eV];omega),List.getElem?_append_left (by rw[eV];omega)];exact⟨h1,h2⟩
  obtain rfl:i=k:=by omega
  rw[List.getElem?_append_right (by rw[eV];omega),List.getElem?_append_right (by rw[eV];omega),eV];simp
theorem sJ{I:Nat->Int}(h:∀i,i<k->I i=J i/\N i=M i):Sc I N k=Sc J M k:=by
 induction k with
 |zero=>rfl
 |succ k ih=>unfold Sc;rw[ih λi hi=>h i (by omega),(h k (by omega)).1,(h k (by omega)).2]
theorem OD(I:Nat->Int)(N:Nat->ByteArray)(k:Nat):∀v∈Sc I N k,v.oneCell'=true:=by
 induction k with
 |zero=>intro v hv;cases hv
 |succ k ih=>
  intro v hv;unfold Sc at hv;rcases List.mem_append.1 hv with h|h
  ·exact ih v h
  simp only[List.mem_cons,List.not_mem_nil,or_false] at h;rcases h with rfl|rfl<;>rfl
def Lw:Nat->Int:=λ_=>0
def Lv:Nat->ByteArray:=λ_=>ByteArray.empty
def dI(z:Nat->Int):Nat->Int:=λi=>CR (sl z i)
def dM(z:Nat->Int):Nat->ByteArray:=λi=>CQ (sl z i)
def By(z:Nat->Int):Nat->Bool
 |0=>true
 |k+1=>By z k&&(mf (sl z k)&&(dI z k==0||dq (gv (dI z) (dM z) (dM z k)) k== -1))
def iW(z:Nat->Int):Bool:=By z 8
theorem ee(z:Nat->Int)(k:Nat):By z (k+1)=(By z k&&(mf (sl z k)&&(dI z k==0||dq (gv (dI z) (dM z) (dM z k)) k== -1))):=rfl
theorem mB{n:Nat}(hk:k<n)(h:By z (k+1)=false):By z n=false:=by
 induction n with
 |zero=>omega
 |succ n ih=>
  by_cases e:k=n
  ·rw[<-e];exact h
  rw[ee,ih (by omega)];rfl
def CS(z:Nat->Int):Nat->Int:=λi=>if iW z then dI z i else 0
def Ep(z:Nat->Int):Nat->ByteArray:=λi=>if iW z then dM z i else ByteArray.empty
def Ib(z:Nat->Int)(k:Nat):Nat->Int:=λi=>if i<k then dI z i else 0
def Ia(z:Nat->Int)(k:Nat):Nat->ByteArray:=λi=>if i<k then dM z i else ByteArray.empty
theorem qB(W:World):(zeroValue 172).run Tryz.prog W= .ok (.agg (Sc Lw Lv 8).toArray) W:=by kernel_rfl
theorem fA(I:Nat->Int)(N:Nat->ByteArray):(Tryz.prog.info? 172).map (·.size)=some (Sc I N 8).toArray.size:=by
 rw[show(Sc I N 8).toArray.size=16 by simp[eV]];kernel_rfl
theorem jJ(I:Nat->Int)(N:Nat->ByteArray):(Sc I N 8).toArray.all (·.oneCell')=true:=all_oneCell_toArray (OD I N 8)
theorem At.tS{I:Nat->Int}{n:Nat}(h:At w g T (Sc I N n).toArray):lD w g 0 n I N:=λi hi=>by
 obtain⟨h1,h2⟩:=Bg I N n i hi;rw[Nat.zero_add];exact⟨aF h (by simpa using h1),aF h (by simpa using h2)⟩
theorem At.rH{c:Array Value}{l:List Value}(h:w.heap[g]? =some (.cells c T (0,0)))(hs:c.size=l.length)(hc:∀i v,l[i]? =some v->w.cell? ⟨g,i,none⟩=some v):At w g T l.toArray:=by
 have:c=l.toArray:=by
  apply Array.ext_getElem?;intro i
  by_cases hi:i<c.size
  ·have h1:=aF h (Array.getElem?_eq_getElem hi)
   have hil:i<l.length:=by omega
   have h2:=hc i l[i] (List.getElem?_eq_getElem hil);rw[h1] at h2;rw[Array.getElem?_eq_getElem hi,h2];simp[hil]
  rw[Array.getElem?_eq_none (by omega)]
  symm;simp;omega
 rw[this] at h;exact h
theorem At.I7{I:Nat->Int}{n:Nat}(h:At w g T (Sc I N n).toArray)(i:Nat)(hi:i<n)(hs:∀j,j<n->j≠i->I j=J j/\N j=M j):
  At (w.setCells g (i*2) [.int .u32 (J i),.string (M i)]) g T (Sc J M n).toArray/\az g w (w.setCells g (i*2) [.int .u32 (J i),.string (M i)]):=by
 have ho:az g w (w.setCells g (i*2) [.int .u32 (J i),.string (M i)]):=(az.setCell w ⟨g,i*2,none⟩ _).trans (az.setCell _ ⟨g,i*2+1,none⟩ _);refine⟨?_,ho⟩;obtain⟨c,hcs,hc⟩:=ho.shape _ _ _ h;refine At.rH hc (by rw[hcs];simp[eV]) λj v hj=> ?_
 have hjl:j<n*2:=by have:=(List.getElem?_eq_some_iff.1 hj).1;rwa[eV] at this
 have hsl:=h.tS;have gG:∀x,x<2->(w.cell? ⟨g,i*2+x,none⟩).isSome=true:=λx hx=>by
  obtain⟨h1,h2⟩:=hsl i hi;rw[Nat.zero_add] at h1 h2;rcases x with _|_|x
  ·rw[show i*2+0=i*2 from rfl,h1];rfl
  ·rw[h2];rfl
  omega
 obtain⟨q,hq⟩:∃q,j=q*2\/j=q*2+1:=⟨j/2,by omega⟩;have QY:q<n:=by omega
 obtain⟨s1,s2⟩:=Bg J M n q QY;obtain⟨o1,o2⟩:=hsl q QY;rw[Nat.zero_add] at o1 o2
 by_cases TB:q=i
 ·subst TB
  rcases hq with rfl|rfl
  ·rw[s1] at hj;cases hj
   have:=World.cell?_setCells_in g [.int .u32 (J q),.string (M q)] (q*2) w gG 0 (by simp);exact this
  rw[s2] at hj;cases hj;have:=World.cell?_setCells_in g [.int .u32 (J q),.string (M q)] (q*2) w gG 1 (by simp);exact this
 obtain⟨e1,e2⟩:=hs q QY TB;rw[World.cell?_setCells_out g _ (i*2) w ⟨g,j,none⟩ (λ_=>by simp;omega)];rcases hq with rfl|rfl
 ·rw[s1] at hj;cases hj;rw[<-e1];exact o1
 rw[s2] at hj;cases hj;rw[<-e2];exact o2
structure Ec(w:World)(g:Nat)(T:TypeId)(z:Nat->Int)(k:Nat)(W:World):Prop where
 b:aU W g T 256 z
 r:At W w.heap.size 172 (Sc (Ib z k) (Ia z k) 8).toArray
 bel:Below w.heap.size w W
theorem Ec.below{W:World}(h:Ec w g T z k W)(hb:Below W.heap.size W W'):Ec w g T z k W':=⟨h.b.below hb h.b.lt,h.r.below hb h.r.lt,h.bel.trans (hb.mono h.bel.size)⟩
theorem ji(I:Nat->Int)(N:Nat->ByteArray)(k:Nat):(Sc I N k).toArray.size=k*2:=by simp[eV]
theorem jn{u:Tmp}(h:fn.results= #[.cell p 172,.tmp u])(tmps:Array Value)(w:World)(g:Nat)(I:Nat->Int)(N:Nat->ByteArray)
  (hp:tmps.getD p undef= .pointer (some ⟨g,0,none⟩)) (hg:At w g 172 (Sc I N 8).toArray):(results fn tmps).run Tryz.prog w= .ok (.tuple #[.agg (Sc I N 8).toArray,tmps.getD u undef]) w:=
 bP h tmps w g 172 _ (0,0) _ hp hg Tryz.underlying172 rfl (fA _ _)
theorem Ft(g:Nat)(z:Nat->Int)(hz:bu z)(w:World)(hB:aU w g T 256 z):
  Calls Tryz.prog 95 #[.pointer (some ⟨g,0,none⟩)] w λe w'=>e= .returned (.tuple #[.agg (Sc (CS z) (Ep z) 8).toArray,.bool (iW z)])/\Below w.heap.size w w':=by
 have hal:=qB;have HB:=ah hB;clear hB;go_enter Tryz.func95,Tryz.ntmps95;go_wp2_with fail;have wu:=HB.Z.lt;have st0:Ec w g T z 0 (w.alloc (.cells (Sc Lw Lv 8).toArray 172)):=⟨HB.Z.alloc _,At.new _ _ _,ag.alloc af _⟩;clear hal;go_loopw [5] (λu wr=>∃k:Nat,k<=8/\u= .int .i64 (k:Int)/\Hd (By z k=true)/\Ec w g T z k wr) (λu _=>8-(intOf u).toNat)
 case atStart=>exact⟨0,by omega,rfl,rfl,st0⟩
 clear st0;obtain⟨k,hk,rfl,K3,st⟩:=hrel
 by_cases hlt:k<8
 ·go_wp2_with fail
  refine(Kr g k hlt _).mono ?_;rintro e w2 ⟨rfl,rfl⟩;go_wp2_with fail;refine(E9 g k hlt z hz _ st.b).mono ?_;rintro e w3 ⟨rfl,hb3⟩;have fw:=st.below hb3;clear st hb3;have gG:w3.there w.heap.size (k*2) 2:=λj hj=>⟨by
   obtain⟨h1,h2⟩:=fw.r.tS k hlt;rw[Nat.zero_add] at h1 h2;rcases j with _|_|j
   ·rw[Nat.add_zero,h1];rfl
   ·rw[h2];rfl
   omega,an fw.r _⟩
  obtain⟨v8,Es⟩:=fw.r.I7 (J:=Ib z (k+1)) (M:=Ia z (k+1)) k hlt (λj hj hne=>by
   unfold Ib Ia
   by_cases h:j<k
   ·rw[if_pos h,if_pos h,if_pos (by omega),if_pos (by omega)];exact⟨rfl,rfl⟩
   rw[if_neg h,if_neg h,if_neg (by omega),if_neg (by omega)];exact⟨rfl,rfl⟩)
  rw[show Ib z (k+1) k=dI z k by unfold Ib;rw[if_pos (by omega)],show Ia z (k+1) k=dM z k by unfold Ia;rw[if_pos (by omega)]] at v8 Es;have ij:Hd (Ec w g T z (k+1) (w3.setCells w.heap.size (k*2) [.int .u32 (dI z k),.string (dM z k)])):=⟨fw.b.only Es (by omega),v8,fw.bel.trans (Es.below af)⟩;clear v8 Es;have hno:Hd (iW z=false->Sc (CS z) (Ep z) 8=Sc Lw Lv 8):=λh=>sJ λi _=>by unfold CS Ep;rw[h];exact⟨rfl,rfl⟩
  cases hok:mf (sl z k) with
  |false=>
   have HD:Hd (iW z=false):=mB hlt (by rw[ee,hok];simp);have SJ:Hd (Sc (CS z) (Ep z) 8=Sc Lw Lv 8):=hno.Z HD.Z;have hR:=ij.Z.r;have hL:=ij.Z.bel;clear hno hok;go_wp2_with (first|(refine wpList_store_mid rfl 90 _ _ rfl _ (k*2) #[.int .u32 (dI z k),.string (dM z k)] rfl rfl gG (ew _ _) (fU _ _) ?_)|(refine aD rfl 172 _ _ rfl _ (Sc Lw Lv 8).toArray _ rfl rfl hR (fA _ _) (by rw[ji,ji]) (jJ _ _) ?_))
   intro w9 jv gQ;go_wp2_with fail;exact bodyPost_ret (jn rfl _ _ w.heap.size _ _ rfl jv) rfl ⟨by rw[HD.Z,SJ.Z];rfl,hL.trans (gQ.below af)⟩
  |true=>
  have m7:=ah hok;clear hok;go_wp2_with (first|(refine wpList_store_mid rfl 90 _ _ rfl _ (k*2) #[.int .u32 (dI z k),.string (dM z k)] rfl rfl gG (ew _ _) (fU _ _) ?_))
  have eC:=ij.Z;clear ij gG fw;generalize w3.setCells w.heap.size (k*2) [.int .u32 (dI z k),.string (dM z k)]=w5 at eC ⊢;have hc0:∀x:a9 (Ec w g T z (k+1)),x.W.cell? ⟨w.heap.size,k*2,none⟩=some (.int .u32 (dI z k)):=λx=>by
   have:=(x.h.r.tS k hlt).1;rw[Nat.zero_add] at this;rw[this];unfold Ib;rw[if_pos (by omega)]
  have hc1:∀x:a9 (Ec w g T z (k+1)),x.W.cell? ⟨w.heap.size,k*2+1,none⟩=some (.string (dM z k)):=λx=>by
   have:=(x.h.r.tS k hlt).2;rw[Nat.zero_add] at this;rw[this];unfold Ia;rw[if_pos (by omega)]
  have l0:(0:Int)<=(k:Int):=by omega
  have l1:(k:Int)<8:=by omega
  have hsl:∀W,(Instr.sliceAt 172 (.pointer (some ⟨w.heap.size,0,none⟩)) none (some (.int .i64 (k:Int))) none).run Tryz.prog W= .ok (.slice (some ⟨w.heap.size,0,none⟩) k 8) W:=λW=>by
   have hal:Tryz.prog.arrayLen 172=8:=by kernel_rfl
   have hsz:∀W,(Go.sizeOf (Tryz.prog.elem 172)).run Tryz.prog W= .ok 2 W:=λW=>by kernel_rfl
   rw[run_sliceAt_array_h W 172 _ (by kernel_rfl) .i64 (k:Int) (by omega) (by rw[hal];omega),hsz,hal];simp only[Result.andThen,slicedAt,Int.toNat_natCast];simp[bA]
  have hrow:Hd (∀W,Ec w g T z (k+1) W->He W (some ⟨w.heap.size,0,none⟩) k (dI z) (dM z)):=λW h=> .inr ⟨_,_,rfl,λi hi=>by
   have:=h.r.tS i (by omega);unfold Ib Ia at this;rw[if_pos (by omega),if_pos (by omega)] at this;exact this⟩
  cases hi0:(dI z k !=0) with
  |false=>
   have sL:Hd (By z (k+1)=true):=by
    show _=_;have e:(dI z k==0)=true:=by rw[bne] at hi0;simpa using hi0
    rw[ee,K3.Z,m7.Z,e];rfl
   refine ar (Ec w g T z (k+1)) ⟨eC.b,eC.r,eC.bel.drew⟩ ?_;clear eC;intro hne
   repeat go_big_quiet_step (fail)
   refine wpQuiet_nil ?_;intro w6 h6;have eQ:=h6.Z;clear h6 hne hc0 hc1 hsl;go_wp2_with fail;go_roundw
   case rel=>(try((repeat apply Exists.intro);refine⟨?_,rfl⟩));exact⟨k+1,by omega,by go_num,sL,eQ⟩
   simp[intOf];omega
  |true=>
   have e0:Hd ((dI z k==0)=false):=by show _=_;rw[bne] at hi0;simpa using hi0
   have hfc:Hd (dq (gv (dI z) (dM z) (dM z k)) k= -1\/0<=dq (gv (dI z) (dM z) (dM z k)) k):=by
    rcases n6 (gv (dI z) (dM z) (dM z k)) k with h|⟨j,_,h,_⟩
    ·exact .inl h.1
    exact .inr (by omega)
   have HF:Hd (By z (k+1)=(dq (gv (dI z) (dM z) (dM z k)) k== -1)):=by show _=_;rw[ee,K3.Z,m7.Z,e0.Z];rfl
   have hcall:Hd (∀W,Ec w g T z (k+1) W->Calls Tryz.prog 140 #[.slice (some ⟨w.heap.size,0,none⟩) k 8,.string (dM z k)] W λe w'=>e= .returned (.int .i64 (dq (gv (dI z) (dM z) (dM z k)) k))/\Ec w g T z (k+1) w'):=λW hW=>(Dm _ k 8 (dI z) (dM z) (dM z k) (by omega) W (hrow.Z W hW)).mono λe w' h=>⟨h.1,hW.below h.2⟩
   generalize dq (gv (dI z) (dM z) (dM z k)) k=f at*;refine ar (Ec w g T z (k+1)) ⟨eC.b,eC.r,eC.bel.drew⟩ ?_;clear eC;intro hne
   repeat go_big_quiet_step (fail)
   go_big_quiet_want
   go_big_quiet_op
   refine⟨_,λs=>aN s (λW hW=>hcall.Z W hW),?_⟩
   go_big_quiet_on
   repeat go_big_quiet_step (fail)
   refine wpQuiet_nil ?_;intro w6 h6;have eQ:=h6.Z;clear h6 hne hc0 hc1 hsl;rcases hfc.Z with hf|hf
   ·have sL:Hd (By z (k+1)=true):=by show _=_;rw[HF.Z,hf];rfl
    have q:¬(0:Int)<=f:=by omega
    subst hf;go_wp2_with fail;go_roundw
    case rel=>(try((repeat apply Exists.intro);refine⟨?_,rfl⟩));exact⟨k+1,by omega,by go_num,sL,eQ⟩
    simp[intOf];omega
   have HD:Hd (iW z=false):=mB hlt (by rw[HF.Z];simp;omega);have SJ:Hd (Sc (CS z) (Ep z) 8=Sc Lw Lv 8):=hno.Z HD.Z;have hR:=eQ.r;have hL:=eQ.bel;go_wp2_with (first|(refine aD rfl 172 _ _ rfl _ (Sc Lw Lv 8).toArray _ rfl rfl hR (fA _ _) (by rw[ji,ji]) (jJ _ _) ?_))
   intro w9 jv gQ;go_wp2_with fail;exact bodyPost_ret (jn rfl _ _ w.heap.size _ _ rfl jv) rfl ⟨by rw[HD.Z,SJ.Z];rfl,hL.trans (gQ.below af)⟩
 obtain rfl:k=8:=by omega
 have HD:Hd (iW z=true):=K3.Z;have SJ:Hd (Sc (CS z) (Ep z) 8=Sc (Ib z 8) (Ia z 8) 8):=sJ λi hi=>by unfold CS Ep Ib Ia;rw[HD.Z,if_pos hi,if_pos hi];exact⟨rfl,rfl⟩
 have hR:=st.r;go_wp2_with (first|(refine aB rfl 172 _ rfl _ _ _ rfl hR Tryz.underlying172 rfl (fA _ _) ?_)|(refine aD rfl 172 _ _ rfl _ (Sc (Ib z 8) (Ia z 8) 8).toArray _ rfl rfl hR (fA _ _) rfl (jJ _ _) ?_))
 intro w9 jv gQ;go_wp2_with fail;exact bodyPost_ret (jn rfl _ _ w.heap.size _ _ rfl jv) rfl ⟨by rw[HD.Z,SJ.Z];rfl,st.bel.trans (gQ.below af)⟩
def fS(z:Nat->Int)(s:ByteArray):Int:=dq (gv (CS z) (Ep z) s) 8
def zo(w:World)(z:Nat->Int)(e:Ending)(w':World):Prop:=
 Below w.heap.size w w'/\(iW z=false/\e= .returned (.tuple #[.slice none 0 0,.int .i64 80])\/
  iW z=true/\∃g,w.heap.size<=g/\e= .returned (.tuple #[.slice (some ⟨g,0,none⟩) 8 8,.int .i64 0])/\At w' g 172 (Sc (dI z) (dM z) 8).toArray)
theorem vm(g:Nat)(W:World):(Instr.sliceAt 172 (.pointer (some ⟨g,0,none⟩)) none none none).run Tryz.prog W= .ok (.slice (some ⟨g,0,none⟩) 8 8) W:=by kernel_rfl
theorem Fs(h:iW z=true):Sc (CS z) (Ep z) 8=Sc (dI z) (dM z) 8:=sJ λi _=>by unfold CS Ep;rw[h];exact⟨rfl,rfl⟩
theorem F1(z:Nat->Int)(hz:bu z)(w:World):Calls Tryz.prog 54 #[aR z] w (zo w z):=by
 have hal:=qB;have hB:=aU.new w 32 256 z;have hL:Below w.heap.size w (w.alloc (.cells (Ks .u8 256 z).toArray 32)):=ag.alloc af _;have HB:=ah hB;have HL:=ah hL;clear hB hL;go_enter Tryz.func54,Tryz.ntmps54;go_wp2_with fail;refine(Ft w.heap.size z hz _ HB.Z).mono ?_;rintro e w1 ⟨rfl,hb1⟩;have fW:Below w.heap.size w w1:=HL.Z.trans (hb1.mono HL.Z.size);have gU:=At.new w1 172 (Sc Lw Lv 8).toArray;clear HB HL hb1;have hsl:=λW=>vm w1.heap.size W
 cases hd:iW z with
 |false=>
  have HD:=ah hd;clear hd;go_wp2_with (first|(refine aD rfl 172 _ _ rfl _ (Sc (CS z) (Ep z) 8).toArray _ rfl rfl gU (fA _ _) (by rw[ji,ji]) (jJ _ _) ?_))
  intro w2 sR eI;have hL2:Below w.heap.size w w2:=(fW.alloc fW.size _).trans (eI.below fW.size);clear gU fW eI hal;go_wp2_with fail
  go_ret2
  exact⟨hL2,.inl ⟨HD.Z,rfl⟩⟩
 |true=>
  have HD:=ah hd;clear hd;go_wp2_with (first|(refine aD rfl 172 _ _ rfl _ (Sc (CS z) (Ep z) 8).toArray _ rfl rfl gU (fA _ _) (by rw[ji,ji]) (jJ _ _) ?_))
  intro w2 sR eI;have hL2:Below w.heap.size w w2:=(fW.alloc fW.size _).trans (eI.below fW.size);have hfin:Hd (zo w z (.returned (.tuple #[.slice (some ⟨w1.heap.size,0,none⟩) 8 8,.int .i64 0])) w2):=⟨hL2,.inr ⟨HD.Z,_,fW.size,rfl,by rw[<-Fs HD.Z];exact sR⟩⟩;clear gU fW eI hal;go_wp2_with fail
  go_ret2
  exact hfin.Z
def bz(s:ByteArray):Nat->Int:=λj=>((s.data.toList.getD j 0).toNat:Int)
theorem Ou(s:ByteArray):bu (bz s):=λj=>by unfold bz;have:=(s.data.toList.getD j 0).toNat_lt;omega
def Jv(s:ByteArray)(ino:Int):Nat->Int:=λj=>if j<4 then byteOf ino j else if j=4 then(s.size:Int) else if j-5<s.size then bz s (j-5) else 0
def Ap(z:Nat->Int)(i:Nat)(y:Nat->Int):Nat->Int:=over z (32*i) 32 y
def L4(z:Nat->Int):Int:=dq (λi=>CS z i==0) 8
def OB(z:Nat->Int)(s:ByteArray)(ino:Int):Int:=
 if iW z=false then 80 else if eR s=false\/ino=0\/fS z s≠ -1 then 2 else if L4 z= -1 then 4 else 0
def Sh(z:Nat->Int)(s:ByteArray)(ino:Int):Nat->Int:=if OB z s ino=0 then Ap z (L4 z).toNat (Jv s ino) else z
def UO(z:Nat->Int)(s:ByteArray):Bool:=fS z s != -1
def UN(z:Nat->Int)(s:ByteArray):Nat->Int:=if UO z s then Ap z (fS z s).toNat (λ_=>0) else z
theorem Ky(ino:Int)(h:s.size<=27):bu (Jv s ino):=λj=>by
 unfold Jv;split
 ·exact gx _ _
 split
 ·omega
 split
 ·exact Ou s _
 decide
theorem G2:bu (λ_=>0):=λ_=>(by decide:(0:Int)<=0/\(0:Int)<256)
def UL:ByteArray:=⟨#[97,98]⟩
def sC:ByteArray:=⟨#[99]⟩
def z0:Nat->Int:=λ_=>0
def z1:Nat->Int:=Sh z0 UL 7
def z2:Nat->Int:=Sh z1 sC 8
def z3:Nat->Int:=UN z2 UL
theorem a1:OB z0 UL 7=0:=by decide+kernel
theorem a2:OB z1 sC 8=0:=by decide+kernel
theorem a3:fS z2 sC=1:=by decide+kernel
def Dk(l:List UInt8):Bool:=l.all λc=>c !=47&&c !=0
theorem vN(l:List UInt8):Dk l=(!l.contains 47&& !l.contains 0):=by
 induction l with
 |nil=>rfl
 |cons c l ih=>
  unfold Dk at ih ⊢;rw[List.all_cons,ih,List.contains_cons,List.contains_cons];rw[BEq.comm (a:=47),BEq.comm (a:=0),bne,bne];cases c==47<;>cases c==0<;>simp
theorem Kx(c:UInt8):((c.toNat:Int) !=47)=(c !=47):=by
 rw[Bool.eq_iff_iff,bne_iff_ne,bne_iff_ne,Ne,Ne,<-UInt8.toNat_inj];show¬((c.toNat:Int)=47)↔¬(c.toNat=47);omega
theorem G1(c:UInt8):((c.toNat:Int) !=0)=(c !=0):=by
 rw[Bool.eq_iff_iff,bne_iff_ne,bne_iff_ne,Ne,Ne,<-UInt8.toNat_inj];show¬((c.toNat:Int)=0)↔¬(c.toNat=0);omega
def M9(l:List UInt8):Bool:=decide (1<=l.length)&&(decide (l.length<=27)&&(l !=[46]&&l !=[46,46]))
theorem FZ(l:List UInt8):Jz l=(M9 l&&Dk l):=by unfold Jz M9;rw[vN];simp only[Bool.and_assoc]
theorem FN(l:List UInt8)(k:Nat)(h:k<l.length):Dk (l.take (k+1))=(Dk (l.take k)&&(l[k] !=47&&l[k] !=0)):=by
 unfold Dk;rw[List.take_succ_eq_append_getElem h,List.all_append];simp
theorem wV{t:ByteArray}(h:s.data.toList=t.data.toList):s=t:=by
 cases s;cases t;congr;exact Array.toList_inj.1 h
theorem Jd(z:Nat->Int)(n:Nat):By z n=true↔(∀i,i<n->mf (sl z i)=true)/\∀i j,j<i->i<n->dI z i≠0->dI z j≠0->dM z j≠dM z i:=by
 induction n with
 |zero=>exact⟨λ_=>⟨λi hi=>by omega,λi j _ hi=>by omega⟩,λ_=>rfl⟩
 |succ n ih=>
  rw[ee,Bool.and_eq_true,Bool.and_eq_true,ih,Bool.or_eq_true,beq_iff_eq,beq_iff_eq];constructor
  ·rintro⟨⟨h1,h2⟩,h3,h4⟩
   refine⟨λi hi=> ?_,λi j hj hi a b=> ?_⟩
   ·by_cases e:i=n
    ·rw[e];exact h3
    exact h1 i (by omega)
   by_cases e:i=n
   ·subst e
    rcases h4 with h4|h4
    ·exact absurd h4 a
    intro hm;rcases n6 (gv (dI z) (dM z) (dM z i)) i with⟨_,h5⟩|⟨k,_,h5,_⟩
    ·have:=h5 j hj
     unfold gv at this;rw[hm,show(dI z j !=0)=true by simpa using b] at this;simp at this
    omega
   exact h2 i j hj (by omega) a b
  rintro⟨h1,h2⟩;refine⟨⟨λi hi=>h1 i (by omega),λi j hj hi=>h2 i j hj (by omega)⟩,h1 n (by omega),?_⟩
  by_cases e:dI z n=0
  ·exact .inl e
  refine .inr (jf λi hi=> ?_);unfold gv
  by_cases e2:dI z i=0
  ·rw[e2];rfl
  have:=h2 n i hi (by omega) e e2;rw[Bool.and_eq_false_iff];right
  rw[beq_eq_false_iff_ne]
  exactλhh=>this (wV hh)
theorem rJ{t:TypeId}{x y:Array Value}{B:Bool}(h:(binOp .eql t (.agg x) (.agg y)).run P w= .ok (.bool B) w):(binOp .neq t (.agg x) (.agg y)).run P w= .ok (.bool (!B)) w:=by
 rw[run_eql_struct] at h;rw[run_neq_struct];generalize (Op.equalIn 10000 t (.agg x) (.agg y)).run P w=r at*;cases r with
 |ok b w'=>simp at h ⊢;exact⟨by rw[h.1],h.2⟩
 |halt e w'=>simp at h
structure B1(w:World)(z:Nat->Int)(W:World):Prop where
 b:aU W w.heap.size 32 256 z
 bel:Below w.heap.size w W
theorem ya(s:ByteArray)(hs:s.size<=9223372036854775807)(w:World):Calls Tryz.prog 165 #[.string s] w λe w'=>e= .returned (.bool (eR s))/\w=w':=by
 have HP:Hd (eR s=(decide (1<=s.size)&&(decide (s.size<=27)&&(!s.toList==[46]&& !s.toList==[46,46]))&&Dk s.toList)):=by
  show _=_;unfold eR;rw[FZ,M9,<-ByteArray.toList_eq];rw[show s.toList.length=s.size by rw[ByteArray.toList_eq];rfl];rfl
 have HZ:Hd ((s.toList==[])=decide (s.size=0)):=by
  show _=_;rw[ByteArray.toList_eq,Bool.eq_iff_iff,beq_iff_eq,decide_eq_true_eq];exact List.length_eq_zero_iff.symm
 go_enter Tryz.func165,Tryz.ntmps165
 by_cases h1:1<=s.size
 rotate_left
 ·have q0:(s.toList==[])=true:=by rw[HZ.Z];exact decide_eq_true (by omega)
  have HN:Hd (eR s=false):=by show _=_;rw[HP.Z,decide_eq_false h1];rfl
  clear HZ;go_wp2_with fail;go_ret;exact⟨by rw[HN.Z];rfl,rfl⟩
 have q0:(s.toList==[])=false:=by rw[HZ.Z];exact decide_eq_false (by omega)
 clear HZ
 by_cases h2:s.size<=27
 rotate_left
 ·have d2:(27:Int)<s.size:=by omega
  have HN:Hd (eR s=false):=by show _=_;rw[HP.Z,decide_eq_false h2];simp
  go_wp2_with fail;go_ret;exact⟨by rw[HN.Z];rfl,rfl⟩
 have d2:¬(27:Int)<s.size:=by omega
 cases h3:s.toList==[46] with
 |true=>
  have HN:Hd (eR s=false):=by show _=_;rw[HP.Z,h3];simp
  go_wp2_with fail;go_ret;exact⟨by rw[HN.Z];rfl,rfl⟩
 |false=>
 cases h4:s.toList==[46,46] with
 |true=>
  have HN:Hd (eR s=false):=by show _=_;rw[HP.Z,h4];simp
  go_wp2_with fail;go_ret;exact⟨by rw[HN.Z];rfl,rfl⟩
 |false=>
 have HY:Hd (eR s=Dk s.toList):=by
  show _=_;rw[HP.Z,h3,h4,decide_eq_true h1,decide_eq_true h2];rfl
 clear HP;go_wp2_with fail;go_loopw [3] (λu wr=>∃k:Nat,k<=s.size/\u= .int .i64 (k:Int)/\Hd (Dk (s.toList.take k)=true)/\wr=w) (λu _=>s.size-(intOf u).toNat)
 case atStart=>exact⟨0,by omega,rfl,rfl,rfl⟩
 obtain⟨k,hk,rfl,HK,rfl⟩:=hrel
 by_cases hlt:k<s.size
 ·have Wk:s.data.size=s.size:=rfl
  have HO:Hd (Dk (s.toList.take (k+1))=(!((s[k].toNat:Int)==47)&& !((s[k].toNat:Int)==0))):=by
   show _=_;have h:=FN s.toList k (by rw[ByteArray.toList_eq];simpa using hlt);have e:s.toList[k]'(by rw[ByteArray.toList_eq];simpa using hlt)=s[k]:=by simp[ByteArray.toList_eq];rfl
   rw[h,HK.Z,e,<-Kx,<-G1];rfl
  have cY:Hd (Dk (s.toList.take (k+1))=false->eR s=false):=λh=>by
   rw[HY.Z];unfold Dk at h ⊢;cases hall:s.toList.all λc=>c !=47&&c !=0 with
   |false=>rfl
   |true=>
    rw[List.all_eq_true] at hall;rw[List.all_eq_true.2 (λx hx=>hall x (List.mem_of_mem_take hx))] at h;cases h
  cases hc1:((s[k].toNat:Int)==47) with
  |true=>
   have HN:Hd (eR s=false):=cY.Z (by rw[HO.Z,hc1];rfl);go_wp2_with fail;go_ret;exact⟨by rw[HN.Z];rfl,rfl⟩
  |false=>
  cases hc2:((s[k].toNat:Int)==0) with
  |true=>
   have HN:Hd (eR s=false):=cY.Z (by rw[HO.Z,hc1,hc2];rfl);go_wp2_with fail;go_ret;exact⟨by rw[HN.Z];rfl,rfl⟩
  |false=>
   have Mp:Hd (Dk (s.toList.take (k+1))=true):=by show _=_;rw[HO.Z,hc1,hc2];rfl
   go_wp2_with fail;go_roundw
   case rel=>first|exact⟨k+1,by omega,by go_num,Mp,rfl⟩|exact⟨k+1,by omega,by go_num,Mp,trivial⟩|exact⟨⟨k+1,by omega,by go_num,Mp⟩,rfl⟩|exact⟨k+1,by omega,by go_num,Mp⟩|((repeat apply Exists.intro);exact⟨⟨k+1,by omega,by go_num,Mp,rfl⟩,rfl⟩)
   simp[intOf];omega
 obtain rfl:k=s.size:=by omega
 have HM:Hd (eR s=true):=by
  show _=_;rw[HY.Z,<-HK.Z,show s.size=s.toList.length by rw[ByteArray.toList_eq];rfl,List.take_length]
 go_wp2_with fail;go_ret;exact⟨by rw[HM.Z];rfl,rfl⟩
def bS(ino:Int)(s:ByteArray):Nat->Int:=if ino=0 thenλ_=>0 else Jv s ino
def LA(s:ByteArray)(ino:Int)(i:Nat):Nat->Int:=λj=>if j<4 then byteOf ino j else if j=4 then(s.size:Int) else if j-5<i then bz s (j-5) else 0
theorem FV(s:ByteArray)(ino:Int)(j:Nat):over (over (λ_=>0) 0 4 (byteOf ino)) 4 1 (λ_=>(s.size:Int)) j=LA s ino 0 j:=by
 unfold over LA
 by_cases h:j<4
 ·rw[if_neg (by omega),if_pos (by omega),if_pos h];rfl
 rw[if_neg h]
 by_cases h4:j=4
 ·rw[if_pos (by omega),if_pos h4]
 rw[if_neg (by omega),if_neg (by omega),if_neg h4,if_neg (by omega)]
theorem FW(s:ByteArray)(ino:Int)(i j:Nat):over (LA s ino i) (5+i) 1 (λ_=>bz s i) j=LA s ino (i+1) j:=by
 unfold over LA
 by_cases h:j<4
 ·rw[if_neg (by omega),if_pos h,if_pos h]
 by_cases h4:j=4
 ·rw[if_neg (by omega),if_neg h,if_pos h4,if_neg h,if_pos h4]
 by_cases h5:j-5=i
 ·rw[if_pos (by omega),if_neg h,if_neg h4,if_pos (by omega),h5]
 rw[if_neg (by omega),if_neg h,if_neg h4,if_neg h,if_neg h4]
 by_cases h6:j-5<i
 ·rw[if_pos h6,if_pos (by omega)]
 rw[if_neg h6,if_neg (by omega)]
theorem gP.blk{n:Nat}(h:gP w base e (some ⟨g,0,none⟩) n n z):aU w g e n z/\base<=g:=by
 rcases h.2 with⟨hv,_⟩|⟨g',cap',cur,hv,hb,hg,hn,hc,hs,ht⟩
 ·cases hv
 injection hv with h1 h2 h3
 injection h1 with h1
 injection h1 with h1
 subst h1 h3;refine⟨?_,hb⟩;have:cur=(Ks .u8 n z).toArray:=by
  apply Array.ext';rw[<-show(Bs n z)=Ks .u8 n z from rfl,<-ht,List.take_of_length_le (by simp;omega)]
 unfold aU;rw[hg,this]
structure ByB(w:World)(ino:Int)(s:ByteArray)(W:World):Prop where
 x:At W w.heap.size 90 #[.int .u32 ino,.string s]
 bel:Below w.heap.size w W
structure O7(w:World)(ino:Int)(s:ByteArray)(G:Nat)(z:Nat->Int)(W:World):Prop extends ByB w ino s W where
 b:aU W G 5 32 z
 ge:w.heap.size<G
theorem O7.only{ino:Int}{G:Nat}{y:Nat->Int}{W:World}(h:O7 w ino s G z W)(hB:aU W' G 5 32 y)(ho:az G W W'):O7 w ino s G y W':=
 ⟨⟨h.x.only ho (by have:=h.ge;omega),h.bel.trans (ho.below (Nat.le_of_lt h.ge))⟩,hB,h.ge⟩
theorem mE(ino:Int)(s:ByteArray)(hi:0<=ino/\ino<4294967296)(hs:ino=0\/s.size<=27)(w:World):
  Calls Tryz.prog 107 #[sv ino s] w λe w'=>∃g,w.heap.size<=g/\e= .returned (.slice (some ⟨g,0,none⟩) 32 32)/\aU w' g 5 32 (bS ino s)/\Below w.heap.size w w':=by
 obtain⟨hi0,hi1⟩:=hi;have HS:Hd (ByB w ino s (w.alloc (.cells #[.int .u32 ino,.string s] 90))):=⟨At.new _ _ _,ag.alloc af _⟩;go_enter Tryz.func107,Tryz.ntmps107;go_wp2_with (first|(refine EN rfl _ _ rfl (w.heap.size+1) 32 32 rfl rfl rfl (by omega) (by simp) ?_))
 intro w1 BU hg1;have st0:=HS.Z;have hsz:(w.alloc (.cells #[.int .u32 ino,.string s] 90)).heap.size=w.heap.size+1:=by simp
 obtain⟨hb1,Wp⟩:=BU.blk;have Rb:w.heap.size<w.heap.size+1:=by omega
 have fj:O7 w ino s (w.heap.size+1) (λ_=>0) w1:=⟨⟨(hg1.block _ st0.x.lt (by simp)).trans st0.x,st0.bel.grown hg1 st0.bel.size (λk e=>by cases e)⟩,hb1,Rb⟩;clear st0 HS BU hg1 hb1 Wp Rb hsz;generalize w.heap.size+1=G at*;have c0:w1.cell? ⟨w.heap.size,0,none⟩=some (.int .u32 ino):=fj.x.cell (i:=0) rfl;have c1:w1.cell? ⟨w.heap.size,1,none⟩=some (.string s):=fj.x.cell (i:=1) rfl
 by_cases h0:ino=0
 ·subst h0
  have fin:Hd (∃g,w.heap.size<=g/\(Ending.returned (.slice (some ⟨G,0,none⟩) 32 32))= .returned (.slice (some ⟨g,0,none⟩) 32 32)/\aU w1 g 5 32 (bS 0 s)/\Below w.heap.size w w1):=⟨G,by have:=fj.ge;omega,rfl,fj.b,fj.bel⟩;clear hs;go_wp2_with fail;go_ret;exact fin.Z
 have acY:s.size<=27:=by
  rcases hs with h|h
  ·exact absurd h h0
  exact h
 have q0:(ino==0)=false:=by simpa using h0
 have HB:Hd (bS ino s=Jv s ino):=by show _=_;unfold bS;rw[if_neg h0]
 clear h0 hs;go_wp2_with fail;refine(dm G 0 32 32 0 ino (λ_=>0) _ (by decide) (by decide) (by decide) hi0 hi1 fj.b.bQ G2 (fj.b.soft _ _)).mono ?_;rintro e w2 ⟨rfl,hp2⟩;have ec:=fj.only (fj.b.kD hp2) hp2.only;clear fj hp2 c0 c1;have c0:w2.cell? ⟨w.heap.size,0,none⟩=some (.int .u32 ino):=ec.x.cell (i:=0) rfl;have c1:w2.cell? ⟨w.heap.size,1,none⟩=some (.string s):=ec.x.cell (i:=1) rfl;have l6:IntKind.u8.wrap (s.size:Int)=(s.size:Int):=IntWalk.u8_in _ (by omega);have hB:=ec.b;go_wp2_with (first|(refine dA rfl _ _ rfl _ 4 (s.size:Int) rfl rfl hB (by omega) ?_))
 intro w3 It lS;have fw:O7 w ino s G (LA s ino 0) w3:=ec.only (It.congr λj _=>FV s ino j) lS;clear ec hB It lS c0 c1;go_wp2_with fail;go_loopw [4] (λu wr=>∃k:Nat,k<=s.size/\u= .int .i64 (k:Int)/\O7 w ino s G (LA s ino k) wr) (λu _=>s.size-(intOf u).toNat)
 case atStart=>exact⟨0,by omega,rfl,fw⟩
 clear fw;obtain⟨k,hk,rfl,st⟩:=hrel;have c1:wr.cell? ⟨w.heap.size,1,none⟩=some (.string s):=st.x.cell (i:=1) rfl
 by_cases hlt:k<s.size
 ·have Wk:s.data.size=s.size:=rfl
  have l0:(0:Int)<=(k:Int):=by omega
  have l1:(k:Int)<(s.size:Int):=by omega
  have hB:=st.b;have HZ:Hd ((s[k].toNat:Int)=bz s k):=by
   show _=_;unfold bz;rw[List.getD,List.getElem?_eq_getElem (by simpa using hlt)];rfl
  go_wp2_with (first|(refine dA rfl _ _ rfl _ (5+k) (s[k].toNat:Int) rfl rfl hB (by omega) ?_))
  intro w4 hB4 ke;have ij:O7 w ino s G (LA s ino (k+1)) w4:=st.only (hB4.congr λj _=>by rw[HZ.Z];exact FW s ino k j) ke;clear st hB hB4 ke c1;go_wp2_with fail;go_roundw
  case rel=>(try((repeat apply Exists.intro);refine⟨?_,rfl⟩));exact⟨k+1,by omega,by go_num,ij⟩
  simp[intOf];omega
 obtain rfl:k=s.size:=by omega
 have fin:Hd (∃g,w.heap.size<=g/\(Ending.returned (.slice (some ⟨G,0,none⟩) 32 32))= .returned (.slice (some ⟨g,0,none⟩) 32 32)/\aU wr g 5 32 (bS ino s)/\Below w.heap.size w wr):=⟨G,by have:=st.ge;omega,rfl,by rw[HB.Z];exact st.b,st.bel⟩;go_wp2_with fail;go_ret;exact fin.Z
namespace Tb
end Tb
section
variable {w:World} {t:Tr} {ca:Option Addr} {cc:Nat} {ra:Option Addr} {rc:Nat} {la:Option Addr} {cnt lc:Nat} {W W':World}
end
def chF(xb xt xo:Nat->Int)(i:Nat):List Value:=[.int .i64 (xb i),.int .i64 (xt i),.int .u8 (xo i)]
theorem au.take{W:World}{a:Option Addr}{n cap:Nat}(h:au W base e m (.slice a n cap) n f)(hf:∀i,(f i).length=m)(hk:k<=n):au W base e m (.slice a k cap) k f:=by
 refine⟨di hf k,?_⟩;rcases h.2 with⟨hv,h0⟩|⟨g,cap',cur,hv,hb,hg,hn,hc,hs,ht⟩
 ·injection hv with h1 h2 h3
  have ku:k=0:=by omega
  subst h1 h3 ku;exact .inl ⟨rfl,rfl⟩
 injection hv with h1 h2 h3
 subst h1 h3;refine .inr ⟨g,cap,cur,rfl,hb,hg,by omega,hc,hs,?_⟩;have h1:k*m<=n*m:=Nat.mul_le_mul_right m hk;have h2:cur.toList.take (k*m)=(Cs f n).take (k*m):=by rw[<-ht,List.take_take,Nat.min_eq_left h1]
 rw[h2];have h3:Cs f n=Cs f k++Cs (λi=>f (k+i)) (n-k):=by rw[xg];congr 1;omega
 rw[h3,List.take_left' (di hf k)]
end Go.Proofs.YtphamecphmbipaaGreatDoor
