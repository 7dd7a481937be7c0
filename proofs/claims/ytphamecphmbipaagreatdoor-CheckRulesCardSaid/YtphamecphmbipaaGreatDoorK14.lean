/- Texts of this claim, merged. -/
import Derived.Test.YtphamecphmbipaaGreatDoorK13
import Derived.ChangeOld
import Derived.Deep.Slices
import Derived.ChangeSlices
import Derived.LaidMore
import Derived.MakeChecks
import Derived.Lib.LaidTab
import Derived.Laws.BytesArg
import Derived.WalkMore
set_option linter.unusedVariables false
set_option maxRecDepth 100000
set_option maxHeartbeats 16000000

namespace Go.Proofs.YtphamecphmbipaaGreatDoor
open Go.RowKit
open Lib (hid)
variable {k b off g:Nat} {fn:Func} {p:Tmp} {T:TypeId} {w W':World} {N M:Nat->ByteArray} {J z:Nat->Int} {s:ByteArray} {P:Program}
section
variable {P:Program} {W:World} {base:Nat} {t:TypeId} {v:Value}
theorem x9{u:TypeId}{k:IntKind}{c:Value}(hu:P.underlying u=some (.int k))(h:Cell.okWide P W .any base u c):∃n,c= .int k n/\k.has n:=by
 unfold Cell.okWide at h;rw[hu] at h;unfold Cell.ok at h;rw[hu] at h;cases c<;>simp at h ⊢
 obtain⟨rfl,h⟩:=h;exact⟨_,⟨rfl,rfl⟩,h⟩
theorem open_i{k:IntKind}(hu:P.underlying t=some (.int k))(h:Value.okWide P W .any base t v):∃n,v= .int k n/\k.min<=n/\n<=k.max:=by
 unfold Value.okWide at h;rw[hu] at h;exact x9 hu h
end
section
open Go.ChangeShapes Go.WideShapes Go.ChangeAt Go.Deep
theorem tab_of_laid{W:World}(h:laidMetH Tryz.prog [("quern/crc.steps",Rows.laid_quern_crc_steps)] W):Tab W:=by
 rw[MakeChecks.laidMetH_plain _ _ _ (by kernel_rfl)] at h;have hT:=Lib.tabIs_of_head (zs:=sP.map λ(x:Nat)=>(x:Int)) (k:=.u32) (g:=0) (by kernel_rfl) (by kernel_rfl) Tryz.underlying224 Tryz.underlying45 (by kernel_rfl) (by kernel_rfl) h;intro i hi;have:=hT.cell (g:=0) (by kernel_rfl) i (by simpa[sP] using hi);rw[this];have key:∀i,i<16->(sP.map λ(x:Nat)=>(x:Int)).getD i 0=((sP.getD i 0:Nat):Int):=by decide
 rw[key i hi]
theorem door_met(os:Os)(args:Array Value):laidMetH Tryz.prog [("quern/crc.steps",Rows.laid_quern_crc_steps)] ((World.doorLaid Tryz.prog 14 os).forCall (λ_ _=>0) ⟨#[],args,[]⟩).memory:=
 laidMetH_of_parts3 (fuel:=8) (laidMet_of_run' 8 (by kernel_rfl) (by kernel_rfl)) (by kernel_rfl) (by kernel_rfl)
end
def sl(z:Nat->Int)(i:Nat):Nat->Int:=λj=>z (32*i+j)
def bL(y:Nat->Int):Int:=b9 y 0
def dk(y:Nat->Int):Nat:=(y 4).toNat
def sA(y:Nat->Int):ByteArray:=strOfNums ((List.range (dk y)).map λj=>y (5+j))
def lT(y:Nat->Int):Bool:=if bL y=0 then de y 32 else decide (dk y<=27)&&(de (λj=>y (5+dk y+j)) (27-dk y)&&eD (sA y))
def CD(y:Nat->Int):Int:=if lT y then bL y else 0
def CC(y:Nat->Int):ByteArray:=if lT y&&bL y !=0 then sA y else ByteArray.empty
abbrev sv(i:Int)(s:ByteArray):Value:=.agg #[.int .u32 i,.string s]
theorem lu(W:World):(zeroValue 90).run Tryz.prog W= .ok (sv 0 ByteArray.empty) W:=by kernel_rfl
theorem dZ(i:Int)(s:ByteArray):(Tryz.prog.info? 90).map (·.size)=some (#[Value.int .u32 i,.string s]:Array Value).size:=by kernel_rfl
theorem fD(i:Int)(s:ByteArray):(#[Value.int .u32 i,.string s]:Array Value).all (·.oneCell')=true:=by simp[Value.oneCell']
theorem fB{u:Tmp}(h:fn.results= #[.cell p 90,.tmp u])(tmps:Array Value)(w:World)(g:Nat)(i:Int)(s:ByteArray)
  (hp:tmps.getD p undef= .pointer (some ⟨g,0,none⟩)) (hg:At w g 90 #[.int .u32 i,.string s]):(results fn tmps).run Tryz.prog w= .ok (.tuple #[sv i s,tmps.getD u undef]) w:=
 bH h tmps w g 90 _ (0,0) _ hp hg Tryz.underlying90 rfl (dZ _ _)
theorem J2(g i:Nat)(hi:i<8)(w:World):Calls Tryz.prog 139 #[.pointer (some ⟨g,0,none⟩),.int .i64 (i:Int)] w λe w'=>e= .returned (.slice (some ⟨g,32*i,none⟩) 32 32)/\w=w':=by
 have hsl:∀W,(Instr.sliceAt 32 (.pointer (some ⟨g,0,none⟩)) (some (.int .i64 (32*(i:Int)))) (some (.int .i64 (32*((i:Int)+1)))) (some (.int .i64 (32*((i:Int)+1))))).run Tryz.prog W= .ok (.slice (some ⟨g,32*i,none⟩) 32 32) W:=λW=>by
  have hal:Tryz.prog.arrayLen 32=256:=by kernel_rfl
  have hsz:∀W,(Go.sizeOf (Tryz.prog.elem 32)).run Tryz.prog W= .ok 1 W:=λW=>by kernel_rfl
  rw[run_sliceAt_array_lhm W 32 _ (by kernel_rfl) .i64 .i64 .i64 _ _ _ (by omega) (by omega) (by omega) (by rw[hal];omega),hsz];simp only[Result.andThen,slicedAt,Nat.mul_one];rw[show(32*(i:Int)).toNat=32*i by omega,show(32*((i:Int)+1)).toNat=32*i+32 by omega,if_neg (by omega),bh];simp only[Nat.zero_add,show 32*i+32-32*i=32 by omega]
 go_enter Tryz.func139,Tryz.ntmps139;go_wp2_with fail;go_ret;exact⟨rfl,rfl⟩
theorem EN(g i:Nat)(hi:i<8)(z:Nat->Int)(hz:bm z)(w:World)(hB:aQ w g T 256 z):
  Calls Tryz.prog 138 #[.slice (some ⟨g,32*i,none⟩) 32 32] w λe w'=>e= .returned (.tuple #[sv (CD (sl z i)) (CC (sl z i)),.bool (lT (sl z i))])/\Below w.heap.size w w':=by
 have hal:=lu;have hB0:Hid (aQ (w.alloc (.cells #[.int .u32 0,.string ByteArray.empty] 90)) g T 256 z):=hB.alloc _;have hA0:Hid (At (w.alloc (.cells #[.int .u32 0,.string ByteArray.empty] 90)) w.heap.size 90 #[.int .u32 0,.string ByteArray.empty]):=At.new _ _ _;have tZ:Hid (Below w.heap.size w (w.alloc (.cells #[.int .u32 0,.string ByteArray.empty] 90))):=(Below.refl _ _).alloc (Nat.le_refl _) _;have vS:=hB.lt;clear hB;generalize hy:sl z i=y;have hseg:Hid (Seg (w.alloc (.cells #[.int .u32 0,.string ByteArray.empty] 90)) g (32*i) 32 y):=by
  have:=hB0.out.bI.sub (32*i) 32 (by omega);rw[Nat.zero_add] at this;rw[<-hy];exact this
 have wM:bm y:=by rw[<-hy];exactλj=>hz _
 clear hy hB0;go_enter Tryz.func138,Tryz.ntmps138;go_wp2_with fail;have hget:=g7 g (32*i) 32 32 0 y _ (by decide) (by decide) (by decide) hseg.out wM;refine(hget.mono (R':=λe w'=>e= .returned (.tuple #[.int .u32 (bL y),.bool true])/\Seg w' g (32*i) 32 y/\At w' w.heap.size 90 #[.int .u32 0,.string ByteArray.empty]/\Below w.heap.size w w') (λe w' h=>⟨h.1,h.2▸hseg.out,h.2▸hA0.out,h.2▸tZ.out⟩)).mono ?_;rintro e w1 ⟨rfl,hs,hA,hL⟩;clear hseg hA0 tZ hget hal;have hI:=dA wM 0
 by_cases h0:bL y=0
 ·have HO:Hid (lT y=de y 32):=by show _=_;unfold lT;rw[if_pos h0]
  have HI:Hid (bL y=0):=h0;rw[h0];clear h0;go_wp2_with fail;refine(mV _ 32 32 y _ (by decide) (.inr ⟨_,_,rfl,hs⟩)).mono ?_;rintro e w2 ⟨rfl,rfl⟩;go_wp2_with (first|(refine ax rfl 90 _ _ rfl _ _ _ rfl rfl hA (dZ _ _) rfl (fD _ _) ?_))
  intro w2 sD er;go_wp2_with fail;exact bodyPost_ret (fB rfl _ _ w.heap.size _ _ rfl sD) rfl ⟨by rw[CD,CC,HO.out,HI.out];cases de y 32<;>rfl,hL.trans (er.below (Nat.le_refl _))⟩
 have hlen:y 4=(dk y:Int):=by have:=wM 4;unfold dk;omega
 have hlb:dk y<256:=by have:=wM 4;unfold dk;omega
 have HO:Hid (lT y=(decide (dk y<=27)&&(de (λj=>y (5+dk y+j)) (27-dk y)&&eD (sA y)))):=by show _=_;unfold lT;rw[if_neg h0]
 have HI:Hid (bL y≠0):=h0;have q0:(bL y==0)=false:=by simpa using h0
 have c4:w1.cell? ⟨g,32*i+4,none⟩=some (.int .u8 (dk y:Int)):=by rw[<-hlen];exact hs 4 (by omega)
 clear h0 hlen;have zd:Hid (sA y=strOfNums ((List.range (dk y)).map λj=>y (5+j))):=rfl;generalize hn:dk y=n at*
 by_cases BK:n<=27
 rotate_left
 ·have HN:Hid (lT y=false):=by show _=_;rw[HO.out,decide_eq_false BK];rfl
  have d1:(32:Int)<5+(n:Int):=by omega
  go_wp2_with (first|(refine ax rfl 90 _ _ rfl _ _ _ rfl rfl hA (dZ _ _) rfl (fD _ _) ?_))
  intro w2 sD er;go_wp2_with fail;exact bodyPost_ret (fB rfl _ _ w.heap.size _ _ rfl sD) rfl ⟨by rw[CD,CC,HN.out];rfl,hL.trans (er.below (Nat.le_refl _))⟩
 have d1:¬(32:Int)<5+(n:Int):=by omega
 have hrow:Row w1 (some ⟨g,32*i,none⟩) 32 y:=.inr ⟨_,_,rfl,hs⟩;have hsl:=λW=>qK (some ⟨g,32*i,none⟩) 32 32 (5+n) (5+(n:Int)) (by omega) (by omega) W
 have hrs:Hid (Row w1 (zM (some ⟨g,32*i,none⟩) (5+n) 32) (32-(5+n)) (λj=>y (5+n+j))):=hrow.slice (by omega) (by omega);clear hrow;go_wp2_with fail;refine(mV _ _ _ _ _ (by omega) (by exact hrs.out)).mono ?_;rintro e w2 ⟨rfl,rfl⟩;clear hsl hrs;rw[show 32-(5+n)=27-n by omega];cases hzz:de (λj=>y (5+n+j)) (27-n) with
 |false=>
  have HN:Hid (lT y=false):=by show _=_;rw[HO.out,hzz];simp
  clear hzz;go_wp2_with (first|(refine ax rfl 90 _ _ rfl _ _ _ rfl rfl hA (dZ _ _) rfl (fD _ _) ?_))
  intro w2 sD er;go_wp2_with fail;exact bodyPost_ret (fB rfl _ _ w.heap.size _ _ rfl sD) rfl ⟨by rw[CD,CC,HN.out];rfl,hL.trans (er.below (Nat.le_refl _))⟩
 |true=>
 have HO2:Hid (lT y=eD (sA y)):=by show _=_;rw[HO.out,hzz,decide_eq_true BK];rfl
 clear hzz HO;have hsl:∀W,(Instr.slice 119 (.slice (some ⟨g,32*i,none⟩) 32 32) (some (.int .i64 5)) (some (.int .i64 (5+(n:Int)))) none).run Tryz.prog W= .ok (.slice (some ⟨g,32*i+5,none⟩) n 27) W:=λW=>by
  have hsz:∀W,(Go.sizeOf 5).run Tryz.prog W= .ok 1 W:=λW=>by kernel_rfl
  rw[run_slice_lh W 119 _ 32 32 (by kernel_rfl) .i64 .i64 5 (5+(n:Int)) (by omega) (by omega) (by omega),show Tryz.prog.elem 119=5 from by kernel_rfl,hsz];simp only[Result.andThen,sliced,Nat.mul_one];rw[show(5+(n:Int)).toNat=5+n by omega];simp[bh]
 have hcv:∀dst,Tryz.prog.underlying dst=some .string->(convert 119 dst (.slice (some ⟨g,32*i+5,none⟩) n 27)).run Tryz.prog w1= .ok (.string (sA y)) w1:=by
  rw[zd.out];exact run_convert_bytes_arg w1 119 5 Tryz.underlying119 Tryz.underlying5 g (32*i+5) n 27 _ (by simp) (λj hj=>by
   have:=hs (5+j) (by omega);rw[Nat.add_assoc,this];simp[List.getD,hj])
 have JC:=hcv 9 Tryz.underlying9;have acM:(sA y).size=n:=by rw[zd.out,strOfNums_size];simp
 generalize Yy:sA y=s at*;have HSN:Hid (sA y=s):=Yy;clear hcv Yy;go_wp2_with fail;refine(x3 s (by omega) _).mono ?_;rintro e w2 ⟨rfl,rfl⟩;clear hsl JC;cases hm:eD s with
 |false=>
  have HN:Hid (lT y=false):=by show _=_;rw[HO2.out,hm]
  clear hm;go_wp2_with (first|(refine ax rfl 90 _ _ rfl _ _ _ rfl rfl hA (dZ _ _) rfl (fD _ _) ?_))
  intro w2 sD er;go_wp2_with fail;exact bodyPost_ret (fB rfl _ _ w.heap.size _ _ rfl sD) rfl ⟨by rw[CD,CC,HN.out];rfl,hL.trans (er.below (Nat.le_refl _))⟩
 |true=>
 have HY:Hid (lT y=true):=by show _=_;rw[HO2.out,hm]
 have HQ:=hid q0;clear hm;go_wp2_with (first|(refine ax rfl 90 _ _ rfl _ _ _ rfl rfl hA (dZ _ _) rfl (fD _ _) ?_))
 intro w2 sD er;go_wp2_with fail;exact bodyPost_ret (fB rfl _ _ w.heap.size _ _ rfl sD) rfl ⟨by rw[CD,CC,HY.out,bne,HQ.out,HSN.out];rfl,hL.trans (er.below (Nat.le_refl _))⟩
def lh(w:World)(b off n:Nat)(I:Nat->Int)(N:Nat->ByteArray):Prop:=∀i,i<n->w.cell? ⟨b,off+i*2,none⟩=some (.int .u32 (I i))/\w.cell? ⟨b,off+i*2+1,none⟩=some (.string (N i))
def GO(w:World)(a:Option Addr)(n:Nat)(I:Nat->Int)(N:Nat->ByteArray):Prop:=n=0\/∃b off,a=some ⟨b,off,none⟩/\lh w b off n I N
theorem lh.below{w':World}{n:Nat}{I:Nat->Int}(h:lh w b off n I N){B:Nat}(hb:Below B w w')(hB:b<B):lh w' b off n I N:=
 λi hi=>⟨(hb.cell (p:=⟨b,off+i*2,none⟩) hB).trans (h i hi).1,(hb.cell (p:=⟨b,off+i*2+1,none⟩) hB).trans (h i hi).2⟩
theorem lh.lt{n:Nat}{I:Nat->Int}(h:lh w b off n I N)(hn:0<n):b<w.heap.size:=World.block_lt_of_cell? w _ (h 0 hn).1
theorem lh.range{n:Nat}{I:Nat->Int}(h:lh w b off n I N)(i:Nat)(hi:i<n):w.rangeAt b (off+i*2) [.int .u32 (I i),.string (N i)]:=by
 intro j v hj;rcases j with _|_|j
 ·cases hj;exact(h i hi).1
 ·cases hj;exact(h i hi).2
 ·cases hj
def fZ(I:Nat->Int)(N:Nat->ByteArray)(s:ByteArray)(i:Nat):Bool:=I i !=0&&(N i).data.toList==s.data.toList
def cW(p:Nat->Bool):Nat->Int
 |0=> -1
 |n+1=>if cW p n= -1 then(if p n then(n:Int) else -1) else cW p n
theorem iS{p:Nat->Bool}{n:Nat}(h:∀i,i<n->p i=false):cW p n= -1:=by
 induction n with
 |zero=>rfl
 |succ n ih=>unfold cW;rw[ih λi hi=>h i (by omega),h n (by omega)];rfl
theorem rR{p:Nat->Bool}{n:Nat}(hk:k<n)(h:∀i,i<k->p i=false)(hp:p k=true):cW p n=(k:Int):=by
 induction n with
 |zero=>omega
 |succ n ih=>
  unfold cW
  by_cases hkn:k<n
  ·rw[ih hkn,if_neg (by omega)]
  ·obtain rfl:k=n:=by omega
   rw[iS h,hp];rfl
theorem nO(p:Nat->Bool)(n:Nat):(cW p n= -1/\∀i,i<n->p i=false)\/∃k,k<n/\cW p n=(k:Int)/\p k=true/\∀i,i<k->p i=false:=by
 induction n with
 |zero=>exact .inl ⟨rfl,λi hi=>by omega⟩
 |succ n ih=>
  rcases ih with⟨h1,h2⟩|⟨k,hk,h1,h2,h3⟩
  ·cases hp:p n with
   |false=>exact .inl ⟨by unfold cW;rw[h1,hp];rfl,λi hi=>by
     by_cases e:i=n
     ·rw[e];exact hp
     ·exact h2 i (by omega)⟩
   |true=>exact .inr ⟨n,by omega,by unfold cW;rw[h1,hp];rfl,hp,h2⟩
  ·exact .inr ⟨k,by omega,by unfold cW;rw[h1,if_neg (by omega)],h2,h3⟩
theorem C7(a:Option Addr)(n cap:Nat)(I:Nat->Int)(N:Nat->ByteArray)(s:ByteArray)(hn:(n:Int)<=9223372036854775807)(w:World)(hs:GO w a n I N):
  Calls Tryz.prog 140 #[.slice a n cap,.string s] w λe w'=>e= .returned (.int .i64 (cW (fZ I N s) n))/\Below w.heap.size w w':=by
 have HS:=hid hs;clear hs;go_enter Tryz.func140,Tryz.ntmps140;go_wp2_with fail
 go_step3
 go_wp2_with fail
 go_step3
 go_wp2_with fail;have hal:=lu;go_loopw [5,10] (λv u wr=>∃k:Nat,k<=n/\v= .int .i64 (-1)/\u= .int .i64 (k:Int)/\Hid (∀i,i<k->fZ I N s i=false)/\Below w.heap.size w wr) (λ_ u _=>n-(intOf u).toNat)
 case atStart=>exact⟨0,by omega,rfl,rfl,λi hi=>by omega,Below.refl _ _⟩
 case round=>
  obtain⟨k,hk,rfl,rfl,ct,hb⟩:=hrel
  by_cases hlt:k<n
  ·obtain⟨b,off,rfl,hseg⟩:∃b off,a=some ⟨b,off,none⟩/\lh w b off n I N:=by
    rcases HS.out with h|h
    ·omega
    ·exact h
   have hr:=(hseg.below hb (hseg.lt (by omega))).range k hlt;have hA0:=At.new wr 90 #[.int .u32 0,.string ByteArray.empty];go_wp2_with (first|(refine wpList_load_mid rfl 90 _ rfl _ _ rfl _ _ hr Tryz.underlying90 rfl (by kernel_rfl) ?_)|(refine ax rfl 90 _ _ rfl _ #[.int .u32 (I k),.string (N k)] _ rfl rfl hA0 (dZ _ _) rfl (fD _ _) ?_))
   intro w2 sD er;have hb2:Below w.heap.size w w2:=(hb.alloc hb.size _).trans (er.below hb.size);have c0:=sD.cell (i:=0) rfl;have c1:=sD.cell (i:=1) rfl;clear hr hA0 hb er;have HH:Hid (fZ I N s k=(I k !=0&&(N k).toList==s.toList)):=by show _=_;unfold fZ;rw[ByteArray.toList_eq,ByteArray.toList_eq]
   have c0':w2.cell? ⟨wr.heap.size,0,none⟩=some (.int .u32 (I k)):=c0;have c1':w2.cell? ⟨wr.heap.size,1,none⟩=some (.string (N k)):=c1;clear c0 c1;have hnx:Hid (fZ I N s k=false->∀i,i<k+1->fZ I N s i=false):=λh i hi=>by
    by_cases e:i=k
    ·rw[e];exact h
    ·exact ct.out i (by omega)
   cases h1:(I k !=0) with
   |false=>
    have wJ:Hid (∀i,i<k+1->fZ I N s i=false):=hnx.out (by rw[HH.out,h1];rfl);clear hnx HH;go_wp2_with fail;go_roundw
    case rel=>(try((repeat apply Exists.intro);refine⟨?_,rfl⟩));exact⟨k+1,by omega,rfl,by go_num,wJ,hb2⟩
    case measure=>simp[intOf];omega
   |true=>
   cases h2:((N k).toList==s.toList) with
   |false=>
    have wJ:Hid (∀i,i<k+1->fZ I N s i=false):=hnx.out (by rw[HH.out,h1,h2];rfl);clear hnx HH;go_wp2_with fail;go_roundw
    case rel=>(try((repeat apply Exists.intro);refine⟨?_,rfl⟩));exact⟨k+1,by omega,rfl,by go_num,wJ,hb2⟩
    case measure=>simp[intOf];omega
   |true=>
    have HF:Hid (cW (fZ I N s) n=(k:Int)):=rR hlt ct.out (by rw[HH.out,h1,h2];rfl);clear hnx HH;go_wp2_with fail
    try rw[Exit.noGoto_ret]
    go_ret;exact⟨by rw[HF.out];rfl,hb2⟩
  ·obtain rfl:k=n:=by omega
   have HF:Hid (cW (fZ I N s) k= -1):=iS ct.out;go_wp2_with fail
   try rw[Exit.noGoto_ret]
   go_ret;exact⟨by rw[HF.out];rfl,hb⟩
def Sc(I:Nat->Int)(N:Nat->ByteArray):Nat->List Value
 |0=>[]
 |k+1=>Sc I N k++[.int .u32 (I k),.string (N k)]
theorem eH(I:Nat->Int)(N:Nat->ByteArray)(k:Nat):(Sc I N k).length=k*2:=by
 induction k with
 |zero=>rfl
 |succ k ih=>simp[Sc,ih];omega
theorem AY(I:Nat->Int)(N:Nat->ByteArray)(k i:Nat)(hi:i<k):(Sc I N k)[i*2]? =some (.int .u32 (I i))/\(Sc I N k)[i*2+1]? =some (.string (N i)):=by
 induction k with
 |zero=>omega
 |succ k ih=>
  unfold Sc
  by_cases h:i<k
  ·obtain⟨h1,h2⟩:=ih h
   rw[List.getElem?_append_left (by rw[eH];omega),List.getElem?_append_left (by rw[eH];omega)];exact⟨h1,h2⟩
  ·obtain rfl:i=k:=by omega
   rw[List.getElem?_append_right (by rw[eH];omega),List.getElem?_append_right (by rw[eH];omega),eH];simp
theorem so{I:Nat->Int}(h:∀i,i<k->I i=J i/\N i=M i):Sc I N k=Sc J M k:=by
 induction k with
 |zero=>rfl
 |succ k ih=>unfold Sc;rw[ih λi hi=>h i (by omega),(h k (by omega)).1,(h k (by omega)).2]
theorem N5(I:Nat->Int)(N:Nat->ByteArray)(k:Nat):∀v∈Sc I N k,v.oneCell'=true:=by
 induction k with
 |zero=>intro v hv;cases hv
 |succ k ih=>
  intro v hv;unfold Sc at hv;rcases List.mem_append.1 hv with h|h
  ·exact ih v h
  ·simp only[List.mem_cons,List.not_mem_nil,or_false] at h
   rcases h with rfl|rfl<;>rfl
def K5:Nat->Int:=λ_=>0
def K4:Nat->ByteArray:=λ_=>ByteArray.empty
def dI(z:Nat->Int):Nat->Int:=λi=>CD (sl z i)
def dM(z:Nat->Int):Nat->ByteArray:=λi=>CC (sl z i)
def Bk(z:Nat->Int):Nat->Bool
 |0=>true
 |k+1=>Bk z k&&(lT (sl z k)&&(dI z k==0||cW (fZ (dI z) (dM z) (dM z k)) k== -1))
def iI(z:Nat->Int):Bool:=Bk z 8
theorem dR(z:Nat->Int)(k:Nat):Bk z (k+1)=(Bk z k&&(lT (sl z k)&&(dI z k==0||cW (fZ (dI z) (dM z) (dM z k)) k== -1))):=rfl
theorem mo{n:Nat}(hk:k<n)(h:Bk z (k+1)=false):Bk z n=false:=by
 induction n with
 |zero=>omega
 |succ n ih=>
  by_cases e:k=n
  ·rw[<-e];exact h
  ·rw[dR,ih (by omega)];rfl
def CE(z:Nat->Int):Nat->Int:=λi=>if iI z then dI z i else 0
def D8(z:Nat->Int):Nat->ByteArray:=λi=>if iI z then dM z i else ByteArray.empty
def Hd(z:Nat->Int)(k:Nat):Nat->Int:=λi=>if i<k then dI z i else 0
def Hc(z:Nat->Int)(k:Nat):Nat->ByteArray:=λi=>if i<k then dM z i else ByteArray.empty
theorem qk(W:World):(zeroValue 172).run Tryz.prog W= .ok (.agg (Sc K5 K4 8).toArray) W:=by kernel_rfl
theorem fk(I:Nat->Int)(N:Nat->ByteArray):(Tryz.prog.info? 172).map (·.size)=some (Sc I N 8).toArray.size:=by
 rw[show(Sc I N 8).toArray.size=16 by simp[eH]];kernel_rfl
theorem jt(I:Nat->Int)(N:Nat->ByteArray):(Sc I N 8).toArray.all (·.oneCell')=true:=all_oneCell_toArray (N5 I N 8)
theorem At.tE{I:Nat->Int}{n:Nat}(h:At w g T (Sc I N n).toArray):lh w g 0 n I N:=λi hi=>by
 obtain⟨h1,h2⟩:=AY I N n i hi;rw[Nat.zero_add];exact⟨ay h (by simpa using h1),ay h (by simpa using h2)⟩
theorem At.re{c:Array Value}{l:List Value}(h:w.heap[g]? =some (.cells c T (0,0)))(hs:c.size=l.length)(hc:∀i v,l[i]? =some v->w.cell? ⟨g,i,none⟩=some v):At w g T l.toArray:=by
 have:c=l.toArray:=by
  apply Array.ext_getElem?;intro i
  by_cases hi:i<c.size
  ·have h1:=ay h (Array.getElem?_eq_getElem hi)
   have hil:i<l.length:=by omega
   have h2:=hc i l[i] (List.getElem?_eq_getElem hil);rw[h1] at h2;rw[Array.getElem?_eq_getElem hi,h2];simp[hil]
  ·rw[Array.getElem?_eq_none (by omega)]
   symm;simp;omega
 rw[this] at h;exact h
theorem At.IB{I:Nat->Int}{n:Nat}(h:At w g T (Sc I N n).toArray)(i:Nat)(hi:i<n)(hs:∀j,j<n->j≠i->I j=J j/\N j=M j):
  At (w.setCells g (i*2) [.int .u32 (J i),.string (M i)]) g T (Sc J M n).toArray/\an g w (w.setCells g (i*2) [.int .u32 (J i),.string (M i)]):=by
 have ho:an g w (w.setCells g (i*2) [.int .u32 (J i),.string (M i)]):=(an.setCell w ⟨g,i*2,none⟩ _).trans (an.setCell _ ⟨g,i*2+1,none⟩ _);refine⟨?_,ho⟩;obtain⟨c,hcs,hc⟩:=ho.shape _ _ _ h;refine At.re hc (by rw[hcs];simp[eH]) λj v hj=> ?_
 have hjl:j<n*2:=by have:=(List.getElem?_eq_some_iff.1 hj).1;rwa[eH] at this
 have hsl:=h.tE;have gn:∀x,x<2->(w.cell? ⟨g,i*2+x,none⟩).isSome=true:=λx hx=>by
  obtain⟨h1,h2⟩:=hsl i hi;rw[Nat.zero_add] at h1 h2;rcases x with _|_|x
  ·rw[show i*2+0=i*2 from rfl,h1];rfl
  ·rw[h2];rfl
  ·omega
 obtain⟨q,hq⟩:∃q,j=q*2\/j=q*2+1:=⟨j/2,by omega⟩;have Qw:q<n:=by omega
 obtain⟨s1,s2⟩:=AY J M n q Qw;obtain⟨o1,o2⟩:=hsl q Qw;rw[Nat.zero_add] at o1 o2
 by_cases SX:q=i
 ·subst SX
  rcases hq with rfl|rfl
  ·rw[s1] at hj;cases hj
   have:=World.cell?_setCells_in g [.int .u32 (J q),.string (M q)] (q*2) w gn 0 (by simp);exact this
  ·rw[s2] at hj;cases hj
   have:=World.cell?_setCells_in g [.int .u32 (J q),.string (M q)] (q*2) w gn 1 (by simp);exact this
 ·obtain⟨e1,e2⟩:=hs q Qw SX
  rw[World.cell?_setCells_out g _ (i*2) w ⟨g,j,none⟩ (λ_=>by simp;omega)];rcases hq with rfl|rfl
  ·rw[s1] at hj;cases hj;rw[<-e1];exact o1
  ·rw[s2] at hj;cases hj;rw[<-e2];exact o2
structure DV(w:World)(g:Nat)(T:TypeId)(z:Nat->Int)(k:Nat)(W:World):Prop where
 b:aQ W g T 256 z
 r:At W w.heap.size 172 (Sc (Hd z k) (Hc z k) 8).toArray
 bel:Below w.heap.size w W
theorem DV.below{W:World}(h:DV w g T z k W)(hb:Below W.heap.size W W'):DV w g T z k W':=⟨h.b.below hb h.b.lt,h.r.below hb h.r.lt,h.bel.trans (hb.mono h.bel.size)⟩
theorem iV(I:Nat->Int)(N:Nat->ByteArray)(k:Nat):(Sc I N k).toArray.size=k*2:=by simp[eH]
theorem iZ{u:Tmp}(h:fn.results= #[.cell p 172,.tmp u])(tmps:Array Value)(w:World)(g:Nat)(I:Nat->Int)(N:Nat->ByteArray)
  (hp:tmps.getD p undef= .pointer (some ⟨g,0,none⟩)) (hg:At w g 172 (Sc I N 8).toArray):(results fn tmps).run Tryz.prog w= .ok (.tuple #[.agg (Sc I N 8).toArray,tmps.getD u undef]) w:=
 bH h tmps w g 172 _ (0,0) _ hp hg Tryz.underlying172 rfl (fk _ _)
theorem E7(g:Nat)(z:Nat->Int)(hz:bm z)(w:World)(hB:aQ w g T 256 z):
  Calls Tryz.prog 95 #[.pointer (some ⟨g,0,none⟩)] w λe w'=>e= .returned (.tuple #[.agg (Sc (CE z) (D8 z) 8).toArray,.bool (iI z)])/\Below w.heap.size w w':=by
 have hal:=qk;have HB:=hid hB;clear hB;go_enter Tryz.func95,Tryz.ntmps95;go_wp2_with fail;have vS:=HB.out.lt;have st0:DV w g T z 0 (w.alloc (.cells (Sc K5 K4 8).toArray 172)):=⟨HB.out.alloc _,At.new _ _ _,(Below.refl _ _).alloc (Nat.le_refl _) _⟩;clear hal;go_loopw [5] (λu wr=>∃k:Nat,k<=8/\u= .int .i64 (k:Int)/\Hid (Bk z k=true)/\DV w g T z k wr) (λu _=>8-(intOf u).toNat)
 case atStart=>exact⟨0,by omega,rfl,rfl,st0⟩
 case round=>
  clear st0;obtain⟨k,hk,rfl,KC,st⟩:=hrel
  by_cases hlt:k<8
  ·go_wp2_with fail
   refine(J2 g k hlt _).mono ?_;rintro e w2 ⟨rfl,rfl⟩;go_wp2_with fail;refine(EN g k hlt z hz _ st.b).mono ?_;rintro e w3 ⟨rfl,hb3⟩;have fg:=st.below hb3;clear st hb3;have gn:w3.there w.heap.size (k*2) 2:=λj hj=>⟨by
    obtain⟨h1,h2⟩:=fg.r.tE k hlt;rw[Nat.zero_add] at h1 h2;rcases j with _|_|j
    ·rw[Nat.add_zero,h1];rfl
    ·rw[h2];rfl
    ·omega,ag fg.r _⟩
   obtain⟨vO,Eb⟩:=fg.r.IB (J:=Hd z (k+1)) (M:=Hc z (k+1)) k hlt (λj hj hne=>by
    unfold Hd Hc
    by_cases h:j<k
    ·rw[if_pos h,if_pos h,if_pos (by omega),if_pos (by omega)];exact⟨rfl,rfl⟩
    ·rw[if_neg h,if_neg h,if_neg (by omega),if_neg (by omega)];exact⟨rfl,rfl⟩)
   rw[show Hd z (k+1) k=dI z k by unfold Hd;rw[if_pos (by omega)],show Hc z (k+1) k=dM z k by unfold Hc;rw[if_pos (by omega)]] at vO Eb;have iF:Hid (DV w g T z (k+1) (w3.setCells w.heap.size (k*2) [.int .u32 (dI z k),.string (dM z k)])):=⟨fg.b.only Eb (by omega),vO,fg.bel.trans (Eb.below (Nat.le_refl _))⟩;clear vO Eb;have hno:Hid (iI z=false->Sc (CE z) (D8 z) 8=Sc K5 K4 8):=λh=>so λi _=>by unfold CE D8;rw[h];exact⟨rfl,rfl⟩
   cases hok:lT (sl z k) with
   |false=>
    have HD:Hid (iI z=false):=mo hlt (by rw[dR,hok];simp);have Sg:Hid (Sc (CE z) (D8 z) 8=Sc K5 K4 8):=hno.out HD.out;have hR:=iF.out.r;have hL:=iF.out.bel;clear hno hok;go_wp2_with (first|(refine wpList_store_mid rfl 90 _ _ rfl _ (k*2) #[.int .u32 (dI z k),.string (dM z k)] rfl rfl gn (dZ _ _) (fD _ _) ?_)|(refine ax rfl 172 _ _ rfl _ (Sc K5 K4 8).toArray _ rfl rfl hR (fk _ _) (by rw[iV,iV]) (jt _ _) ?_))
    intro w9 jf gD;go_wp2_with fail;exact bodyPost_ret (iZ rfl _ _ w.heap.size _ _ rfl jf) rfl ⟨by rw[HD.out,Sg.out];rfl,hL.trans (gD.below (Nat.le_refl _))⟩
   |true=>
   have mS:=hid hok;clear hok;go_wp2_with (first|(refine wpList_store_mid rfl 90 _ _ rfl _ (k*2) #[.int .u32 (dI z k),.string (dM z k)] rfl rfl gn (dZ _ _) (fD _ _) ?_))
   have eB:=iF.out;clear iF gn fg;generalize w3.setCells w.heap.size (k*2) [.int .u32 (dI z k),.string (dM z k)]=w5 at eB ⊢;have hc0:∀x:aT (DV w g T z (k+1)),x.W.cell? ⟨w.heap.size,k*2,none⟩=some (.int .u32 (dI z k)):=λx=>by
    have:=(x.h.r.tE k hlt).1;rw[Nat.zero_add] at this;rw[this];unfold Hd;rw[if_pos (by omega)]
   have hc1:∀x:aT (DV w g T z (k+1)),x.W.cell? ⟨w.heap.size,k*2+1,none⟩=some (.string (dM z k)):=λx=>by
    have:=(x.h.r.tE k hlt).2;rw[Nat.zero_add] at this;rw[this];unfold Hc;rw[if_pos (by omega)]
   have l0:(0:Int)<=(k:Int):=by omega
   have l1:(k:Int)<8:=by omega
   have hsl:∀W,(Instr.sliceAt 172 (.pointer (some ⟨w.heap.size,0,none⟩)) none (some (.int .i64 (k:Int))) none).run Tryz.prog W= .ok (.slice (some ⟨w.heap.size,0,none⟩) k 8) W:=λW=>by
    have hal:Tryz.prog.arrayLen 172=8:=by kernel_rfl
    have hsz:∀W,(Go.sizeOf (Tryz.prog.elem 172)).run Tryz.prog W= .ok 2 W:=λW=>by kernel_rfl
    rw[run_sliceAt_array_h W 172 _ (by kernel_rfl) .i64 (k:Int) (by omega) (by rw[hal];omega),hsz,hal];simp only[Result.andThen,slicedAt,Int.toNat_natCast];simp[bh]
   have hrow:Hid (∀W,DV w g T z (k+1) W->GO W (some ⟨w.heap.size,0,none⟩) k (dI z) (dM z)):=λW h=> .inr ⟨_,_,rfl,λi hi=>by
    have:=h.r.tE i (by omega);unfold Hd Hc at this;rw[if_pos (by omega),if_pos (by omega)] at this;exact this⟩
   cases hi0:(dI z k !=0) with
   |false=>
    have sr:Hid (Bk z (k+1)=true):=by
     show _=_;have e:(dI z k==0)=true:=by rw[bne] at hi0;simpa using hi0
     rw[dR,KC.out,mS.out,e];rfl
    refine ai (DV w g T z (k+1)) (by kernel_rfl) (by kernel_rfl) ⟨eB.b,eB.r,eB.bel.drew⟩ ?_;clear eB;intro hne
    repeat go_big_quiet_step (fail)
    refine wpQuiet_nil ?_;intro w6 h6;have eQ:=h6.out;clear h6 hne hc0 hc1 hsl;go_wp2_with fail;go_roundw
    case rel=>(try((repeat apply Exists.intro);refine⟨?_,rfl⟩));exact⟨k+1,by omega,by go_num,sr,eQ⟩
    case measure=>simp[intOf];omega
   |true=>
    have e0:Hid ((dI z k==0)=false):=by show _=_;rw[bne] at hi0;simpa using hi0
    have hfc:Hid (cW (fZ (dI z) (dM z) (dM z k)) k= -1\/0<=cW (fZ (dI z) (dM z) (dM z k)) k):=by
     rcases nO (fZ (dI z) (dM z) (dM z k)) k with h|⟨j,_,h,_⟩
     ·exact .inl h.1
     ·exact .inr (by omega)
    have HF:Hid (Bk z (k+1)=(cW (fZ (dI z) (dM z) (dM z k)) k== -1)):=by show _=_;rw[dR,KC.out,mS.out,e0.out];rfl
    have hcall:Hid (∀W,DV w g T z (k+1) W->Calls Tryz.prog 140 #[.slice (some ⟨w.heap.size,0,none⟩) k 8,.string (dM z k)] W λe w'=>e= .returned (.int .i64 (cW (fZ (dI z) (dM z) (dM z k)) k))/\DV w g T z (k+1) w'):=λW hW=>(C7 _ k 8 (dI z) (dM z) (dM z k) (by omega) W (hrow.out W hW)).mono λe w' h=>⟨h.1,hW.below h.2⟩
    generalize cW (fZ (dI z) (dM z) (dM z k)) k=f at*;refine ai (DV w g T z (k+1)) (by kernel_rfl) (by kernel_rfl) ⟨eB.b,eB.r,eB.bel.drew⟩ ?_;clear eB;intro hne
    repeat go_big_quiet_step (fail)
    go_big_quiet_want
    go_big_quiet_op
    refine⟨_,λs=>aG s (λW hW=>hcall.out W hW),?_⟩
    go_big_quiet_on
    repeat go_big_quiet_step (fail)
    refine wpQuiet_nil ?_;intro w6 h6;have eQ:=h6.out;clear h6 hne hc0 hc1 hsl;rcases hfc.out with hf|hf
    ·have sr:Hid (Bk z (k+1)=true):=by show _=_;rw[HF.out,hf];rfl
     have q:¬(0:Int)<=f:=by omega
     subst hf;go_wp2_with fail;go_roundw
     case rel=>(try((repeat apply Exists.intro);refine⟨?_,rfl⟩));exact⟨k+1,by omega,by go_num,sr,eQ⟩
     case measure=>simp[intOf];omega
    ·have HD:Hid (iI z=false):=mo hlt (by rw[HF.out];simp;omega)
     have Sg:Hid (Sc (CE z) (D8 z) 8=Sc K5 K4 8):=hno.out HD.out;have hR:=eQ.r;have hL:=eQ.bel;go_wp2_with (first|(refine ax rfl 172 _ _ rfl _ (Sc K5 K4 8).toArray _ rfl rfl hR (fk _ _) (by rw[iV,iV]) (jt _ _) ?_))
     intro w9 jf gD;go_wp2_with fail;exact bodyPost_ret (iZ rfl _ _ w.heap.size _ _ rfl jf) rfl ⟨by rw[HD.out,Sg.out];rfl,hL.trans (gD.below (Nat.le_refl _))⟩
  ·obtain rfl:k=8:=by omega
   have HD:Hid (iI z=true):=KC.out;have Sg:Hid (Sc (CE z) (D8 z) 8=Sc (Hd z 8) (Hc z 8) 8):=so λi hi=>by unfold CE D8 Hd Hc;rw[HD.out,if_pos hi,if_pos hi];exact⟨rfl,rfl⟩
   have hR:=st.r;go_wp2_with (first|(refine ar rfl 172 _ rfl _ _ _ rfl hR Tryz.underlying172 rfl (fk _ _) ?_)|(refine ax rfl 172 _ _ rfl _ (Sc (Hd z 8) (Hc z 8) 8).toArray _ rfl rfl hR (fk _ _) rfl (jt _ _) ?_))
   intro w9 jf gD;go_wp2_with fail;exact bodyPost_ret (iZ rfl _ _ w.heap.size _ _ rfl jf) rfl ⟨by rw[HD.out,Sg.out];rfl,st.bel.trans (gD.below (Nat.le_refl _))⟩
def fS(z:Nat->Int)(s:ByteArray):Int:=cW (fZ (CE z) (D8 z) s) 8
def y6(w:World)(z:Nat->Int)(e:Ending)(w':World):Prop:=
 Below w.heap.size w w'/\(iI z=false/\e= .returned (.tuple #[.slice none 0 0,.int .i64 80])\/
  iI z=true/\∃g,w.heap.size<=g/\e= .returned (.tuple #[.slice (some ⟨g,0,none⟩) 8 8,.int .i64 0])/\At w' g 172 (Sc (dI z) (dM z) 8).toArray)
theorem uW(g:Nat)(W:World):(Instr.sliceAt 172 (.pointer (some ⟨g,0,none⟩)) none none none).run Tryz.prog W= .ok (.slice (some ⟨g,0,none⟩) 8 8) W:=by kernel_rfl
theorem E6(h:iI z=true):Sc (CE z) (D8 z) 8=Sc (dI z) (dM z) 8:=so λi _=>by unfold CE D8;rw[h];exact⟨rfl,rfl⟩
theorem FF(z:Nat->Int)(hz:bm z)(w:World):Calls Tryz.prog 54 #[aL z] w (y6 w z):=by
 have hal:=qk;have hB:=aQ.new w 32 256 z;have hL:Below w.heap.size w (w.alloc (.cells (Ks .u8 256 z).toArray 32)):=(Below.refl _ _).alloc (Nat.le_refl _) _;have HB:=hid hB;have HL:=hid hL;clear hB hL;go_enter Tryz.func54,Tryz.ntmps54;go_wp2_with fail;refine(E7 w.heap.size z hz _ HB.out).mono ?_;rintro e w1 ⟨rfl,hb1⟩;have fR:Below w.heap.size w w1:=HL.out.trans (hb1.mono HL.out.size);have gJ:=At.new w1 172 (Sc K5 K4 8).toArray;clear HB HL hb1;have hsl:=λW=>uW w1.heap.size W
 cases hd:iI z with
 |false=>
  have HD:=hid hd;clear hd;go_wp2_with (first|(refine ax rfl 172 _ _ rfl _ (Sc (CE z) (D8 z) 8).toArray _ rfl rfl gJ (fk _ _) (by rw[iV,iV]) (jt _ _) ?_))
  intro w2 sD er;have hL2:Below w.heap.size w w2:=(fR.alloc fR.size _).trans (er.below fR.size);clear gJ fR er hal;go_wp2_with fail
  go_ret2
  exact⟨hL2,.inl ⟨HD.out,rfl⟩⟩
 |true=>
  have HD:=hid hd;clear hd;go_wp2_with (first|(refine ax rfl 172 _ _ rfl _ (Sc (CE z) (D8 z) 8).toArray _ rfl rfl gJ (fk _ _) (by rw[iV,iV]) (jt _ _) ?_))
  intro w2 sD er;have hL2:Below w.heap.size w w2:=(fR.alloc fR.size _).trans (er.below fR.size);have hfin:Hid (y6 w z (.returned (.tuple #[.slice (some ⟨w1.heap.size,0,none⟩) 8 8,.int .i64 0])) w2):=⟨hL2,.inr ⟨HD.out,_,fR.size,rfl,by rw[<-E6 HD.out];exact sD⟩⟩;clear gJ fR er hal;go_wp2_with fail
  go_ret2
  exact hfin.out
def bz(s:ByteArray):Nat->Int:=λj=>((s.data.toList.getD j 0).toNat:Int)
theorem NW(s:ByteArray):bm (bz s):=λj=>by unfold bz;have:=(s.data.toList.getD j 0).toNat_lt;omega
def I4(s:ByteArray)(ino:Int):Nat->Int:=λj=>if j<4 then byteOf ino j else if j=4 then(s.size:Int) else if j-5<s.size then bz s (j-5) else 0
def z8(z:Nat->Int)(i:Nat)(y:Nat->Int):Nat->Int:=over z (32*i) 32 y
def Ly(z:Nat->Int):Int:=cW (λi=>CE z i==0) 8
def RJ(z:Nat->Int)(s:ByteArray)(ino:Int):Int:=
 if iI z=false then 80 else if eD s=false\/ino=0\/fS z s≠ -1 then 2 else if Ly z= -1 then 4 else 0
def RI(z:Nat->Int)(s:ByteArray)(ino:Int):Nat->Int:=if RJ z s ino=0 then z8 z (Ly z).toNat (I4 s ino) else z
def Un(z:Nat->Int)(s:ByteArray):Bool:=fS z s != -1
def Um(z:Nat->Int)(s:ByteArray):Nat->Int:=if Un z s then z8 z (fS z s).toNat (λ_=>0) else z
theorem J7(ino:Int)(h:s.size<=27):bm (I4 s ino):=λj=>by
 unfold I4;split
 ·exact gg _ _
 ·split
  ·omega
  ·split
   ·exact NW s _
   ·decide
theorem GB:bm (λ_=>0):=λ_=>(by decide:(0:Int)<=0/\(0:Int)<256)
def Uk:ByteArray:=⟨#[97,98]⟩
def sC:ByteArray:=⟨#[99]⟩
def z0:Nat->Int:=λ_=>0
def z1:Nat->Int:=RI z0 Uk 7
def z2:Nat->Int:=RI z1 sC 8
def z3:Nat->Int:=Um z2 Uk
theorem a1:RJ z0 Uk 7=0:=by decide+kernel
def C5(l:List UInt8):Bool:=l.all λc=>c !=47&&c !=0
theorem vA(l:List UInt8):C5 l=(!l.contains 47&& !l.contains 0):=by
 induction l with
 |nil=>rfl
 |cons c l ih=>
  unfold C5 at ih ⊢;rw[List.all_cons,ih,List.contains_cons,List.contains_cons];rw[BEq.comm (a:=47),BEq.comm (a:=0),bne,bne];cases c==47<;>cases c==0<;>simp
theorem J6(c:UInt8):((c.toNat:Int) !=47)=(c !=47):=by
 rw[Bool.eq_iff_iff,bne_iff_ne,bne_iff_ne,Ne,Ne,<-UInt8.toNat_inj];show¬((c.toNat:Int)=47)↔¬(c.toNat=47);omega
theorem GA(c:UInt8):((c.toNat:Int) !=0)=(c !=0):=by
 rw[Bool.eq_iff_iff,bne_iff_ne,bne_iff_ne,Ne,Ne,<-UInt8.toNat_inj];show¬((c.toNat:Int)=0)↔¬(c.toNat=0);omega
def MC(l:List UInt8):Bool:=decide (1<=l.length)&&(decide (l.length<=27)&&(l !=[46]&&l !=[46,46]))
theorem FE(l:List UInt8):I7 l=(MC l&&C5 l):=by unfold I7 MC;rw[vA];simp only[Bool.and_assoc]
theorem Fq(l:List UInt8)(k:Nat)(h:k<l.length):C5 (l.take (k+1))=(C5 (l.take k)&&(l[k] !=47&&l[k] !=0)):=by
 unfold C5;rw[List.take_succ_eq_append_getElem h,List.all_append];simp
theorem wE{t:ByteArray}(h:s.data.toList=t.data.toList):s=t:=by
 cases s;cases t;congr;exact Array.toList_inj.1 h
theorem IH(z:Nat->Int)(n:Nat):Bk z n=true↔(∀i,i<n->lT (sl z i)=true)/\∀i j,j<i->i<n->dI z i≠0->dI z j≠0->dM z j≠dM z i:=by
 induction n with
 |zero=>exact⟨λ_=>⟨λi hi=>by omega,λi j _ hi=>by omega⟩,λ_=>rfl⟩
 |succ n ih=>
  rw[dR,Bool.and_eq_true,Bool.and_eq_true,ih,Bool.or_eq_true,beq_iff_eq,beq_iff_eq];constructor
  ·rintro⟨⟨h1,h2⟩,h3,h4⟩
   refine⟨λi hi=> ?_,λi j hj hi a b=> ?_⟩
   ·by_cases e:i=n
    ·rw[e];exact h3
    ·exact h1 i (by omega)
   ·by_cases e:i=n
    ·subst e
     rcases h4 with h4|h4
     ·exact absurd h4 a
     ·intro hm
      rcases nO (fZ (dI z) (dM z) (dM z i)) i with⟨_,h5⟩|⟨k,_,h5,_⟩
      ·have:=h5 j hj
       unfold fZ at this;rw[hm,show(dI z j !=0)=true by simpa using b] at this;simp at this
      ·omega
    ·exact h2 i j hj (by omega) a b
  ·rintro⟨h1,h2⟩
   refine⟨⟨λi hi=>h1 i (by omega),λi j hj hi=>h2 i j hj (by omega)⟩,h1 n (by omega),?_⟩
   by_cases e:dI z n=0
   ·exact .inl e
   ·refine .inr (iS λi hi=> ?_)
    unfold fZ
    by_cases e2:dI z i=0
    ·rw[e2];rfl
    ·have:=h2 n i hi (by omega) e e2
     rw[Bool.and_eq_false_iff];right
     rw[beq_eq_false_iff_ne]
     exactλhh=>this (wE hh)
theorem rh{t:TypeId}{x y:Array Value}{B:Bool}(h:(binOp .eql t (.agg x) (.agg y)).run P w= .ok (.bool B) w):(binOp .neq t (.agg x) (.agg y)).run P w= .ok (.bool (!B)) w:=by
 rw[run_eql_struct] at h;rw[run_neq_struct];generalize (Op.equalIn 10000 t (.agg x) (.agg y)).run P w=r at*;cases r with
 |ok b w'=>simp at h ⊢;exact⟨by rw[h.1],h.2⟩
 |halt e w'=>simp at h
structure B1(w:World)(z:Nat->Int)(W:World):Prop where
 b:aQ W w.heap.size 32 256 z
 bel:Below w.heap.size w W
theorem xP(s:ByteArray)(hs:s.size<=9223372036854775807)(w:World):Calls Tryz.prog 165 #[.string s] w λe w'=>e= .returned (.bool (eD s))/\w=w':=by
 have HP:Hid (eD s=(decide (1<=s.size)&&(decide (s.size<=27)&&(!s.toList==[46]&& !s.toList==[46,46]))&&C5 s.toList)):=by
  show _=_;unfold eD;rw[FE,MC,<-ByteArray.toList_eq];rw[show s.toList.length=s.size by rw[ByteArray.toList_eq];rfl];rfl
 have HZ:Hid ((s.toList==[])=decide (s.size=0)):=by
  show _=_;rw[ByteArray.toList_eq,Bool.eq_iff_iff,beq_iff_eq,decide_eq_true_eq];exact List.length_eq_zero_iff.symm
 go_enter Tryz.func165,Tryz.ntmps165
 by_cases h1:1<=s.size
 rotate_left
 ·have q0:(s.toList==[])=true:=by rw[HZ.out];exact decide_eq_true (by omega)
  have HN:Hid (eD s=false):=by show _=_;rw[HP.out,decide_eq_false h1];rfl
  clear HZ;go_wp2_with fail;go_ret;exact⟨by rw[HN.out];rfl,rfl⟩
 have q0:(s.toList==[])=false:=by rw[HZ.out];exact decide_eq_false (by omega)
 clear HZ
 by_cases h2:s.size<=27
 rotate_left
 ·have d2:(27:Int)<s.size:=by omega
  have HN:Hid (eD s=false):=by show _=_;rw[HP.out,decide_eq_false h2];simp
  go_wp2_with fail;go_ret;exact⟨by rw[HN.out];rfl,rfl⟩
 have d2:¬(27:Int)<s.size:=by omega
 cases h3:s.toList==[46] with
 |true=>
  have HN:Hid (eD s=false):=by show _=_;rw[HP.out,h3];simp
  go_wp2_with fail;go_ret;exact⟨by rw[HN.out];rfl,rfl⟩
 |false=>
 cases h4:s.toList==[46,46] with
 |true=>
  have HN:Hid (eD s=false):=by show _=_;rw[HP.out,h4];simp
  go_wp2_with fail;go_ret;exact⟨by rw[HN.out];rfl,rfl⟩
 |false=>
 have HY:Hid (eD s=C5 s.toList):=by
  show _=_;rw[HP.out,h3,h4,decide_eq_true h1,decide_eq_true h2];rfl
 clear HP;go_wp2_with fail;go_loopw [3] (λu wr=>∃k:Nat,k<=s.size/\u= .int .i64 (k:Int)/\Hid (C5 (s.toList.take k)=true)/\wr=w) (λu _=>s.size-(intOf u).toNat)
 case atStart=>exact⟨0,by omega,rfl,rfl,rfl⟩
 case round=>
  obtain⟨k,hk,rfl,HK,rfl⟩:=hrel
  by_cases hlt:k<s.size
  ·have VD:s.data.size=s.size:=rfl
   have HO:Hid (C5 (s.toList.take (k+1))=(!((s[k].toNat:Int)==47)&& !((s[k].toNat:Int)==0))):=by
    show _=_;have h:=Fq s.toList k (by rw[ByteArray.toList_eq];simpa using hlt);have e:s.toList[k]'(by rw[ByteArray.toList_eq];simpa using hlt)=s[k]:=by simp[ByteArray.toList_eq];rfl
    rw[h,HK.out,e,<-J6,<-GA];rfl
   have ct:Hid (C5 (s.toList.take (k+1))=false->eD s=false):=λh=>by
    rw[HY.out];unfold C5 at h ⊢;cases hall:s.toList.all λc=>c !=47&&c !=0 with
    |false=>rfl
    |true=>
     rw[List.all_eq_true] at hall;rw[List.all_eq_true.2 (λx hx=>hall x (List.mem_of_mem_take hx))] at h;cases h
   cases hc1:((s[k].toNat:Int)==47) with
   |true=>
    have HN:Hid (eD s=false):=ct.out (by rw[HO.out,hc1];rfl);go_wp2_with fail;go_ret;exact⟨by rw[HN.out];rfl,rfl⟩
   |false=>
   cases hc2:((s[k].toNat:Int)==0) with
   |true=>
    have HN:Hid (eD s=false):=ct.out (by rw[HO.out,hc1,hc2];rfl);go_wp2_with fail;go_ret;exact⟨by rw[HN.out];rfl,rfl⟩
   |false=>
    have LW:Hid (C5 (s.toList.take (k+1))=true):=by show _=_;rw[HO.out,hc1,hc2];rfl
    go_wp2_with fail;go_roundw
    case rel=>first|exact⟨k+1,by omega,by go_num,LW,rfl⟩|exact⟨k+1,by omega,by go_num,LW,trivial⟩|exact⟨⟨k+1,by omega,by go_num,LW⟩,rfl⟩|exact⟨k+1,by omega,by go_num,LW⟩|((repeat apply Exists.intro);exact⟨⟨k+1,by omega,by go_num,LW,rfl⟩,rfl⟩)
    case measure=>simp[intOf];omega
  ·obtain rfl:k=s.size:=by omega
   have HM:Hid (eD s=true):=by
    show _=_;rw[HY.out,<-HK.out,show s.size=s.toList.length by rw[ByteArray.toList_eq];rfl,List.take_length]
   go_wp2_with fail;go_ret;exact⟨by rw[HM.out];rfl,rfl⟩
def bS(ino:Int)(s:ByteArray):Nat->Int:=if ino=0 thenλ_=>0 else I4 s ino
def K8(s:ByteArray)(ino:Int)(i:Nat):Nat->Int:=λj=>if j<4 then byteOf ino j else if j=4 then(s.size:Int) else if j-5<i then bz s (j-5) else 0
theorem Fz(s:ByteArray)(ino:Int)(j:Nat):over (over (λ_=>0) 0 4 (byteOf ino)) 4 1 (λ_=>(s.size:Int)) j=K8 s ino 0 j:=by
 unfold over K8
 by_cases h:j<4
 ·rw[if_neg (by omega),if_pos (by omega),if_pos h];rfl
 ·rw[if_neg h]
  by_cases h4:j=4
  ·rw[if_pos (by omega),if_pos h4]
  ·rw[if_neg (by omega),if_neg (by omega),if_neg h4,if_neg (by omega)]
theorem FA(s:ByteArray)(ino:Int)(i j:Nat):over (K8 s ino i) (5+i) 1 (λ_=>bz s i) j=K8 s ino (i+1) j:=by
 unfold over K8
 by_cases h:j<4
 ·rw[if_neg (by omega),if_pos h,if_pos h]
 ·by_cases h4:j=4
  ·rw[if_neg (by omega),if_neg h,if_pos h4,if_neg h,if_pos h4]
  ·by_cases h5:j-5=i
   ·rw[if_pos (by omega),if_neg h,if_neg h4,if_pos (by omega),h5]
   ·rw[if_neg (by omega),if_neg h,if_neg h4,if_neg h,if_neg h4]
    by_cases h6:j-5<i
    ·rw[if_pos h6,if_pos (by omega)]
    ·rw[if_neg h6,if_neg (by omega)]
theorem gB.blk{base n:Nat}{e:TypeId}(h:gB w base e (some ⟨g,0,none⟩) n n z):aQ w g e n z/\base<=g:=by
 rcases h.2 with⟨hv,_⟩|⟨g',cap',cur,hv,hb,hg,hn,hc,hs,ht⟩
 ·cases hv
 ·injection hv with h1 h2 h3
  injection h1 with h1
  injection h1 with h1
  subst h1 h3;refine⟨?_,hb⟩;have:cur=(Ks .u8 n z).toArray:=by
   apply Array.ext';rw[<-show(Bs n z)=Ks .u8 n z from rfl,<-ht,List.take_of_length_le (by simp;omega)]
  unfold aQ;rw[hg,this]
structure ByB(w:World)(ino:Int)(s:ByteArray)(W:World):Prop where
 x:At W w.heap.size 90 #[.int .u32 ino,.string s]
 bel:Below w.heap.size w W
structure OD(w:World)(ino:Int)(s:ByteArray)(G:Nat)(z:Nat->Int)(W:World):Prop extends ByB w ino s W where
 b:aQ W G 5 32 z
 ge:w.heap.size<G
theorem OD.only{ino:Int}{G:Nat}{y:Nat->Int}{W:World}(h:OD w ino s G z W)(hB:aQ W' G 5 32 y)(ho:an G W W'):OD w ino s G y W':=
 ⟨⟨h.x.only ho (by have:=h.ge;omega),h.bel.trans (ho.below (Nat.le_of_lt h.ge))⟩,hB,h.ge⟩
theorem mu(ino:Int)(s:ByteArray)(hi:0<=ino/\ino<4294967296)(hs:ino=0\/s.size<=27)(w:World):
  Calls Tryz.prog 107 #[sv ino s] w λe w'=>∃g,w.heap.size<=g/\e= .returned (.slice (some ⟨g,0,none⟩) 32 32)/\aQ w' g 5 32 (bS ino s)/\Below w.heap.size w w':=by
 obtain⟨hi0,hi1⟩:=hi;have HS:Hid (ByB w ino s (w.alloc (.cells #[.int .u32 ino,.string s] 90))):=⟨At.new _ _ _,(Below.refl _ _).alloc (Nat.le_refl _) _⟩;go_enter Tryz.func107,Tryz.ntmps107;go_wp2_with (first|(refine Ev rfl _ _ rfl (w.heap.size+1) 32 32 rfl rfl rfl (by omega) (by simp) ?_))
 intro w1 BH hg1;have st0:=HS.out;have hsz:(w.alloc (.cells #[.int .u32 ino,.string s] 90)).heap.size=w.heap.size+1:=by simp
 obtain⟨hb1,VM⟩:=BH.blk;have QI:w.heap.size<w.heap.size+1:=by omega
 have eR:OD w ino s (w.heap.size+1) (λ_=>0) w1:=⟨⟨(hg1.block _ st0.x.lt (by simp)).trans st0.x,st0.bel.grown hg1 st0.bel.size (λk e=>by cases e)⟩,hb1,QI⟩;clear st0 HS BH hg1 hb1 VM QI hsz;generalize w.heap.size+1=G at*;have c0:w1.cell? ⟨w.heap.size,0,none⟩=some (.int .u32 ino):=eR.x.cell (i:=0) rfl;have c1:w1.cell? ⟨w.heap.size,1,none⟩=some (.string s):=eR.x.cell (i:=1) rfl
 by_cases h0:ino=0
 ·subst h0
  have fin:Hid (∃g,w.heap.size<=g/\(Ending.returned (.slice (some ⟨G,0,none⟩) 32 32))= .returned (.slice (some ⟨g,0,none⟩) 32 32)/\aQ w1 g 5 32 (bS 0 s)/\Below w.heap.size w w1):=⟨G,by have:=eR.ge;omega,rfl,eR.b,eR.bel⟩;clear hs;go_wp2_with fail;go_ret;exact fin.out
 have acv:s.size<=27:=by
  rcases hs with h|h
  ·exact absurd h h0
  ·exact h
 have q0:(ino==0)=false:=by simpa using h0
 have HB:Hid (bS ino s=I4 s ino):=by show _=_;unfold bS;rw[if_neg h0]
 clear h0 hs;go_wp2_with fail;refine(cU G 0 32 32 0 ino (λ_=>0) _ (by decide) (by decide) (by decide) hi0 hi1 eR.b.bI GB (eR.b.soft _ _)).mono ?_;rintro e w2 ⟨rfl,hp2⟩;have eC:=eR.only (eR.b.kn hp2) hp2.only;clear eR hp2 c0 c1;have c0:w2.cell? ⟨w.heap.size,0,none⟩=some (.int .u32 ino):=eC.x.cell (i:=0) rfl;have c1:w2.cell? ⟨w.heap.size,1,none⟩=some (.string s):=eC.x.cell (i:=1) rfl;have l6:IntKind.u8.wrap (s.size:Int)=(s.size:Int):=IntWalk.u8_in _ (by omega);have hB:=eC.b;go_wp2_with (first|(refine jF rfl _ _ rfl _ 4 (s.size:Int) rfl rfl hB (by omega) ?_))
 intro w3 Hq nU;have fg:OD w ino s G (K8 s ino 0) w3:=eC.only (Hq.congr λj _=>Fz s ino j) nU;clear eC hB Hq nU c0 c1;go_wp2_with fail;go_loopw [4] (λu wr=>∃k:Nat,k<=s.size/\u= .int .i64 (k:Int)/\OD w ino s G (K8 s ino k) wr) (λu _=>s.size-(intOf u).toNat)
 case atStart=>exact⟨0,by omega,rfl,fg⟩
 case round=>
  clear fg;obtain⟨k,hk,rfl,st⟩:=hrel;have c1:wr.cell? ⟨w.heap.size,1,none⟩=some (.string s):=st.x.cell (i:=1) rfl
  by_cases hlt:k<s.size
  ·have VD:s.data.size=s.size:=rfl
   have l0:(0:Int)<=(k:Int):=by omega
   have l1:(k:Int)<(s.size:Int):=by omega
   have hB:=st.b;have HZ:Hid ((s[k].toNat:Int)=bz s k):=by
    show _=_;unfold bz;rw[List.getD,List.getElem?_eq_getElem (by simpa using hlt)];rfl
   go_wp2_with (first|(refine jF rfl _ _ rfl _ (5+k) (s[k].toNat:Int) rfl rfl hB (by omega) ?_))
   intro w4 hB4 kv;have iF:OD w ino s G (K8 s ino (k+1)) w4:=st.only (hB4.congr λj _=>by rw[HZ.out];exact FA s ino k j) kv;clear st hB hB4 kv c1;go_wp2_with fail;go_roundw
   case rel=>(try((repeat apply Exists.intro);refine⟨?_,rfl⟩));exact⟨k+1,by omega,by go_num,iF⟩
   case measure=>simp[intOf];omega
  ·obtain rfl:k=s.size:=by omega
   have fin:Hid (∃g,w.heap.size<=g/\(Ending.returned (.slice (some ⟨G,0,none⟩) 32 32))= .returned (.slice (some ⟨g,0,none⟩) 32 32)/\aQ wr g 5 32 (bS ino s)/\Below w.heap.size w wr):=⟨G,by have:=st.ge;omega,rfl,by rw[HB.out];exact st.b,st.bel⟩;go_wp2_with fail;go_ret;exact fin.out
theorem xh{ops:Array Oper}{rest:List Oper}{o:Oper}{a:Act}{Q:Exit->Act->World->Prop}(hgd:o.guard=none)(s x:Operand)(t:TypeId)
  (ho:o.op= .call {callee:=.builtin .append,args:=#[s,x],argTypes:=#[t,t]})
  (base:Nat) (e:TypeId) (i:TypeInfo) (z:Value) (size bytes:Nat) (ht:P.underlying t=some (.slice e)) (hi:P.info? e=some i) (hz:i.zero=some z)
  (hsize:i.size=size) (hby:i.bytes=bytes) (hzs:z.cells.size=size) (hsz:0<size) (g:Nat) (hs:a.eval s= .slice (some ⟨g,0,none⟩) 0 0) (hown:w.ownsRow base e size (.slice (some ⟨g,0,none⟩) 0 0) 0 [])
  (xa:Option Addr) (n c:Nat) (news:List Value) (hx:a.eval x= .slice xa n c) (hc:xa=none->n=0/\c=0) (hl:news.length=n*size)
  (hnews:∀ad,xa=some ad->∀j u,news[j]? =some u->w.cell? (ad.add j)=some u) (h1:∀u∈news,u.oneCell'=true) (h63:n<=maxLen) (hbytes:n*bytes<=140737488355328) (hbase:base<=w.heap.size)
  (h:∀v' w',w'.ownsRow base e size v' n news->w.grownBy w' (some g)->wpList P ops Q rest (a.put o.dst v') w'):wpList P ops Q (o::rest) a w:=by
 cases xa with
 |some ad=>
  refine wpList_append_own w hgd s x t ho base e i z size bytes ht hi hz hsize hby hzs hsz _ 0 [] hs hown ad n c news hx hl (hnews ad rfl) h1 (by omega) (by rw[Nat.zero_add];exact hbytes) hbase (λv' w' h2 h3 _=>h v' w' ?_ h3);rw[Nat.zero_add,List.nil_append] at h2;exact h2
 |none=>
  obtain⟨rfl,rfl⟩:=hc rfl;have:news=[]:=by simpa using hl
  subst this;exact wpList_append_own_none hgd s x t ho base e i size ht hi _ 0 [] hs hown hx (h _ _ hown ⟨rfl,rfl,rfl,Nat.le_refl _,λ_ _ _=>rfl⟩)
theorem zX{W:World}{ad:Addr}{n:Nat}{f:Nat->List Value}{m:Nat}(hm:0<m)(hf:∀i,(f i).length=m)(hr:cY W (some ad) m n f):∀(j:Nat) (u:Value),(Cs f n)[j]? =some u->W.cell? (ad.add j)=some u:=by
 intro j u hj;have hjn:j<n*m:=by have:=(List.getElem?_eq_some_iff.1 hj).1;rwa[dC hf] at this
 have hq:j/m<n:=(Nat.div_lt_iff_lt_mul hm).2 hjn;have M8:j%m<m:=Nat.mod_lt _ hm;have he:j/m*m+j%m=j:=by rw[Nat.mul_comm];exact Nat.div_add_mod j m
 rcases hr with h0|⟨b,off,OV,hseg⟩
 ·rw[h0,Nat.zero_mul] at hjn;omega
 ·injection OV with OV;subst OV
  have h4:=Bb hf hq M8;rw[he,hj] at h4;have h5:=hseg (j/m) hq (j%m) u h4.symm;rw[Nat.add_assoc,he] at h5;rw[bh];exact h5
section
variable {w:World} {s:Int} {la:Option Addr} {n:Nat} {rb rf:Nat->Int} {rm:Nat->Bool} {rv:Nat->Int} {p k m:Nat} {ca:Option Addr} {cc:Nat} {ra:Option Addr} {rc:Nat} {W W':World}
end
end Go.Proofs.YtphamecphmbipaaGreatDoor
