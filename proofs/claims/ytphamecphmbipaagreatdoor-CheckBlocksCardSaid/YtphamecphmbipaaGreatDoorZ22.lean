/- Texts of this claim, merged. -/
import Derived.Test.YtphamecphmbipaaGreatDoorZ20
set_option linter.unusedVariables false
set_option maxRecDepth 100000
set_option maxHeartbeats 16000000

namespace Go.Proofs.YtphamecphmbipaaGreatDoor
open Go.RowKit
variable {w W':World} {base k cap X q:Nat} {e T:TypeId} {v:Value} {xs:List Value} {a:Option Addr} {y z:Nat->Int} {s:ByteArray} {P:Nat->Bool}
theorem nP{w':World}{size:Nat}{n:Nat}(h:w.ownsRow base e size v n xs)(hb:Below w.heap.size w w'):w'.ownsRow base e size v n xs:=
 World.ownsRow.kept h (bB (row:=none) hb) (Classical.em _)
theorem oK{W:World}{I:Nat->Int}{N:Nat->ByteArray}(h:W.ownsRow base e 2 (.slice a k cap) k (Sc I N k)):He W a k I N:=by
 rcases h.2 with⟨hv,h0⟩|⟨g,cap',cur,hv,hb,hg,hn,hc,hs,ht⟩
 ·exact .inl h0
 injection hv with h1 h2 h3
 subst h1;refine .inr ⟨g,0,rfl,λi hi=> ?_⟩;obtain⟨h1,h2⟩:=Bg I N k i hi;rw[<-ht,List.getElem?_take_of_lt (by omega)] at h1 h2;rw[Nat.zero_add];exact⟨aF hg (by simpa using h1),aF hg (by simpa using h2)⟩
theorem jF{W:World}{n:Nat}{size:Nat}(h:W.ownsRow base e size v n xs):∃a cap,v= .slice a n cap:=by
 rcases h.2 with⟨rfl,rfl⟩|⟨g,cap,cur,rfl,_⟩
 ·exact⟨none,0,rfl⟩
 exact⟨_,cap,rfl⟩
def xN(y:Nat->Int):ByteArray:=if bT y=0 then ByteArray.empty else if dB y<=27 then sQ y else ByteArray.empty
theorem lO:eR ByteArray.empty=false:=by decide+kernel
theorem kP(y:Nat->Int):(sQ y).size=dB y:=by unfold sQ;rw[strOfNums_size];simp
theorem IP(y:Nat->Int):(xN y).size<=27:=by
 unfold xN;split
 ·decide
 split
 ·rw[kP];assumption
 decide
theorem Ot(hy:bu y)(j:Nat)(hj:j<dB y):bz (sQ y) j=y (5+j):=by
 have h5:=hy (5+j);unfold bz sQ;rw[strOfNums_data,List.map_map,List.getD,List.getElem?_eq_getElem (by simpa using hj)];simp only[List.getElem_map,List.getElem_range,Function.comp,Option.getD_some];rw[UInt8.toNat_ofNat'];omega
theorem Nb(hy:bu y)(h:dB y<=27)(j:Nat)(hj:j<5+dB y):Jv (sQ y) (bT y) j=y j:=by
 unfold Jv
 by_cases h4:j<4
 ·rw[if_pos h4]
  have:=A9 y hy 0 j h4;rw[Nat.zero_add] at this;exact this
 rw[if_neg h4]
 by_cases h5:j=4
 ·rw[if_pos h5,h5,kP]
  unfold dB;have:=hy 4;omega
 rw[if_neg h5,if_pos (by rw[kP];omega),Ot hy _ (by omega)]
 congr 1;omega
theorem E8(hy:bu y):(bT y≠0->eR (xN y)=false->mf y=false)/\(¬(bT y≠0/\eR (xN y)=false)->mr (bS (bT y) (xN y)) y 32=mf y)/\
  (mf y=true->CR y=bT y/\CQ y=xN y/\(bT y≠0->eR (xN y)=true)):=by
 by_cases h0:bT y=0
 ·refine⟨λh=>absurd h0 h,λ_=> ?_,λhk=>⟨?_,?_,λh=>absurd h0 h⟩⟩
  ·unfold bS mf
   rw[if_pos h0,if_pos h0,Bool.eq_iff_iff,jg,jO];exact⟨λh i hi=>(h i hi).symm,λh i hi=>(h i hi).symm⟩
  ·unfold CR;rw[hk];rfl
  unfold CQ xN;rw[hk,h0];rfl
 by_cases BY:dB y<=27
 ·have hx:xN y=sQ y:=by unfold xN;rw[if_neg h0,if_pos BY]
  rw[hx];refine⟨λ_ hm=> ?_,λhc=> ?_,λhk=>⟨?_,?_,λ_=> ?_⟩⟩
  ·unfold mf;rw[if_neg h0,hm];simp
  ·have hm:eR (sQ y)=true:=by
    cases e:eR (sQ y) with
    |true=>rfl
    |false=>exact absurd ⟨h0,e⟩ hc
   unfold bS mf;rw[if_neg h0,if_neg h0,hm,decide_eq_true BY,Bool.true_and,Bool.and_true,Bool.eq_iff_iff,jg,jO];constructor
   ·intro h j hj
    have:=h (5+dB y+j) (by omega);rw[<-this];unfold Jv;rw[if_neg (by omega),if_neg (by omega),if_neg (by rw[kP];omega)]
   intro h j hj
   by_cases LN:j<5+dB y
   ·exact Nb hy BY j LN
   have:=h (j-(5+dB y)) (by omega);rw[show 5+dB y+(j-(5+dB y))=j by omega] at this;rw[this];unfold Jv;rw[if_neg (by omega),if_neg (by omega),if_neg (by rw[kP];omega)]
  ·unfold CR;rw[hk];rfl
  ·unfold CQ;rw[hk,show(bT y !=0)=true by simpa using h0];rfl
  unfold mf at hk;rw[if_neg h0,Bool.and_eq_true,Bool.and_eq_true] at hk;exact hk.2.2
 have hx:xN y=ByteArray.empty:=by unfold xN;rw[if_neg h0,if_neg BY]
 have hn:mf y=false:=by unfold mf;rw[if_neg h0,decide_eq_false BY];rfl
 rw[hx,lO,hn];exact⟨λ_ _=>rfl,λh=>absurd ⟨h0,rfl⟩ h,λh=>by cases h⟩
structure RlS(w:World)(z:Nat->Int)(k:Nat)(a:Option Addr)(cap:Nat)(W:World):Prop where
 b:aU W w.heap.size 32 256 z
 own:W.ownsRow (w.heap.size+1) 90 2 (.slice a k cap) k (Sc (dI z) (dM z) k)
 bel:Below w.heap.size w W
theorem RlS.below{W:World}(h:RlS w z k a cap W)(hb:Below W.heap.size W W'):RlS w z k a cap W':=⟨h.b.below hb h.b.lt,nP h.own hb,h.bel.trans (hb.mono h.bel.size)⟩
theorem RlS.drew{W:World}(h:RlS w z k a cap W):RlS w z k a cap W.drew:=⟨h.b,h.own,h.bel.drew⟩
def gy(w:World)(z:Nat->Int)(e:Ending)(w':World):Prop:=
 Below w.heap.size w w'/\(iW z=false/\e= .returned (.tuple #[.slice none 0 0,.int .i64 80])\/
  iW z=true/\∃a cap,e= .returned (.tuple #[.slice a 8 cap,.int .i64 0])/\w'.ownsRow (w.heap.size+1) 90 2 (.slice a 8 cap) 8 (Sc (dI z) (dM z) 8))
theorem F8:(Tryz.prog.info? 9).map (·.size)=some 1:=by kernel_rfl
theorem j9:(Tryz.prog.info? 90).map (λi=>(i.zero,i.size,i.bytes))=some (some (.agg #[.int .u32 0,.string ByteArray.empty]),2,24):=by kernel_rfl
theorem oE(x:Int)(s:ByteArray)(w:World):(Instr.buildSlice 88 1 #[(0,.agg #[.int .u32 x,.string s])]).run Tryz.prog w= .ok (.slice (some ⟨w.heap.size,0,none⟩) 1 1) (w.alloc (.cells #[.int .u32 x,.string s] 90)):=by kernel_rfl
theorem qU(w:World)(x:Int)(s:ByteArray):∀(j:Nat) (u:Value),([.int .u32 x,.string s]:List Value)[j]? =some u->(w.alloc (.cells #[.int .u32 x,.string s] 90)).cell? ((⟨w.heap.size,0,none⟩:Addr).add j)=some u:=by
 intro j u hj;rw[bA];rcases j with _|_|j
 ·cases hj;exact aF (heap_alloc_new w _) rfl
 ·cases hj;exact aF (heap_alloc_new w _) rfl
 cases hj
theorem qf(x:Int)(s:ByteArray):∀u∈([.int .u32 x,.string s]:List Value),u.oneCell'=true:=by
 intro u hu;simp only[List.mem_cons,List.not_mem_nil,or_false] at hu;rcases hu with rfl|rfl<;>rfl
structure wX(w:World)(z:Nat->Int)(k:Nat)(a:Option Addr)(cap:Nat)(X:Nat)(ino:Int)(s:ByteArray)(W:World):Prop extends RlS w z k a cap W where
 x:At W X 90 #[.int .u32 ino,.string s]
 ne:w.heap.size<X
theorem wX.below{ino:Int}{W:World}(h:wX w z k a cap X ino s W)(hb:Below W.heap.size W W'):wX w z k a cap X ino s W':=⟨h.toRlS.below hb,h.x.below hb h.x.lt,h.ne⟩
theorem wX.drew{ino:Int}{W:World}(h:wX w z k a cap X ino s W):wX w z k a cap X ino s W.drew:=⟨h.toRlS.drew,h.x,h.ne⟩
theorem RlS.new{W:World}(h:RlS w z k a cap W)(ino:Int)(s:ByteArray):wX w z k a cap W.heap.size ino s (W.alloc (.cells #[.int .u32 ino,.string s] 90)):=
 ⟨h.below (ag.alloc af _),At.new _ _ _,h.b.lt⟩
theorem Dc(z:Nat->Int)(hz:bu z)(w:World):Calls Tryz.prog 163 #[aR z] w (gy w z):=by
 have hal:=lH;have HS:Hd (RlS w z 0 none 0 (w.alloc (.cells (Ks .u8 256 z).toArray 32))):=⟨aU.new _ _ _ _,World.ownsRow_nil _ _ _ _,ag.alloc af _⟩;go_enter Tryz.func163,Tryz.ntmps163;go_wp2_with fail;have st0:=HS.Z;clear HS;go_loopw [4,5] (λv u wr=>∃(k:Nat) (a:Option Addr) (cap:Nat),k<=8/\u= .int .i64 (k:Int)/\v= .slice a k cap/\Hd (By z k=true)/\RlS w z k a cap wr) (λ_ u _=>8-(intOf u).toNat)
 case atStart=>exact⟨0,none,0,by omega,rfl,rfl,rfl,st0⟩
 clear st0;obtain⟨k,a,cap,hk,rfl,rfl,K3,st⟩:=hrel
 by_cases hlt:k<8
 ·have hsl:∀W,(Instr.sliceAt 32 (.pointer (some ⟨w.heap.size,0,none⟩)) (some (.int .i64 (32*(k:Int)))) (some (.int .i64 (32*(k:Int)+32))) none).run Tryz.prog W= .ok (.slice (some ⟨w.heap.size,32*k,none⟩) 32 (256-32*k)) W:=λW=>by
   have:=ct w.heap.size 0 (32*k) (32*k+32) (32*(k:Int)) (32*(k:Int)+32) (by omega) (by omega) (by omega) (by omega) (by omega) W;simp only[Nat.zero_add,show 32*k+32-32*k=32 by omega] at this;exact this
  go_wp2_with fail;have HY:Hd (∀W,RlS w z k a cap W->Seg W w.heap.size (32*k) 32 (sl z k)):=λW h=>by
   have:=h.b.bQ.sub (32*k) 32 (by omega);rw[Nat.zero_add] at this;exact this
  have xh:bu (sl z k):=λj=>hz _
  refine(fx w.heap.size (32*k) 32 _ 0 (sl z k) _ (by decide) (by decide) (by decide) (HY.Z _ st) xh).mono ?_;rintro e w1 ⟨rfl,m,hw1⟩;have fj:RlS w z k a cap w1:=by rw[hw1];exact st.below (iD ag m)
  clear st hw1 hsl;have xe:Hd (cR (sl z k) (0:Int).toNat=bT (sl z k)):=rfl;rw[xe.Z];clear xe;obtain⟨X8,K5,HR3⟩:Hd (_)/\Hd (_)/\Hd (_):=E8 xh;have hI:0<=bT (sl z k)/\bT (sl z k)<4294967296:=dP xh 0;have TJ:Hd (dI z k=CR (sl z k)/\dM z k=CQ (sl z k)):=⟨rfl,rfl⟩;have hlb:dB (sl z k)<256:=by have:=xh 4;unfold dB;omega
  have c4:∀W,RlS w z k a cap W->W.cell? ⟨w.heap.size,32*k+4,none⟩=some (.int .u8 (dB (sl z k):Int)):=λW h=>by
   rw[HY.Z W h 4 (by omega)];have:=xh 4;unfold dB;congr 2;omega
  have K1:Hd (xN (sl z k)=if bT (sl z k)=0 then ByteArray.empty else if dB (sl z k)<=27 then sQ (sl z k) else ByteArray.empty):=rfl;have HXS:Hd ((xN (sl z k)).size<=27):=IP _;generalize hy:sl z k=y at*;obtain⟨hI0,hI1⟩:=hI
  by_cases h0:bT y=0
  ·have ec:Hd (wX w z k a cap w1.heap.size 0 ByteArray.empty (w1.alloc (.cells #[.int .u32 0,.string ByteArray.empty] 90))):=fj.new 0 ByteArray.empty
   have ec:=ec.Z;have hX:=ec.x;have c41:=c4 _ ec.toRlS;have e0:(w1.alloc (.cells #[.int .u32 0,.string ByteArray.empty] 90)).cell? ⟨w1.heap.size,0,none⟩=some (.int .u32 0):=ec.x.cell (i:=0) rfl;have e1:(w1.alloc (.cells #[.int .u32 0,.string ByteArray.empty] 90)).cell? ⟨w1.heap.size,1,none⟩=some (.string ByteArray.empty):=ec.x.cell (i:=1) rfl;have OI:Hd (xN y=ByteArray.empty):=by show _=_;rw[K1.Z,if_pos h0]
   have Mq:Hd (mr (bS 0 ByteArray.empty) y 32=mf y):=by show _=_;rw[<-K5.Z (λh=>h.1 h0),h0,OI.Z]
   have Uo:Hd (bT y=0):=h0;rw[h0];clear h0 fj;go_wp2_with fail;generalize w1.heap.size=X at*;refine(mE (0) (ByteArray.empty) (by decide) (.inl rfl) _).mono ?_;rintro e w3 ⟨g,hg,rfl,RJ,hb3⟩;have fw:=ec.below hb3;clear ec hb3 hX e0 e1;go_wp2_with fail;refine(xP _ _ 32 _ _ (bS (0) (ByteArray.empty)) y _ (by decide) (.inr ⟨_,_,rfl,RJ.bQ⟩) (.inr ⟨_,_,rfl,HY.Z _ fw.toRlS⟩)).mono ?_;rintro e w4 ⟨rfl,m',hw4⟩;have ij:wX w z k a cap X (0) (ByteArray.empty) w4:=by rw[hw4];exact fw.below (iD ag m')
   clear fw hw4 RJ hg;rw[Mq.Z];cases hok:mf y with
   |false=>
    have fin:Hd (gy w z (.returned (.tuple #[.slice none 0 0,.int .i64 80])) w4):=⟨ij.bel,.inl ⟨mB hlt (by rw[ee,hy,hok];simp),rfl⟩⟩;clear hok;go_wp2_with fail
    go_ret2
    exact fin.Z
   |true=>
   have m7:=ah hok;obtain⟨X3,PR,HV3⟩:Hd (_)/\Hd (_)/\Hd (_):=HR3.Z hok;clear hok;have Mj:Hd (dI z k=0/\dM z k=ByteArray.empty):=⟨by rw[TJ.Z.1,X3.Z,Uo.Z],by rw[TJ.Z.2,PR.Z,OI.Z]⟩;go_wp2_with fail;go_loopw [11] (λu wr=>∃j:Nat,j<=k/\u= .int .i64 (j:Int)/\True/\wX w z k a cap X (0) (ByteArray.empty) wr) (λu _=>k-(intOf u).toNat)
   case atStart=>exact⟨0,by omega,rfl,trivial,ij⟩
   clear ij;obtain⟨j,hjk,rfl,_,st⟩:=hrel
   by_cases hj:j<k
   ·have m0:(0:Int)<=(j:Int):=by omega
    have m1:(j:Int)<(k:Int):=by omega
    go_wp2_with fail
    first
    |(go_roundw
      case rel=>first|exact⟨j+1,by omega,by go_num,trivial,st⟩|((repeat apply Exists.intro);exact⟨⟨j+1,by omega,by go_num,trivial,st⟩,rfl⟩)|exact⟨j+1,by omega,by go_num,st⟩|((repeat apply Exists.intro);exact⟨⟨j+1,by omega,by go_num,st⟩,rfl⟩)
      simp[intOf];omega)
    |(refine ar (wX w z k a cap X (0) (ByteArray.empty)) st.drew ?_
      clear st;intro hne
      repeat go_big_quiet_step (fail)
      refine wpQuiet_nil ?_;intro w7 h7;have jl:=h7.Z;clear h7 hne;go_wp2_with fail;go_roundw
      case rel=>first|exact⟨j+1,by omega,by go_num,trivial,jl⟩|((repeat apply Exists.intro);exact⟨⟨j+1,by omega,by go_num,trivial,jl⟩,rfl⟩)|exact⟨j+1,by omega,by go_num,jl⟩|((repeat apply Exists.intro);exact⟨⟨j+1,by omega,by go_num,jl⟩,rfl⟩)
      simp[intOf];omega)
   obtain rfl:j=k:=by omega
   have sL:Hd (By z (j+1)=true):=by
    show _=_;rw[ee,K3.Z,hy,m7.Z];rw[Mj.Z.1];rfl
   have hbs:=oE;have c0:wr.cell? ⟨X,0,none⟩=some (.int .u32 (0)):=st.x.cell (i:=0) rfl;have c1:wr.cell? ⟨X,1,none⟩=some (.string (ByteArray.empty)):=st.x.cell (i:=1) rfl;have hown':=World.ownsRow.alloc st.own (.cells #[.int .u32 (0),.string (ByteArray.empty)] 90);obtain⟨i0,hi,hz0,hz1,hz2⟩:=info_parts j9;have hblt:=st.b.lt;have hnews:=qU wr (0) (ByteArray.empty);have hone:=qf (0) (ByteArray.empty);clear hal;go_wp2_with (first|(refine wpList_append_own _ rfl _ _ 88 rfl (w.heap.size+1) 90 i0 (.agg #[.int .u32 0,.string ByteArray.empty]) 2 24 Tryz.underlying88 hi hz0 hz1 hz2 rfl (by decide) _ j _ rfl hown' ⟨wr.heap.size,0,none⟩ 1 1 [.int .u32 (0),.string (ByteArray.empty)] rfl rfl hnews hone (by unfold maxLen;omega) (by omega) (by simp;omega) ?_))
   intro v' w7 fp wv _;have lR:∀q,(Value.slice a j cap).ownBlock=some q->w.heap.size+1<=q:=λq hq=>(World.ownsRow.lt hown' q hq).1
   rw[show Sc (dI z) (dM z) j++[.int .u32 (0),.string (ByteArray.empty)]=Sc (dI z) (dM z) (j+1) by unfold Sc;rw[Mj.Z.1,Mj.Z.2];cases j<;>rfl] at fp;obtain⟨a',cap',hv'⟩:=jF fp;subst hv';have jl:RlS w z (j+1) a' cap' w7:=⟨(wv.block _ (st.b.alloc _).lt (λe=>by have:=lR _ e.symm;omega)).trans (st.b.alloc _),fp,(st.bel.alloc st.bel.size _).grown wv (st.bel.alloc st.bel.size _).size (λq e=>by have:=lR q e;omega)⟩;clear st hown' fp wv hbs c0 c1 hnews hone lR;go_wp2_with fail;go_roundw
   case rel=>(try((repeat apply Exists.intro);refine⟨?_,rfl⟩));exact⟨j+1,a',cap',by omega,by go_num,rfl,sL,jl⟩
   simp[intOf];omega
  have Uo:Hd (bT y≠0):=h0;have q0:(0:Int)<bT y:=by omega
  have ec:wX w z k a cap w1.heap.size (bT y) ByteArray.empty (w1.alloc (.cells #[.int .u32 (bT y),.string ByteArray.empty] 90)):=fj.new (bT y) ByteArray.empty;have lR:Hd (∀q,(Value.slice a k cap).ownBlock=some q->q≠w1.heap.size):=λq hq=>by have:=(World.ownsRow.lt fj.own q hq).2;omega
  have c41:=c4 _ ec.toRlS;have e0:(w1.alloc (.cells #[.int .u32 (bT y),.string ByteArray.empty] 90)).cell? ⟨w1.heap.size,0,none⟩=some (.int .u32 (bT y)):=ec.x.cell (i:=0) rfl;have e1:(w1.alloc (.cells #[.int .u32 (bT y),.string ByteArray.empty] 90)).cell? ⟨w1.heap.size,1,none⟩=some (.string ByteArray.empty):=ec.x.cell (i:=1) rfl;have hX:=ec.x;have Qg:Hd (wX w z k a cap w1.heap.size (bT y) (xN y) (w1.alloc (.cells #[.int .u32 (bT y),.string (xN y)] 90))):=fj.new (bT y) (xN y);clear fj
  by_cases BY:dB y<=27
  rotate_left
  ·have d27:¬(dB y:Int)<=27:=by omega
   have OI:Hd (xN y=ByteArray.empty):=by show _=_;rw[K1.Z,if_neg h0,if_neg BY]
   have HN:Hd (mf y=false):=X8.Z h0 (by rw[OI.Z];exact lO);clear h0;go_wp2_with fail;refine(ya ByteArray.empty (by decide) _).mono ?_;rintro e w3 ⟨rfl,rfl⟩;rw[lO];have fin:Hd (gy w z (.returned (.tuple #[.slice none 0 0,.int .i64 80])) (w1.alloc (.cells #[.int .u32 (bT y),.string ByteArray.empty] 90))):=⟨ec.bel,.inl ⟨mB hlt (by rw[ee,hy,HN.Z];simp),rfl⟩⟩;go_wp2_with fail
   go_ret2
   exact fin.Z
  have d27:(dB y:Int)<=27:=by omega
  have OI:Hd (xN y=sQ y):=by show _=_;rw[K1.Z,if_neg h0,if_pos BY]
  have hseg:=HY.Z _ ec.toRlS;have hcv:∀dst,Tryz.prog.underlying dst=some .string->(convert 119 dst (.slice (some ⟨w.heap.size,32*k+5,none⟩) (dB y) (256-32*k-5))).run Tryz.prog (w1.alloc (.cells #[.int .u32 (bT y),.string ByteArray.empty] 90))= .ok (.string (sQ y)) (w1.alloc (.cells #[.int .u32 (bT y),.string ByteArray.empty] 90)):=by
   exact run_convert_bytes_arg _ 119 5 Tryz.underlying119 Tryz.underlying5 w.heap.size (32*k+5) (dB y) _ _ (by simp) (λj hj=>by
    have:=hseg (5+j) (by omega);rw[Nat.add_assoc,this];simp[List.getD,hj])
  have J4:=hcv 9 Tryz.underlying9;have hsl:∀W,(Instr.slice 119 (.slice (some ⟨w.heap.size,32*k,none⟩) 32 (256-32*k)) (some (.int .i64 5)) (some (.int .i64 (5+(dB y:Int)))) none).run Tryz.prog W= .ok (.slice (some ⟨w.heap.size,32*k+5,none⟩) (dB y) (256-32*k-5)) W:=λW=>by
   have hsz:∀W,(Go.sizeOf 5).run Tryz.prog W= .ok 1 W:=λW=>by kernel_rfl
   rw[run_slice_lh W 119 _ 32 (256-32*k) (by kernel_rfl) .i64 .i64 5 (5+(dB y:Int)) (by omega) (by omega) (by omega),show Tryz.prog.elem 119=5 from by kernel_rfl,hsz];simp only[Result.andThen,sliced,Nat.mul_one];rw[show(5+(dB y:Int)).toNat=5+dB y by omega,show(5:Int).toNat=5 from rfl,show 5+dB y-5=dB y by omega,if_neg (by omega),Option.map_some,bA]
  clear hseg hcv;have LK:(w1.alloc (.cells #[.int .u32 (bT y),.string ByteArray.empty] 90)).frozen? ⟨w1.heap.size,1,none⟩=false:=an ec.x 1;rw[<-OI.Z] at J4;have Mq:Hd (¬eR (xN y)=false->mr (bS (bT y) (xN y)) y 32=mf y):=λh=>K5.Z (λh2=>h h2.2)
  have Yb:Hd (eR (xN y)=false->mf y=false):=λh=>X8.Z h0 h
  clear h0 K1 X8 K5 OI;go_wp2_with (first|(refine tM rfl 9 _ _ rfl _ _ _ rfl rfl _ e1 LK F8 rfl ?_))
  clear LK J4 hsl e0 e1 hX c41 c4 ec;have ec:=Qg.Z;clear Qg;generalize w1.alloc (.cells #[.int .u32 (bT y),.string (xN y)] 90)=w2 at*;generalize w1.heap.size=X at*;have e0:w2.cell? ⟨X,0,none⟩=some (.int .u32 (bT y)):=ec.x.cell (i:=0) rfl;have e1:w2.cell? ⟨X,1,none⟩=some (.string (xN y)):=ec.x.cell (i:=1) rfl;have hX:=ec.x;go_wp2_with fail;refine(ya (xN y) (by have:=HXS.Z;omega) _).mono ?_;rintro e w3 ⟨rfl,rfl⟩;cases hm:eR (xN y) with
  |false=>
   have fin:Hd (gy w z (.returned (.tuple #[.slice none 0 0,.int .i64 80])) w2):=⟨ec.bel,.inl ⟨mB hlt (by rw[ee,hy,Yb.Z hm];simp),rfl⟩⟩;clear hm;go_wp2_with fail
   go_ret2
   exact fin.Z
  |true=>
  replace Mq:Hd (mr (bS (bT y) (xN y)) y 32=mf y):=Mq.Z (by rw[hm];decide)
  clear hm;go_wp2_with fail;refine(mE (bT y) (xN y) ⟨hI0,hI1⟩ (.inr HXS.Z) _).mono ?_;rintro e w3 ⟨g,hg,rfl,RJ,hb3⟩;have fw:=ec.below hb3;clear ec hb3 hX e0 e1;go_wp2_with fail;refine(xP _ _ 32 _ _ (bS (bT y) (xN y)) y _ (by decide) (.inr ⟨_,_,rfl,RJ.bQ⟩) (.inr ⟨_,_,rfl,HY.Z _ fw.toRlS⟩)).mono ?_;rintro e w4 ⟨rfl,m',hw4⟩;have ij:wX w z k a cap X (bT y) (xN y) w4:=by rw[hw4];exact fw.below (iD ag m')
  clear fw hw4 RJ hg;rw[Mq.Z];cases hok:mf y with
  |false=>
   have fin:Hd (gy w z (.returned (.tuple #[.slice none 0 0,.int .i64 80])) w4):=⟨ij.bel,.inl ⟨mB hlt (by rw[ee,hy,hok];simp),rfl⟩⟩;clear hok;go_wp2_with fail
   go_ret2
   exact fin.Z
  |true=>
  have m7:=ah hok;obtain⟨X3,PR,HV3⟩:Hd (_)/\Hd (_)/\Hd (_):=HR3.Z hok;clear hok;have Mj:Hd (dI z k=bT y/\dM z k=xN y):=⟨by rw[TJ.Z.1,X3.Z],by rw[TJ.Z.2,PR.Z]⟩;go_wp2_with fail;go_loopw [11] (λu wr=>∃j:Nat,j<=k/\u= .int .i64 (j:Int)/\Hd (∀i,i<j->gv (dI z) (dM z) (dM z k) i=false)/\wX w z k a cap X (bT y) (xN y) wr) (λu _=>k-(intOf u).toNat)
  case atStart=>exact⟨0,by omega,rfl,λi hi=>by omega,ij⟩
  clear ij;obtain⟨j,hjk,rfl,cY,st⟩:=hrel
  by_cases hj:j<k
  ·have m0:(0:Int)<=(j:Int):=by omega
   have m1:(j:Int)<(k:Int):=by omega
   obtain⟨lb,Dq,BV⟩:∃b off,a=some ⟨b,off,none⟩:=by
    rcases oK st.own with h|⟨b,off,h,_⟩
    ·omega
    exact⟨b,off,h⟩
   subst BV;have Cp:Hd (∀W,wX w z k (some ⟨lb,Dq,none⟩) cap X (bT y) (xN y) W->lD W lb Dq k (dI z) (dM z)):=λW h=>by
    rcases oK h.own with h|⟨b,off,h,hs⟩
    ·omega
    injection h with h;injection h with h1 h2;subst h1 h2;exact hs
   have hcj:∀x:a9 (wX w z k (some ⟨lb,Dq,none⟩) cap X (bT y) (xN y)),x.W.cell? ⟨lb,Dq+j*2+1,none⟩=some (.string (dM z j)):=λx=>(Cp.Z x.W x.h j hj).2
   have hcx:∀x:a9 (wX w z k (some ⟨lb,Dq,none⟩) cap X (bT y) (xN y)),x.W.cell? ⟨X,1,none⟩=some (.string (xN y)):=λx=>x.h.x.cell (i:=1) rfl
   have Up:Hd (gv (dI z) (dM z) (dM z k) j=((dM z j).toList==(xN y).toList)):=by
    show _=_;unfold gv;rw[Mj.Z.2,ByteArray.toList_eq,ByteArray.toList_eq];cases he:((dM z j).data.toList==(xN y).data.toList) with
    |false=>rw[Bool.and_false]
    |true=>
     have he':dM z j=xN y:=wV (beq_iff_eq.1 he);have:dI z j≠0:=λh0=>by
      have VP:=((Jd z k).1 K3.Z).1 j hj;have hemp:dM z j=ByteArray.empty:=by
       unfold dI CR at h0;rw[VP] at h0;unfold dM CQ;rw[show bT (sl z j)=0 from h0];simp
      have:=HV3.Z Uo.Z;rw[<-he',hemp,lO] at this;cases this
     rw[show(dI z j !=0)=true by simpa using this];rfl
   have pJ:Hd (gv (dI z) (dM z) (dM z k) j=false->∀i,i<j+1->gv (dI z) (dM z) (dM z k) i=false):=λh i hi=>by
    by_cases e:i=j
    ·rw[e];exact h
    exact cY.Z i (by omega)
   generalize hq:((dM z j).toList==(xN y).toList)=q at*;go_wp2_with fail;refine ar (wX w z k (some ⟨lb,Dq,none⟩) cap X (bT y) (xN y)) st.drew ?_;clear st;intro hne
   repeat go_big_quiet_step (fail)
   refine wpQuiet_nil ?_;intro w7 h7;have jl:=h7.Z;clear h7 hne hcj hcx hq;cases q with
   |true=>
    have fin:Hd (gy w z (.returned (.tuple #[.slice none 0 0,.int .i64 80])) w7):=⟨jl.bel,.inl ⟨mB hlt (by
     rw[ee,K3.Z,hy,m7.Z,Bool.true_and,Bool.true_and,Bool.or_eq_false_iff];refine⟨by rw[Mj.Z.1];simpa using Uo.Z,?_⟩;rw[beq_eq_false_iff_ne];intro hf;rw[sg hj cY.Z Up.Z] at hf;omega),rfl⟩⟩
    go_wp2_with fail
    go_ret2
    exact fin.Z
   |false=>
    have xd:=ah (pJ.Z Up.Z);go_wp2_with fail;go_roundw
    case rel=>(try((repeat apply Exists.intro);refine⟨?_,rfl⟩));exact⟨j+1,by omega,by go_num,xd,jl⟩
    simp[intOf];omega
  obtain rfl:j=k:=by omega
  have sL:Hd (By z (j+1)=true):=by
   show _=_;rw[ee,K3.Z,hy,m7.Z];rw[jf cY.Z];simp
  have hbs:=oE;have c0:wr.cell? ⟨X,0,none⟩=some (.int .u32 (bT y)):=st.x.cell (i:=0) rfl;have c1:wr.cell? ⟨X,1,none⟩=some (.string (xN y)):=st.x.cell (i:=1) rfl;have hown':=World.ownsRow.alloc st.own (.cells #[.int .u32 (bT y),.string (xN y)] 90);obtain⟨i0,hi,hz0,hz1,hz2⟩:=info_parts j9;have hblt:=st.b.lt;have hnews:=qU wr (bT y) (xN y);have hone:=qf (bT y) (xN y);clear hal;go_wp2_with (first|(refine wpList_append_own _ rfl _ _ 88 rfl (w.heap.size+1) 90 i0 (.agg #[.int .u32 0,.string ByteArray.empty]) 2 24 Tryz.underlying88 hi hz0 hz1 hz2 rfl (by decide) _ j _ rfl hown' ⟨wr.heap.size,0,none⟩ 1 1 [.int .u32 (bT y),.string (xN y)] rfl rfl hnews hone (by unfold maxLen;omega) (by omega) (by simp;omega) ?_))
  intro v' w7 fp wv _;have lR:∀q,(Value.slice a j cap).ownBlock=some q->w.heap.size+1<=q:=λq hq=>(World.ownsRow.lt hown' q hq).1
  rw[show Sc (dI z) (dM z) j++[.int .u32 (bT y),.string (xN y)]=Sc (dI z) (dM z) (j+1) by unfold Sc;rw[Mj.Z.1,Mj.Z.2];cases j<;>rfl] at fp;obtain⟨a',cap',hv'⟩:=jF fp;subst hv';have jl:RlS w z (j+1) a' cap' w7:=⟨(wv.block _ (st.b.alloc _).lt (λe=>by have:=lR _ e.symm;omega)).trans (st.b.alloc _),fp,(st.bel.alloc st.bel.size _).grown wv (st.bel.alloc st.bel.size _).size (λq e=>by have:=lR q e;omega)⟩;clear st hown' fp wv hbs c0 c1 hnews hone lR;go_wp2_with fail;go_roundw
  case rel=>(try((repeat apply Exists.intro);refine⟨?_,rfl⟩));exact⟨j+1,a',cap',by omega,by go_num,rfl,sL,jl⟩
  simp[intOf];omega
 obtain rfl:k=8:=by omega
 have fin:Hd (gy w z (.returned (.tuple #[.slice a 8 cap,.int .i64 0])) wr):=⟨st.bel,.inr ⟨K3.Z,a,cap,rfl,st.own⟩⟩;go_wp2_with fail
 go_ret2
 exact fin.Z
theorem Jn{W:World}{base' n:Nat}{size:Nat}(h:W.ownsRow base e size v n xs)(hb:base'<=base):W.ownsRow base' e size v n xs:=by
 refine⟨h.1,?_⟩;rcases h.2 with h'|⟨g',cap',cur,hv,hbb,hr⟩
 ·exact .inl h'
 exact .inr ⟨g',cap',cur,hv,by omega,hr⟩
structure PK(w:World)(z:Nat->Int)(g:Nat)(y:Nat->Int)(W:World):Prop where
 b:aU W w.heap.size 32 256 z
 p:aU W g 5 32 y
 r:aU W (w.heap.size+1+1) 32 256 (λ_=>0)
 bel:Below w.heap.size w W
 ge:w.heap.size<g
theorem PK.put{z':Nat->Int}{g:Nat}{W:World}(h:PK w z g y W)(hB:aU W' w.heap.size 32 256 z')(ho:az w.heap.size W W'):PK w z' g y W':=
 ⟨hB,h.p.only ho (Nat.ne_of_gt h.ge),h.r.only ho (by omega),h.bel.trans (ho.below af),h.ge⟩
def yg(z:Nat->Int)(i:Nat)(y:Nat->Int)(n:Nat):Nat->Int:=over z (32*i) n y
theorem Dd(z:Nat->Int)(i:Nat)(y:Nat->Int)(n j:Nat):over (yg z i y n) (32*i+n) 1 (λ_=>y n) j=yg z i y (n+1) j:=by
 unfold yg over
 by_cases h:32*i+n=j
 ·subst h
  rw[if_pos (by omega),if_pos (by omega),show 32*i+n-32*i=n by omega]
 rw[if_neg (by omega)]
 by_cases h2:32*i<=j/\j<32*i+n
 ·rw[if_pos h2,if_pos (by omega)]
 rw[if_neg h2,if_neg (by omega)]
theorem Fy(z:Nat->Int)(i:Nat)(xk:i<8)(ino:Int)(s:ByteArray)(hi:0<=ino/\ino<4294967296)(hs:ino=0\/s.size<=27)(w:World):
  Calls Tryz.prog 65 #[aR z,.int .i64 (i:Int),sv ino s] w λe w'=>e= .returned (aR (Ap z i (bS ino s)))/\Below w.heap.size w w':=by
 have hal:=cW;obtain⟨hi0,hi1⟩:=hi;have HS:Hd (aU (((w.alloc (.cells (Ks .u8 256 z).toArray 32)).alloc (.cells #[.int .u32 ino,.string s] 90)).alloc (.cells (Ks .u8 256 (λ_=>0)).toArray 32)) w.heap.size 32 256 z/\
   aU (((w.alloc (.cells (Ks .u8 256 z).toArray 32)).alloc (.cells #[.int .u32 ino,.string s] 90)).alloc (.cells (Ks .u8 256 (λ_=>0)).toArray 32)) (w.heap.size+1+1) 32 256 (λ_=>0)/\
   Below w.heap.size w (((w.alloc (.cells (Ks .u8 256 z).toArray 32)).alloc (.cells #[.int .u32 ino,.string s] 90)).alloc (.cells (Ks .u8 256 (λ_=>0)).toArray 32))):=by
  refine⟨((aU.new w _ 256 z).alloc _).alloc _,?_,((ag.alloc af _).alloc (by simp) _).alloc (by simp;omega) _⟩;have:=aU.new ((w.alloc (.cells (Ks .u8 256 z).toArray 32)).alloc (.cells #[.int .u32 ino,.string s] 90)) 32 256 (λ_=>0);simpa using this
 go_enter Tryz.func65,Tryz.ntmps65;go_wp2_with fail;generalize ((w.alloc (.cells (Ks .u8 256 z).toArray 32)).alloc (.cells #[.int .u32 ino,.string s] 90)).alloc (.cells (Ks .u8 256 (λ_=>0)).toArray 32)=w0 at*;refine(mE ino s ⟨hi0,hi1⟩ hs _).mono ?_;rintro e w1 ⟨g,hg,rfl,hp,hb1⟩;obtain⟨h1,h2,h3⟩:=HS.Z;have fj:PK w (yg z i (bS ino s) 0) g (bS ino s) w1:=⟨(h1.below hb1 h1.lt).congr λj _=>by unfold yg over;rw[if_neg (by omega)],hp,h2.below hb1 h2.lt,h3.trans (hb1.mono h3.size),by have:=h1.lt;omega⟩;have HPS:Hd (yg z i (bS ino s) 32=Ap z i (bS ino s)):=rfl;generalize YW:bS ino s=y at*;have HYY:=ah YW;clear YW;clear HS h1 h2 h3 hp hb1 hg;go_wp2_with fail;go_loopw [8] (λu wr=>∃k:Nat,k<=32/\u= .int .i64 (k:Int)/\PK w (yg z i y k) g y wr) (λu _=>32-(intOf u).toNat)
 case atStart=>exact⟨0,by omega,rfl,fj⟩
 clear fj;obtain⟨k,hk,rfl,st⟩:=hrel
 by_cases hlt:k<32
 ·have l0:(0:Int)<=(k:Int):=by omega
  have l1:(k:Int)<32:=by omega
  have hB:=st.b;have c0:wr.cell? ⟨g,k,none⟩=some (.int .u8 (y k)):=by have:=st.p.bQ k hlt;rwa[Nat.zero_add] at this
  have e1:(32*(i:Int)+(k:Int)).toNat=32*i+k:=by omega
  have e2:(32*(i:Int)+(k:Int))<256:=by omega
  have e3:(0:Int)<=32*(i:Int)+(k:Int):=by omega
  go_wp2_with (first|(refine dA rfl _ _ rfl _ (32*i+k) (y k) rfl rfl hB (by omega) ?_))
  intro w4 hB4 ke;have ij:PK w (yg z i y (k+1)) g y w4:=st.put (hB4.congr λj _=>Dd z i y k j) ke;clear st hB hB4 ke c0;go_wp2_with fail;go_roundw
  case rel=>(try((repeat apply Exists.intro);refine⟨?_,rfl⟩));exact⟨k+1,by omega,by go_num,ij⟩
  simp[intOf];omega
 obtain rfl:k=32:=by omega
 have hB:=st.b;have hR:=st.r;rw[HPS.Z] at hB;go_wp2_with (first|(refine de rfl _ rfl _ _ rfl hB ?_)|(refine bm rfl _ _ rfl (w.heap.size+1+1) _ _ rfl rfl hR ?_))
 intro w9 Pz gQ;go_wp2_with fail;exact bodyPost_ret (fI rfl _ _ (w.heap.size+1+1) _ rfl Pz) rfl ⟨by rw[HYY.Z],st.bel.trans (gQ.below (by omega))⟩
theorem kq{fn:Func}{p u:Tmp}(h:fn.results= #[.cell p 32,.tmp u])(tmps:Array Value)(w:World)(g:Nat)(z:Nat->Int)
  (hp:tmps.getD p undef= .pointer (some ⟨g,0,none⟩)) (hg:aU w g 32 256 z):(results fn tmps).run Tryz.prog w= .ok (.tuple #[aR z,tmps.getD u undef]) w:=
 bP h tmps w g 32 _ (0,0) _ hp hg Tryz.underlying32 rfl (aW _)
theorem pq:(Tryz.prog.info? 4).map (λi=>(i.zero,i.size,i.bytes))=some (some (.bool false),1,1):=by kernel_rfl
theorem xS(W:World):(Instr.makeSlice 132 (.int .i64 2048) (.int .i64 2048)).run Tryz.prog W= .ok (.slice (some ⟨W.heap.size,0,none⟩) 2048 2048) (W.alloc (.cells (madeCells #[.bool false] (2048*1)) 4)):=
 dx (P:=Tryz.prog) 132 4 (.bool false) 1 1 Tryz.underlying132 pq .i64 .i64 2048 (by omega) (by omega) W
theorem Ov(z:Nat->Int)(i:Nat):bt z i=decide ((z (i/8)).toNat/2^(i%8)%2=1):=by
 unfold bt;rw[Nat.testBit_eq_decide_div_mod_eq]
def Iw(z:Nat->Int)(k i:Nat):Bool:=if i<k then bt z i else false
theorem G3(z:Nat->Int)(k i:Nat):(if i=k then bt z k else Iw z k i)=Iw z (k+1) i:=by
 unfold Iw
 by_cases e:i=k
 ·subst e;rw[if_pos rfl,if_pos (by omega)]
 rw[if_neg e]
 by_cases h:i<k
 ·rw[if_pos h,if_pos (by omega)]
 rw[if_neg h,if_neg (by omega)]
structure PN(w:World)(z:Nat->Int)(q:Nat)(P:Nat->Bool)(W:World):Prop where
 b:aU W w.heap.size 32 256 z
 l:aE W q 4 1 2048 (kH P)
 n:w.heap.size<q
 bel:Below w.heap.size w W
theorem wQ{W:World}{n:Nat}(h:aE W q T 1 n (kH P))(hk:k<n)(v:Bool):aE (W.setCell ⟨q,k,none⟩ (.bool v)) q T 1 n (kH (ak P k v)):=by
 have:=h.dO (k:=k) (j:=0) hk (by decide) (λi=>KA P i) (.bool v);rw[Nat.mul_one,Nat.add_zero] at this;refine this.congr λi hi=> ?_
 unfold kH ak
 by_cases e:i=k
 ·rw[if_pos e,if_pos e];rfl
 rw[if_neg e,if_neg e]
theorem PN.set{W:World}(h:PN w z q (Iw z k) W)(hk:k<2048):PN w z q (Iw z (k+1)) (W.setCell ⟨q,k,none⟩ (.bool (bt z k))):=by
 have ho:=az.setCell W ⟨q,k,none⟩ (.bool (bt z k));have hn:=h.n;refine⟨aU.only h.b ho (by show w.heap.size≠q;omega),(wQ h.l hk (bt z k)).congr λi hi=> ?_,h.n,h.bel.trans (ho.below (by show w.heap.size<=q;omega))⟩;unfold kH ak;rw[<-G3]
theorem ru(z:Nat->Int)(hz:bu z)(w:World):Calls Tryz.prog 110 #[aR z] w λe w'=>∃q,e= .returned (.slice (some ⟨q,0,none⟩) 2048 2048)/\w.heap.size<=q/\aE w' q 4 1 2048 (kH (bt z))/\Below w.heap.size w w':=by
 have hmk:=xS;have hB0:=aU.new w 32 256 z;have hb0:Below w.heap.size w (w.alloc (.cells (Ks .u8 256 z).toArray 32)):=ag.alloc af _;obtain⟨W0,hW0⟩:=aa (w.alloc (.cells (Ks .u8 256 z).toArray 32));have hsz:W0.heap.size=w.heap.size+1:=by rw[hW0,World.size_alloc]
 obtain⟨q,hq⟩:=aa (w.heap.size+1);obtain⟨W1,hW1⟩:=aa (W0.alloc (.cells (madeCells #[.bool false] 2048) 4));rw[<-hW0] at hB0 hb0;have dt:Hd (PN w z q (Iw z 0) W1):=by
  rw[hW1];refine⟨hB0.alloc _,?_,by omega,hb0.alloc (by omega) _⟩;have:=aE.made (m:=1) W0 #[.bool false] rfl (by omega) 2048 4;rw[hsz,<-hq] at this;exact this.congr λi hi=>rfl
 have IA:=ah (And.intro hW0 (And.intro hq hW1));have HZ:=ah hz;clear hB0 hb0 hsz hW0 hq hW1 hz;go_enter Tryz.func110,Tryz.ntmps110;go_wp2_with fail;rw[<-IA.Z.1,<-IA.Z.2.1,<-IA.Z.2.2];clear IA hmk;go_loopw [4,5,6] (λu _ _ wr=>∃i:Nat,i<=2048/\u= .int .i64 (i:Int)/\PN w z q (Iw z i) wr) (λu _ _ _=>2048-(intOf u).toNat)
 case atStart=>exact⟨0,by omega,rfl,dt.Z⟩
 clear dt;obtain⟨i,hi,rfl,st⟩:=hrel
 by_cases hlt:i<2048
 ·have hlt':(i:Int)<2048:=by omega
  have h0:(i:Int).tdiv 8=((i/8:Nat):Int):=by rw[Int.tdiv_eq_ediv_of_nonneg (by omega)];omega
  have h1:(i:Int).tmod 8=((i%8:Nat):Int):=by rw[Int.tmod_eq_emod_of_nonneg (by omega)];omega
  have TC:i/8<256:=by omega
  have hm8:i%8<8:=Nat.mod_lt _ (by decide);obtain⟨X,hX⟩:=aa ((z (i/8)).toNat:Nat);have hX9:X<256:=by have:=HZ.Z (i/8);omega
  have c0:wr.cell? ⟨w.heap.size,i/8,none⟩=some (.int .u8 (X:Int)):=by
   have:=st.b.bQ (i/8) TC;rw[Nat.zero_add] at this;rw[this,hX,Int.toNat_of_nonneg (HZ.Z (i/8)).1]
  have Tj:Hd (bt z i=decide (X/2^(i%8)%2=1)):=by show _=_;rw[Ov,<-hX]
  have ST:=ah st;obtain⟨k,hk⟩:=aa (i/8);obtain⟨m,hm⟩:=aa (i%8);rw[<-hk] at h0 c0 TC;rw[<-hm] at h1 Tj hm8;have ku:(0:Int)<=(k:Int):=by omega
  have hk1:(k:Int)<256:=by omega
  clear hX hk hm st;go_wp2_with fail;clear c0 h0;go_loopw [5,6] (λu5 u6 wr=>∃k:Nat,k<=m/\u6= .int .i64 (k:Int)/\u5= .int .i64 ((X/2^k:Nat):Int)/\PN w z q (Iw z i) wr) (λ_ u6 _=>m-(intOf u6).toNat)
  case atStart=>exact⟨0,by omega,rfl,by rw[Nat.pow_zero,Nat.div_one],ST.Z⟩
  clear ST;obtain⟨k',hk',rfl,rfl,st⟩:=hrel;have hY:X/2^k'<=X:=Nat.div_le_self _ _;have HN:Hd (X/2^k'/2=X/2^(k'+1)):=by show _=_;rw[Nat.div_div_eq_div_mul,Nat.pow_succ]
  obtain⟨Y,WS⟩:=aa (X/2^k');rw[<-WS] at hY HN ⊢;have HYD:=ah WS;clear WS;have ST:=ah st
  by_cases hlk:k'<m
  ·have ads:(k':Int)<(m:Int):=by omega
   have hd:(Y:Int).tdiv 2=((Y/2:Nat):Int):=by rw[Int.tdiv_eq_ediv_of_nonneg (by omega)];omega
   clear st;go_wp2_with fail;go_roundw
   case rel=>exact⟨k'+1,by omega,by go_num,by rw[<-HN.Z];congr 1,ST.Z⟩
   simp[intOf];omega
  obtain rfl:k'=m:=by omega
  obtain⟨R,hR⟩:=aa ((Y:Int).tmod 2);have hRB:(R==1)=bt z i:=by
   rw[Tj.Z,<-HYD.Z,hR,Int.tmod_eq_emod_of_nonneg (by omega)];rw[Bool.eq_iff_iff,beq_iff_eq,decide_eq_true_eq];omega
  have ci:wr.cell? ⟨q,i,none⟩=some (.bool (Iw z i i)):=by
   have:=st.l.bQ i hlt 0 _ rfl;rwa[Nat.zero_add,Nat.mul_one,Nat.add_zero] at this
  have fi:wr.frozen? ⟨q,i,none⟩=false:=st.l.soft i;have HS:=ah (st.set hlt);have lq:=hR.symm;clear st ST hR HN HYD Tj;obtain⟨V,hV⟩:=aa (bt z i);rw[<-hV] at hRB;have HV:=ah hV;clear hV;cases V with
  |true=>
   go_wp2_with fail;go_roundw
   case rel=>exact⟨i+1,by omega,by go_num,by have:=HS.Z;rw[<-HV.Z] at this;exact this⟩
   simp[intOf];omega
  |false=>
   go_wp2_with fail;go_roundw
   case rel=>exact⟨i+1,by omega,by go_num,by have:=HS.Z;rw[<-HV.Z] at this;exact this⟩
   simp[intOf];omega
 obtain rfl:i=2048:=by omega
 have ST:=ah st;clear st hlt;go_wp2_with fail;go_ret;exact⟨q,rfl,by have:=ST.Z.n;omega,ST.Z.l.congr λi hi=>by unfold kH Iw;rw[if_pos hi],ST.Z.bel⟩
structure TnS(w:World)(z:Nat->Int)(q:Nat)(P:Nat->Bool)(W:World):Prop where
 b:aU W w.heap.size 32 256 z
 r:aU W (w.heap.size+1) 32 256 (λ_=>0)
 l:aE W q 4 1 2048 (kH P)
 n:w.heap.size+2<=q
 bel:Below w.heap.size w W
theorem Ja{i:Nat}(h:P i=true):nA P i=P:=by
 funext j;unfold nA;split
 ·rename_i e;rw[e,h]
 rfl
theorem D8(hz:bu z):bZ (bt z)=z:=funext (Ma hz)
theorem G5{W:World}(h:aE W q T 1 2048 (kH P)):cU W (some ⟨q,0,none⟩) 1 2048 (kH P):=.inr ⟨q,0,rfl,h.bQ⟩
theorem An(z:Nat->Int)(hz:bu z)(i:Nat)(hi:i<2048)(w:World):Calls Tryz.prog 109 #[aR z,.int .i64 (i:Int),.bool true] w λe w'=>e= .returned (.tuple #[aR (bZ (nA (bt z) i)),.bool (!bt z i)])/\Below w.heap.size w w':=by
 have hal:=cW;have hB:=(aU.new w 32 256 z).alloc (.cells (Ks .u8 256 (λ_=>0)).toArray 32);have hR:=aU.new (w.alloc (.cells (Ks .u8 256 z).toArray 32)) 32 256 (λ_=>0);rw[World.size_alloc] at hR;have hb0:Below w.heap.size w ((w.alloc (.cells (Ks .u8 256 z).toArray 32)).alloc (.cells (Ks .u8 256 (λ_=>0)).toArray 32)):=(ag.alloc af _).alloc (by simp) _;have hsz:((w.alloc (.cells (Ks .u8 256 z).toArray 32)).alloc (.cells (Ks .u8 256 (λ_=>0)).toArray 32)).heap.size=w.heap.size+2:=by simp
 have H0:=ah (And.intro hR (And.intro hb0 hsz));have d1:decide ((i:Int)<0)=false:=decide_eq_false (by omega);have d2:decide ((2048:Int)<=(i:Int))=false:=decide_eq_false (by omega);have TY:decide (2048<=i)=false:=decide_eq_false (by omega);clear hR hb0 hsz;go_enter Tryz.func109,Tryz.ntmps109;go_wp2_with (first|(refine gm rfl _ rfl _ _ rfl hB ?_))
 refine(ru z hz _).mono ?_;rintro e w1 ⟨q,rfl,hq,hl,hb1⟩;have fj:TnS w z q (bt z) w1:=⟨hB.below hb1 hB.lt,H0.Z.1.below hb1 H0.Z.1.lt,hl,by have:=H0.Z.2.2;omega,H0.Z.2.1.trans (hb1.mono H0.Z.2.1.size)⟩;have wF:=fj.b;have tr:=fj.r;have ci:w1.cell? ⟨q,i,none⟩=some (.bool (bt z i)):=by
  have:=fj.l.bQ i hi 0 _ rfl;rwa[Nat.zero_add,Nat.mul_one,Nat.add_zero] at this
 have fi:w1.frozen? ⟨q,i,none⟩=false:=fj.l.soft i;have hi0:(i:Int)<2048:=by omega
 have bh:=ah fj;have HZ:=ah hz;clear hB hl hb1 H0 fj hq hz;obtain⟨V,hV⟩:=aa (bt z i);rw[<-hV] at ci;have HV:=ah hV;clear hV;cases V with
 |true=>
  go_wp2_with (first|(refine gm rfl _ rfl _ _ rfl wF ?_)|(refine bm rfl _ _ rfl _ z _ rfl rfl tr ?_))
  intro w2 lq eI;go_wp2_with fail;exact bodyPost_ret (kq rfl _ _ (w.heap.size+1) _ rfl lq) rfl ⟨by rw[Ja HV.Z.symm,D8 HZ.Z,<-HV.Z];rfl,bh.Z.bel.trans (eI.below (by omega))⟩
 |false=>
  have HL:=ah (wQ bh.Z.l hi true);have ho:=az.setCell w1 ⟨q,i,none⟩ (.bool true);have hn:=bh.Z.n;have lq:=tr.only ho (by show w.heap.size+1≠q;omega);have jQ:=ah (bh.Z.bel.trans (ho.below (by show w.heap.size<=q;omega)));have HQ:Hd (q<(w1.setCell ⟨q,i,none⟩ (.bool true)).heap.size):=HL.Z.lt;clear tr wF ho;go_wp2_with fail;refine(rz (ak (bt z) i true) (some ⟨q,0,none⟩) 2048 _ (G5 HL.Z) (λb off e=>by injection e with e;injection e with e;subst e;exact HQ.Z)).mono ?_;rintro e w3 ⟨rfl,hb3⟩;have yO:=lq.below hb3 lq.lt;have EH:=ah (jQ.Z.trans (hb3.mono jQ.Z.size));clear lq jQ hb3 ci fi;go_wp2_with (first|(refine bm rfl _ _ rfl _ (bZ (ak (bt z) i true)) _ rfl rfl yO ?_))
  intro w4 LU ke;go_wp2_with fail;exact bodyPost_ret (kq rfl _ _ (w.heap.size+1) _ rfl LU) rfl ⟨by rw[<-HV.Z];rfl,EH.Z.trans (ke.below (by omega))⟩
theorem pg(z:Nat->Int)(hz:bu z)(n:Nat)(hn:n<=2048)(w:World):Calls Tryz.prog 70 #[aR z,.int .i64 (n:Int)] w λe w'=>e= .returned (.int .i64 ((aL (bt z) n:Nat):Int))/\Below w.heap.size w w':=by
 have hB:=aU.new w 32 256 z;have Bl:Hd (Below w.heap.size w (w.alloc (.cells (Ks .u8 256 z).toArray 32))):=ag.alloc af _;go_enter Tryz.func70,Tryz.ntmps70;go_wp2_with (first|(refine gm rfl _ rfl _ _ rfl hB ?_))
 refine(ru z hz _).mono ?_;rintro e w1 ⟨q,rfl,hq,hl,hb1⟩;have Uk:=ah hl;have kB:=ah (Bl.Z.trans (hb1.mono Bl.Z.size));have HCL:Hd (∀k,aL (bt z) k<=k):=λk=>eT _ k
 clear hB hl hb1 Bl hq hz;go_wp2_with fail
 go_loop [6,7] (λu v=>∃i:Nat,i<=2048/\v= .int .i64 (i:Int)/\u= .int .i64 ((aL (bt z) (min i n):Nat):Int)) (λ_ v=>2048-(intOf v).toNat)
 case atStart=>exact⟨0,by omega,rfl,by rw[Nat.zero_min];rfl⟩
 obtain⟨i,hi,rfl,rfl⟩:=hrel
 by_cases hlt:i<2048
 ·have hlt':(i:Int)<2048:=by omega
  have ci:w1.cell? ⟨q,i,none⟩=some (.bool (bt z i)):=by
   have:=Uk.Z.bQ i hlt 0 _ rfl;rwa[Nat.zero_add,Nat.mul_one,Nat.add_zero] at this
  by_cases hin:i<n
  ·have e1:min i n=i:=by omega
   have e2:min (i+1) n=i+1:=by omega
   rw[e1];have HN:Hd (aL (bt z) (min (i+1) n)=aL (bt z) i+if bt z i then 1 else 0):=by show _=_;rw[e2,aL]
   have hc:=HCL.Z i;obtain⟨C,hC⟩:=aa (aL (bt z) i);obtain⟨V,hV⟩:=aa (bt z i);rw[<-hC] at HN hc ⊢;rw[<-hV] at HN ci;have hin':(i:Int)<(n:Int):=by omega
   have hd:decide ((i:Int)<(n:Int))=true:=decide_eq_true hin';have hd':decide (i<n)=true:=decide_eq_true hin;clear hC hV e1 e2;cases V with
   |true=>
    have Cq:Hd (aL (bt z) (min (i+1) n)=C+1):=by show _=_;rw[HN.Z,if_pos rfl]
    clear HN;go_wp2_with fail
    go_round
    case rel=>exact⟨i+1,by omega,by go_num,by rw[Cq.Z];go_num⟩
    simp[intOf];omega
   |false=>
    have Cq:Hd (aL (bt z) (min (i+1) n)=C):=by show _=_;rw[HN.Z,if_neg (by decide)];rfl
    clear HN;go_wp2_with fail
    go_round
    case rel=>exact⟨i+1,by omega,by go_num,by rw[Cq.Z]⟩
    simp[intOf];omega
  have e1:min i n=n:=by omega
  have Cq:Hd (min (i+1) n=min i n):=by show _=_;omega
  have hd:decide ((i:Int)<(n:Int))=false:=decide_eq_false (by omega);have hd':decide (i<n)=false:=decide_eq_false hin;clear e1;go_wp2_with fail
  go_round
  case rel=>exact⟨i+1,by omega,by go_num,by rw[Cq.Z]⟩
  simp[intOf];omega
 obtain rfl:i=2048:=by omega
 have HE:Hd (min 2048 n=n):=by show _=_;omega
 go_wp2_with fail;go_ret;exact⟨rfl,kB.Z⟩
end Go.Proofs.YtphamecphmbipaaGreatDoor
