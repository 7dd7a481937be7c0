/- Texts of this claim, merged. -/
import Derived.Test.YtphamecphmbipaaGreatDoorK22
set_option linter.unusedVariables false
set_option maxRecDepth 100000
set_option maxHeartbeats 16000000

namespace Go.Proofs.YtphamecphmbipaaGreatDoor
open Go.RowKit
open Lib (hid)
variable {w W':World} {base k cap X q:Nat} {e T:TypeId} {v:Value} {xs:List Value} {a:Option Addr} {y z:Nat->Int} {s:ByteArray} {P:Nat->Bool}
theorem nC{w':World}{size:Nat}{n:Nat}(h:w.ownsRow base e size v n xs)(hb:Below w.heap.size w w'):w'.ownsRow base e size v n xs:=
 World.ownsRow.kept h (bq (row:=none) hb) (Classical.em _)
theorem ou{W:World}{I:Nat->Int}{N:Nat->ByteArray}(h:W.ownsRow base e 2 (.slice a k cap) k (Sc I N k)):GO W a k I N:=by
 rcases h.2 with⟨hv,h0⟩|⟨g,cap',cur,hv,hb,hg,hn,hc,hs,ht⟩
 ·exact .inl h0
 ·injection hv with h1 h2 h3
  subst h1;refine .inr ⟨g,0,rfl,λi hi=> ?_⟩;obtain⟨h1,h2⟩:=AY I N k i hi;rw[<-ht,List.getElem?_take_of_lt (by omega)] at h1 h2;rw[Nat.zero_add];exact⟨ay hg (by simpa using h1),ay hg (by simpa using h2)⟩
theorem jo{W:World}{n:Nat}{size:Nat}(h:W.ownsRow base e size v n xs):∃a cap,v= .slice a n cap:=by
 rcases h.2 with⟨rfl,rfl⟩|⟨g,cap,cur,rfl,_⟩
 ·exact⟨none,0,rfl⟩
 ·exact⟨_,cap,rfl⟩
def xN(y:Nat->Int):ByteArray:=if bL y=0 then ByteArray.empty else if dk y<=27 then sA y else ByteArray.empty
theorem lD:eD ByteArray.empty=false:=by decide+kernel
theorem kG(y:Nat->Int):(sA y).size=dk y:=by unfold sA;rw[strOfNums_size];simp
theorem Ik(y:Nat->Int):(xN y).size<=27:=by
 unfold xN;split
 ·decide
 ·split
  ·rw[kG];assumption
  ·decide
theorem NV(hy:bm y)(j:Nat)(hj:j<dk y):bz (sA y) j=y (5+j):=by
 have h5:=hy (5+j);unfold bz sA;rw[strOfNums_data,List.map_map,List.getD,List.getElem?_eq_getElem (by simpa using hj)];simp only[List.getElem_map,List.getElem_range,Function.comp,Option.getD_some];rw[UInt8.toNat_ofNat'];omega
theorem ME(hy:bm y)(h:dk y<=27)(j:Nat)(hj:j<5+dk y):I4 (sA y) (bL y) j=y j:=by
 unfold I4
 by_cases h4:j<4
 ·rw[if_pos h4]
  have:=AS y hy 0 j h4;rw[Nat.zero_add] at this;exact this
 ·rw[if_neg h4]
  by_cases h5:j=4
  ·rw[if_pos h5,h5,kG]
   unfold dk;have:=hy 4;omega
  ·rw[if_neg h5,if_pos (by rw[kG];omega),NV hy _ (by omega)]
   congr 1;omega
theorem EM(hy:bm y):(bL y≠0->eD (xN y)=false->lT y=false)/\(¬(bL y≠0/\eD (xN y)=false)->me (bS (bL y) (xN y)) y 32=lT y)/\
  (lT y=true->CD y=bL y/\CC y=xN y/\(bL y≠0->eD (xN y)=true)):=by
 by_cases h0:bL y=0
 ·refine⟨λh=>absurd h0 h,λ_=> ?_,λhk=>⟨?_,?_,λh=>absurd h0 h⟩⟩
  ·unfold bS lT
   rw[if_pos h0,if_pos h0,Bool.eq_iff_iff,iT,jz];exact⟨λh i hi=>(h i hi).symm,λh i hi=>(h i hi).symm⟩
  ·unfold CD;rw[hk];rfl
  ·unfold CC xN;rw[hk,h0];rfl
 ·by_cases BK:dk y<=27
  ·have hx:xN y=sA y:=by unfold xN;rw[if_neg h0,if_pos BK]
   rw[hx];refine⟨λ_ hm=> ?_,λhc=> ?_,λhk=>⟨?_,?_,λ_=> ?_⟩⟩
   ·unfold lT;rw[if_neg h0,hm];simp
   ·have hm:eD (sA y)=true:=by
     cases e:eD (sA y) with
     |true=>rfl
     |false=>exact absurd ⟨h0,e⟩ hc
    unfold bS lT;rw[if_neg h0,if_neg h0,hm,decide_eq_true BK,Bool.true_and,Bool.and_true,Bool.eq_iff_iff,iT,jz];constructor
    ·intro h j hj
     have:=h (5+dk y+j) (by omega);rw[<-this];unfold I4;rw[if_neg (by omega),if_neg (by omega),if_neg (by rw[kG];omega)]
    ·intro h j hj
     by_cases Lm:j<5+dk y
     ·exact ME hy BK j Lm
     ·have:=h (j-(5+dk y)) (by omega)
      rw[show 5+dk y+(j-(5+dk y))=j by omega] at this;rw[this];unfold I4;rw[if_neg (by omega),if_neg (by omega),if_neg (by rw[kG];omega)]
   ·unfold CD;rw[hk];rfl
   ·unfold CC;rw[hk,show(bL y !=0)=true by simpa using h0];rfl
   ·unfold lT at hk
    rw[if_neg h0,Bool.and_eq_true,Bool.and_eq_true] at hk;exact hk.2.2
  ·have hx:xN y=ByteArray.empty:=by unfold xN;rw[if_neg h0,if_neg BK]
   have hn:lT y=false:=by unfold lT;rw[if_neg h0,decide_eq_false BK];rfl
   rw[hx,lD,hn];exact⟨λ_ _=>rfl,λh=>absurd ⟨h0,rfl⟩ h,λh=>by cases h⟩
structure RlS(w:World)(z:Nat->Int)(k:Nat)(a:Option Addr)(cap:Nat)(W:World):Prop where
 b:aQ W w.heap.size 32 256 z
 own:W.ownsRow (w.heap.size+1) 90 2 (.slice a k cap) k (Sc (dI z) (dM z) k)
 bel:Below w.heap.size w W
theorem RlS.below{W:World}(h:RlS w z k a cap W)(hb:Below W.heap.size W W'):RlS w z k a cap W':=⟨h.b.below hb h.b.lt,nC h.own hb,h.bel.trans (hb.mono h.bel.size)⟩
theorem RlS.drew{W:World}(h:RlS w z k a cap W):RlS w z k a cap W.drew:=⟨h.b,h.own,h.bel.drew⟩
def gh(w:World)(z:Nat->Int)(e:Ending)(w':World):Prop:=
 Below w.heap.size w w'/\(iI z=false/\e= .returned (.tuple #[.slice none 0 0,.int .i64 80])\/
  iI z=true/\∃a cap,e= .returned (.tuple #[.slice a 8 cap,.int .i64 0])/\w'.ownsRow (w.heap.size+1) 90 2 (.slice a 8 cap) 8 (Sc (dI z) (dM z) 8))
theorem FM:(Tryz.prog.info? 9).map (·.size)=some 1:=by kernel_rfl
theorem jV:(Tryz.prog.info? 90).map (λi=>(i.zero,i.size,i.bytes))=some (some (.agg #[.int .u32 0,.string ByteArray.empty]),2,24):=by kernel_rfl
theorem od(x:Int)(s:ByteArray)(w:World):(Instr.buildSlice 88 1 #[(0,.agg #[.int .u32 x,.string s])]).run Tryz.prog w= .ok (.slice (some ⟨w.heap.size,0,none⟩) 1 1) (w.alloc (.cells #[.int .u32 x,.string s] 90)):=by kernel_rfl
theorem qE(w:World)(x:Int)(s:ByteArray):∀(j:Nat) (u:Value),([.int .u32 x,.string s]:List Value)[j]? =some u->(w.alloc (.cells #[.int .u32 x,.string s] 90)).cell? ((⟨w.heap.size,0,none⟩:Addr).add j)=some u:=by
 intro j u hj;rw[bh];rcases j with _|_|j
 ·cases hj;exact ay (heap_alloc_new w _) rfl
 ·cases hj;exact ay (heap_alloc_new w _) rfl
 ·cases hj
theorem pN(x:Int)(s:ByteArray):∀u∈([.int .u32 x,.string s]:List Value),u.oneCell'=true:=by
 intro u hu;simp only[List.mem_cons,List.not_mem_nil,or_false] at hu;rcases hu with rfl|rfl<;>rfl
structure wF(w:World)(z:Nat->Int)(k:Nat)(a:Option Addr)(cap:Nat)(X:Nat)(ino:Int)(s:ByteArray)(W:World):Prop extends RlS w z k a cap W where
 x:At W X 90 #[.int .u32 ino,.string s]
 ne:w.heap.size<X
theorem wF.below{ino:Int}{W:World}(h:wF w z k a cap X ino s W)(hb:Below W.heap.size W W'):wF w z k a cap X ino s W':=⟨h.toRlS.below hb,h.x.below hb h.x.lt,h.ne⟩
theorem wF.drew{ino:Int}{W:World}(h:wF w z k a cap X ino s W):wF w z k a cap X ino s W.drew:=⟨h.toRlS.drew,h.x,h.ne⟩
theorem RlS.new{W:World}(h:RlS w z k a cap W)(ino:Int)(s:ByteArray):wF w z k a cap W.heap.size ino s (W.alloc (.cells #[.int .u32 ino,.string s] 90)):=
 ⟨h.below ((Below.refl _ _).alloc (Nat.le_refl _) _),At.new _ _ _,h.b.lt⟩
theorem CS(z:Nat->Int)(hz:bm z)(w:World):Calls Tryz.prog 163 #[aL z] w (gh w z):=by
 have hal:=lu;have HS:Hid (RlS w z 0 none 0 (w.alloc (.cells (Ks .u8 256 z).toArray 32))):=⟨aQ.new _ _ _ _,World.ownsRow_nil _ _ _ _,(Below.refl _ _).alloc (Nat.le_refl _) _⟩;go_enter Tryz.func163,Tryz.ntmps163;go_wp2_with fail;have st0:=HS.out;clear HS;go_loopw [4,5] (λv u wr=>∃(k:Nat) (a:Option Addr) (cap:Nat),k<=8/\u= .int .i64 (k:Int)/\v= .slice a k cap/\Hid (Bk z k=true)/\RlS w z k a cap wr) (λ_ u _=>8-(intOf u).toNat)
 case atStart=>exact⟨0,none,0,by omega,rfl,rfl,rfl,st0⟩
 case round=>
  clear st0;obtain⟨k,a,cap,hk,rfl,rfl,KC,st⟩:=hrel
  by_cases hlt:k<8
  ·have hsl:∀W,(Instr.sliceAt 32 (.pointer (some ⟨w.heap.size,0,none⟩)) (some (.int .i64 (32*(k:Int)))) (some (.int .i64 (32*(k:Int)+32))) none).run Tryz.prog W= .ok (.slice (some ⟨w.heap.size,32*k,none⟩) 32 (256-32*k)) W:=λW=>by
    have:=bU w.heap.size 0 (32*k) (32*k+32) (32*(k:Int)) (32*(k:Int)+32) (by omega) (by omega) (by omega) (by omega) (by omega) W;simp only[Nat.zero_add,show 32*k+32-32*k=32 by omega] at this;exact this
   go_wp2_with fail;have HY:Hid (∀W,RlS w z k a cap W->Seg W w.heap.size (32*k) 32 (sl z k)):=λW h=>by
    have:=h.b.bI.sub (32*k) 32 (by omega);rw[Nat.zero_add] at this;exact this
   have wM:bm (sl z k):=λj=>hz _
   refine(fh w.heap.size (32*k) 32 _ 0 (sl z k) _ (by decide) (by decide) (by decide) (HY.out _ st) wM).mono ?_;rintro e w1 ⟨rfl,m,hw1⟩;have eR:RlS w z k a cap w1:=by rw[hw1];exact st.below (ie (Below.refl _ _) m)
   clear st hw1 hsl;have wK:Hid (b9 (sl z k) (0:Int).toNat=bL (sl z k)):=rfl;rw[wK.out];clear wK;obtain⟨XB,KD,HR3⟩:Hid (_)/\Hid (_)/\Hid (_):=EM wM;have hI:0<=bL (sl z k)/\bL (sl z k)<4294967296:=dA wM 0;have Tg:Hid (dI z k=CD (sl z k)/\dM z k=CC (sl z k)):=⟨rfl,rfl⟩;have hlb:dk (sl z k)<256:=by have:=wM 4;unfold dk;omega
   have c4:∀W,RlS w z k a cap W->W.cell? ⟨w.heap.size,32*k+4,none⟩=some (.int .u8 (dk (sl z k):Int)):=λW h=>by
    rw[HY.out W h 4 (by omega)];have:=wM 4;unfold dk;congr 2;omega
   have TI:Hid (xN (sl z k)=if bL (sl z k)=0 then ByteArray.empty else if dk (sl z k)<=27 then sA (sl z k) else ByteArray.empty):=rfl;have HXS:Hid ((xN (sl z k)).size<=27):=Ik _;generalize hy:sl z k=y at*;obtain⟨hI0,hI1⟩:=hI
   by_cases h0:bL y=0
   ·have eC:Hid (wF w z k a cap w1.heap.size 0 ByteArray.empty (w1.alloc (.cells #[.int .u32 0,.string ByteArray.empty] 90))):=eR.new 0 ByteArray.empty
    have eC:=eC.out;have hX:=eC.x;have c41:=c4 _ eC.toRlS;have e0:(w1.alloc (.cells #[.int .u32 0,.string ByteArray.empty] 90)).cell? ⟨w1.heap.size,0,none⟩=some (.int .u32 0):=eC.x.cell (i:=0) rfl;have e1:(w1.alloc (.cells #[.int .u32 0,.string ByteArray.empty] 90)).cell? ⟨w1.heap.size,1,none⟩=some (.string ByteArray.empty):=eC.x.cell (i:=1) rfl;have Oa:Hid (xN y=ByteArray.empty):=by show _=_;rw[TI.out,if_pos h0]
    have LZ:Hid (me (bS 0 ByteArray.empty) y 32=lT y):=by show _=_;rw[<-KD.out (λh=>h.1 h0),h0,Oa.out]
    have TW:Hid (bL y=0):=h0;rw[h0];clear h0 eR;go_wp2_with fail;generalize w1.heap.size=X at*;refine(mu (0) (ByteArray.empty) (by decide) (.inl rfl) _).mono ?_;rintro e w3 ⟨g,hg,rfl,Re,hb3⟩;have fg:=eC.below hb3;clear eC hb3 hX e0 e1;go_wp2_with fail;refine(xx _ _ 32 _ _ (bS (0) (ByteArray.empty)) y _ (by decide) (.inr ⟨_,_,rfl,Re.bI⟩) (.inr ⟨_,_,rfl,HY.out _ fg.toRlS⟩)).mono ?_;rintro e w4 ⟨rfl,m',hw4⟩;have iF:wF w z k a cap X (0) (ByteArray.empty) w4:=by rw[hw4];exact fg.below (ie (Below.refl _ _) m')
    clear fg hw4 Re hg;rw[LZ.out];cases hok:lT y with
    |false=>
     have fin:Hid (gh w z (.returned (.tuple #[.slice none 0 0,.int .i64 80])) w4):=⟨iF.bel,.inl ⟨mo hlt (by rw[dR,hy,hok];simp),rfl⟩⟩;clear hok;go_wp2_with fail
     go_ret2
     exact fin.out
    |true=>
    have mS:=hid hok;obtain⟨Xv,Pk,HV3⟩:Hid (_)/\Hid (_)/\Hid (_):=HR3.out hok;clear hok;have LP:Hid (dI z k=0/\dM z k=ByteArray.empty):=⟨by rw[Tg.out.1,Xv.out,TW.out],by rw[Tg.out.2,Pk.out,Oa.out]⟩;go_wp2_with fail;go_loopw [11] (λu wr=>∃j:Nat,j<=k/\u= .int .i64 (j:Int)/\True/\wF w z k a cap X (0) (ByteArray.empty) wr) (λu _=>k-(intOf u).toNat)
    case atStart=>exact⟨0,by omega,rfl,trivial,iF⟩
    case round=>
     clear iF;obtain⟨j,hjk,rfl,_,st⟩:=hrel
     by_cases hj:j<k
     ·have m0:(0:Int)<=(j:Int):=by omega
      have m1:(j:Int)<(k:Int):=by omega
      go_wp2_with fail
      first
      |(go_roundw
        case rel=>first|exact⟨j+1,by omega,by go_num,trivial,st⟩|((repeat apply Exists.intro);exact⟨⟨j+1,by omega,by go_num,trivial,st⟩,rfl⟩)|exact⟨j+1,by omega,by go_num,st⟩|((repeat apply Exists.intro);exact⟨⟨j+1,by omega,by go_num,st⟩,rfl⟩)
        case measure=>simp[intOf];omega)
      |(refine ai (wF w z k a cap X (0) (ByteArray.empty)) (by kernel_rfl) (by kernel_rfl) st.drew ?_
        clear st;intro hne
        repeat go_big_quiet_step (fail)
        refine wpQuiet_nil ?_;intro w7 h7;have kF:=h7.out;clear h7 hne;go_wp2_with fail;go_roundw
        case rel=>first|exact⟨j+1,by omega,by go_num,trivial,kF⟩|((repeat apply Exists.intro);exact⟨⟨j+1,by omega,by go_num,trivial,kF⟩,rfl⟩)|exact⟨j+1,by omega,by go_num,kF⟩|((repeat apply Exists.intro);exact⟨⟨j+1,by omega,by go_num,kF⟩,rfl⟩)
        case measure=>simp[intOf];omega)
     ·obtain rfl:j=k:=by omega
      have sr:Hid (Bk z (j+1)=true):=by
       show _=_;rw[dR,KC.out,hy,mS.out];rw[LP.out.1];rfl
      have hbs:=od;have c0:wr.cell? ⟨X,0,none⟩=some (.int .u32 (0)):=st.x.cell (i:=0) rfl;have c1:wr.cell? ⟨X,1,none⟩=some (.string (ByteArray.empty)):=st.x.cell (i:=1) rfl;have hown':=World.ownsRow.alloc st.own (.cells #[.int .u32 (0),.string (ByteArray.empty)] 90);obtain⟨i0,hi,hz0,hz1,hz2⟩:=info_parts jV;have hblt:=st.b.lt;have hnews:=qE wr (0) (ByteArray.empty);have hone:=pN (0) (ByteArray.empty);clear hal;go_wp2_with (first|(refine wpList_append_own _ rfl _ _ 88 rfl (w.heap.size+1) 90 i0 (.agg #[.int .u32 0,.string ByteArray.empty]) 2 24 Tryz.underlying88 hi hz0 hz1 hz2 rfl (by decide) _ j _ rfl hown' ⟨wr.heap.size,0,none⟩ 1 1 [.int .u32 (0),.string (ByteArray.empty)] rfl rfl hnews hone (by unfold maxLen;omega) (by omega) (by simp;omega) ?_))
      intro v' w7 eV vT _;have lG:∀q,(Value.slice a j cap).ownBlock=some q->w.heap.size+1<=q:=λq hq=>(World.ownsRow.lt hown' q hq).1
      rw[show Sc (dI z) (dM z) j++[.int .u32 (0),.string (ByteArray.empty)]=Sc (dI z) (dM z) (j+1) by unfold Sc;rw[LP.out.1,LP.out.2];cases j<;>rfl] at eV;obtain⟨a',cap',hv'⟩:=jo eV;subst hv';have kF:RlS w z (j+1) a' cap' w7:=⟨(vT.block _ (st.b.alloc _).lt (λe=>by have:=lG _ e.symm;omega)).trans (st.b.alloc _),eV,(st.bel.alloc st.bel.size _).grown vT (st.bel.alloc st.bel.size _).size (λq e=>by have:=lG q e;omega)⟩;clear st hown' eV vT hbs c0 c1 hnews hone lG;go_wp2_with fail;go_roundw
      case rel=>(try((repeat apply Exists.intro);refine⟨?_,rfl⟩));exact⟨j+1,a',cap',by omega,by go_num,rfl,sr,kF⟩
      case measure=>simp[intOf];omega
   ·have TW:Hid (bL y≠0):=h0
    have q0:(0:Int)<bL y:=by omega
    have eC:wF w z k a cap w1.heap.size (bL y) ByteArray.empty (w1.alloc (.cells #[.int .u32 (bL y),.string ByteArray.empty] 90)):=eR.new (bL y) ByteArray.empty;have lG:Hid (∀q,(Value.slice a k cap).ownBlock=some q->q≠w1.heap.size):=λq hq=>by have:=(World.ownsRow.lt eR.own q hq).2;omega
    have c41:=c4 _ eC.toRlS;have e0:(w1.alloc (.cells #[.int .u32 (bL y),.string ByteArray.empty] 90)).cell? ⟨w1.heap.size,0,none⟩=some (.int .u32 (bL y)):=eC.x.cell (i:=0) rfl;have e1:(w1.alloc (.cells #[.int .u32 (bL y),.string ByteArray.empty] 90)).cell? ⟨w1.heap.size,1,none⟩=some (.string ByteArray.empty):=eC.x.cell (i:=1) rfl;have hX:=eC.x;have PN:Hid (wF w z k a cap w1.heap.size (bL y) (xN y) (w1.alloc (.cells #[.int .u32 (bL y),.string (xN y)] 90))):=eR.new (bL y) (xN y);clear eR
    by_cases BK:dk y<=27
    rotate_left
    ·have d27:¬(dk y:Int)<=27:=by omega
     have Oa:Hid (xN y=ByteArray.empty):=by show _=_;rw[TI.out,if_neg h0,if_neg BK]
     have HN:Hid (lT y=false):=XB.out h0 (by rw[Oa.out];exact lD);clear h0;go_wp2_with fail;refine(xP ByteArray.empty (by decide) _).mono ?_;rintro e w3 ⟨rfl,rfl⟩;rw[lD];have fin:Hid (gh w z (.returned (.tuple #[.slice none 0 0,.int .i64 80])) (w1.alloc (.cells #[.int .u32 (bL y),.string ByteArray.empty] 90))):=⟨eC.bel,.inl ⟨mo hlt (by rw[dR,hy,HN.out];simp),rfl⟩⟩;go_wp2_with fail
     go_ret2
     exact fin.out
    have d27:(dk y:Int)<=27:=by omega
    have Oa:Hid (xN y=sA y):=by show _=_;rw[TI.out,if_neg h0,if_pos BK]
    have hseg:=HY.out _ eC.toRlS;have hcv:∀dst,Tryz.prog.underlying dst=some .string->(convert 119 dst (.slice (some ⟨w.heap.size,32*k+5,none⟩) (dk y) (256-32*k-5))).run Tryz.prog (w1.alloc (.cells #[.int .u32 (bL y),.string ByteArray.empty] 90))= .ok (.string (sA y)) (w1.alloc (.cells #[.int .u32 (bL y),.string ByteArray.empty] 90)):=by
     exact run_convert_bytes_arg _ 119 5 Tryz.underlying119 Tryz.underlying5 w.heap.size (32*k+5) (dk y) _ _ (by simp) (λj hj=>by
      have:=hseg (5+j) (by omega);rw[Nat.add_assoc,this];simp[List.getD,hj])
    have JC:=hcv 9 Tryz.underlying9;have hsl:∀W,(Instr.slice 119 (.slice (some ⟨w.heap.size,32*k,none⟩) 32 (256-32*k)) (some (.int .i64 5)) (some (.int .i64 (5+(dk y:Int)))) none).run Tryz.prog W= .ok (.slice (some ⟨w.heap.size,32*k+5,none⟩) (dk y) (256-32*k-5)) W:=λW=>by
     have hsz:∀W,(Go.sizeOf 5).run Tryz.prog W= .ok 1 W:=λW=>by kernel_rfl
     rw[run_slice_lh W 119 _ 32 (256-32*k) (by kernel_rfl) .i64 .i64 5 (5+(dk y:Int)) (by omega) (by omega) (by omega),show Tryz.prog.elem 119=5 from by kernel_rfl,hsz];simp only[Result.andThen,sliced,Nat.mul_one];rw[show(5+(dk y:Int)).toNat=5+dk y by omega,show(5:Int).toNat=5 from rfl,show 5+dk y-5=dk y by omega,if_neg (by omega),Option.map_some,bh]
    clear hseg hcv;have Lh:(w1.alloc (.cells #[.int .u32 (bL y),.string ByteArray.empty] 90)).frozen? ⟨w1.heap.size,1,none⟩=false:=ag eC.x 1;rw[<-Oa.out] at JC;have LZ:Hid (¬eD (xN y)=false->me (bS (bL y) (xN y)) y 32=lT y):=λh=>KD.out (λh2=>h h2.2)
    have XF:Hid (eD (xN y)=false->lT y=false):=λh=>XB.out h0 h
    clear h0 TI XB KD Oa;go_wp2_with (first|(refine tu rfl 9 _ _ rfl _ _ _ rfl rfl _ e1 Lh FM rfl ?_))
    clear Lh JC hsl e0 e1 hX c41 c4 eC;have eC:=PN.out;clear PN;generalize w1.alloc (.cells #[.int .u32 (bL y),.string (xN y)] 90)=w2 at*;generalize w1.heap.size=X at*;have e0:w2.cell? ⟨X,0,none⟩=some (.int .u32 (bL y)):=eC.x.cell (i:=0) rfl;have e1:w2.cell? ⟨X,1,none⟩=some (.string (xN y)):=eC.x.cell (i:=1) rfl;have hX:=eC.x;go_wp2_with fail;refine(xP (xN y) (by have:=HXS.out;omega) _).mono ?_;rintro e w3 ⟨rfl,rfl⟩;cases hm:eD (xN y) with
    |false=>
     have fin:Hid (gh w z (.returned (.tuple #[.slice none 0 0,.int .i64 80])) w2):=⟨eC.bel,.inl ⟨mo hlt (by rw[dR,hy,XF.out hm];simp),rfl⟩⟩;clear hm;go_wp2_with fail
     go_ret2
     exact fin.out
    |true=>
    replace LZ:Hid (me (bS (bL y) (xN y)) y 32=lT y):=LZ.out (by rw[hm];decide)
    clear hm;go_wp2_with fail;refine(mu (bL y) (xN y) ⟨hI0,hI1⟩ (.inr HXS.out) _).mono ?_;rintro e w3 ⟨g,hg,rfl,Re,hb3⟩;have fg:=eC.below hb3;clear eC hb3 hX e0 e1;go_wp2_with fail;refine(xx _ _ 32 _ _ (bS (bL y) (xN y)) y _ (by decide) (.inr ⟨_,_,rfl,Re.bI⟩) (.inr ⟨_,_,rfl,HY.out _ fg.toRlS⟩)).mono ?_;rintro e w4 ⟨rfl,m',hw4⟩;have iF:wF w z k a cap X (bL y) (xN y) w4:=by rw[hw4];exact fg.below (ie (Below.refl _ _) m')
    clear fg hw4 Re hg;rw[LZ.out];cases hok:lT y with
    |false=>
     have fin:Hid (gh w z (.returned (.tuple #[.slice none 0 0,.int .i64 80])) w4):=⟨iF.bel,.inl ⟨mo hlt (by rw[dR,hy,hok];simp),rfl⟩⟩;clear hok;go_wp2_with fail
     go_ret2
     exact fin.out
    |true=>
    have mS:=hid hok;obtain⟨Xv,Pk,HV3⟩:Hid (_)/\Hid (_)/\Hid (_):=HR3.out hok;clear hok;have LP:Hid (dI z k=bL y/\dM z k=xN y):=⟨by rw[Tg.out.1,Xv.out],by rw[Tg.out.2,Pk.out]⟩;go_wp2_with fail;go_loopw [11] (λu wr=>∃j:Nat,j<=k/\u= .int .i64 (j:Int)/\Hid (∀i,i<j->fZ (dI z) (dM z) (dM z k) i=false)/\wF w z k a cap X (bL y) (xN y) wr) (λu _=>k-(intOf u).toNat)
    case atStart=>exact⟨0,by omega,rfl,λi hi=>by omega,iF⟩
    case round=>
     clear iF;obtain⟨j,hjk,rfl,ct,st⟩:=hrel
     by_cases hj:j<k
     ·have m0:(0:Int)<=(j:Int):=by omega
      have m1:(j:Int)<(k:Int):=by omega
      obtain⟨lb,Db,Lk⟩:∃b off,a=some ⟨b,off,none⟩:=by
       rcases ou st.own with h|⟨b,off,h,_⟩
       ·omega
       ·exact⟨b,off,h⟩
      subst Lk;have B9:Hid (∀W,wF w z k (some ⟨lb,Db,none⟩) cap X (bL y) (xN y) W->lh W lb Db k (dI z) (dM z)):=λW h=>by
       rcases ou h.own with h|⟨b,off,h,hs⟩
       ·omega
       ·injection h with h;injection h with h1 h2;subst h1 h2;exact hs
      have hcj:∀x:aT (wF w z k (some ⟨lb,Db,none⟩) cap X (bL y) (xN y)),x.W.cell? ⟨lb,Db+j*2+1,none⟩=some (.string (dM z j)):=λx=>(B9.out x.W x.h j hj).2
      have hcx:∀x:aT (wF w z k (some ⟨lb,Db,none⟩) cap X (bL y) (xN y)),x.W.cell? ⟨X,1,none⟩=some (.string (xN y)):=λx=>x.h.x.cell (i:=1) rfl
      have TX:Hid (fZ (dI z) (dM z) (dM z k) j=((dM z j).toList==(xN y).toList)):=by
       show _=_;unfold fZ;rw[LP.out.2,ByteArray.toList_eq,ByteArray.toList_eq];cases he:((dM z j).data.toList==(xN y).data.toList) with
       |false=>rw[Bool.and_false]
       |true=>
        have he':dM z j=xN y:=wE (beq_iff_eq.1 he);have:dI z j≠0:=λh0=>by
         have Vb:=((IH z k).1 KC.out).1 j hj;have hemp:dM z j=ByteArray.empty:=by
          unfold dI CD at h0;rw[Vb] at h0;unfold dM CC;rw[show bL (sl z j)=0 from h0];simp
         have:=HV3.out TW.out;rw[<-he',hemp,lD] at this;cases this
        rw[show(dI z j !=0)=true by simpa using this];rfl
      have pk:Hid (fZ (dI z) (dM z) (dM z k) j=false->∀i,i<j+1->fZ (dI z) (dM z) (dM z k) i=false):=λh i hi=>by
       by_cases e:i=j
       ·rw[e];exact h
       ·exact ct.out i (by omega)
      generalize hq:((dM z j).toList==(xN y).toList)=q at*;go_wp2_with fail;refine ai (wF w z k (some ⟨lb,Db,none⟩) cap X (bL y) (xN y)) (by kernel_rfl) (by kernel_rfl) st.drew ?_;clear st;intro hne
      repeat go_big_quiet_step (fail)
      refine wpQuiet_nil ?_;intro w7 h7;have kF:=h7.out;clear h7 hne hcj hcx hq;cases q with
      |true=>
       have fin:Hid (gh w z (.returned (.tuple #[.slice none 0 0,.int .i64 80])) w7):=⟨kF.bel,.inl ⟨mo hlt (by
        rw[dR,KC.out,hy,mS.out,Bool.true_and,Bool.true_and,Bool.or_eq_false_iff];refine⟨by rw[LP.out.1];simpa using TW.out,?_⟩;rw[beq_eq_false_iff_ne];intro hf;rw[rR hj ct.out TX.out] at hf;omega),rfl⟩⟩
       go_wp2_with fail
       go_ret2
       exact fin.out
      |false=>
       have wJ:=hid (pk.out TX.out);go_wp2_with fail;go_roundw
       case rel=>(try((repeat apply Exists.intro);refine⟨?_,rfl⟩));exact⟨j+1,by omega,by go_num,wJ,kF⟩
       case measure=>simp[intOf];omega
     ·obtain rfl:j=k:=by omega
      have sr:Hid (Bk z (j+1)=true):=by
       show _=_;rw[dR,KC.out,hy,mS.out];rw[iS ct.out];simp
      have hbs:=od;have c0:wr.cell? ⟨X,0,none⟩=some (.int .u32 (bL y)):=st.x.cell (i:=0) rfl;have c1:wr.cell? ⟨X,1,none⟩=some (.string (xN y)):=st.x.cell (i:=1) rfl;have hown':=World.ownsRow.alloc st.own (.cells #[.int .u32 (bL y),.string (xN y)] 90);obtain⟨i0,hi,hz0,hz1,hz2⟩:=info_parts jV;have hblt:=st.b.lt;have hnews:=qE wr (bL y) (xN y);have hone:=pN (bL y) (xN y);clear hal;go_wp2_with (first|(refine wpList_append_own _ rfl _ _ 88 rfl (w.heap.size+1) 90 i0 (.agg #[.int .u32 0,.string ByteArray.empty]) 2 24 Tryz.underlying88 hi hz0 hz1 hz2 rfl (by decide) _ j _ rfl hown' ⟨wr.heap.size,0,none⟩ 1 1 [.int .u32 (bL y),.string (xN y)] rfl rfl hnews hone (by unfold maxLen;omega) (by omega) (by simp;omega) ?_))
      intro v' w7 eV vT _;have lG:∀q,(Value.slice a j cap).ownBlock=some q->w.heap.size+1<=q:=λq hq=>(World.ownsRow.lt hown' q hq).1
      rw[show Sc (dI z) (dM z) j++[.int .u32 (bL y),.string (xN y)]=Sc (dI z) (dM z) (j+1) by unfold Sc;rw[LP.out.1,LP.out.2];cases j<;>rfl] at eV;obtain⟨a',cap',hv'⟩:=jo eV;subst hv';have kF:RlS w z (j+1) a' cap' w7:=⟨(vT.block _ (st.b.alloc _).lt (λe=>by have:=lG _ e.symm;omega)).trans (st.b.alloc _),eV,(st.bel.alloc st.bel.size _).grown vT (st.bel.alloc st.bel.size _).size (λq e=>by have:=lG q e;omega)⟩;clear st hown' eV vT hbs c0 c1 hnews hone lG;go_wp2_with fail;go_roundw
      case rel=>(try((repeat apply Exists.intro);refine⟨?_,rfl⟩));exact⟨j+1,a',cap',by omega,by go_num,rfl,sr,kF⟩
      case measure=>simp[intOf];omega
  ·obtain rfl:k=8:=by omega
   have fin:Hid (gh w z (.returned (.tuple #[.slice a 8 cap,.int .i64 0])) wr):=⟨st.bel,.inr ⟨KC.out,a,cap,rfl,st.own⟩⟩;go_wp2_with fail
   go_ret2
   exact fin.out
theorem IV{W:World}{base' n:Nat}{size:Nat}(h:W.ownsRow base e size v n xs)(hb:base'<=base):W.ownsRow base' e size v n xs:=by
 refine⟨h.1,?_⟩;rcases h.2 with h'|⟨g',cap',cur,hv,hbb,hr⟩
 ·exact .inl h'
 ·exact .inr ⟨g',cap',cur,hv,by omega,hr⟩
structure Pe(w:World)(z:Nat->Int)(g:Nat)(y:Nat->Int)(W:World):Prop where
 b:aQ W w.heap.size 32 256 z
 p:aQ W g 5 32 y
 r:aQ W (w.heap.size+1+1) 32 256 (λ_=>0)
 bel:Below w.heap.size w W
 ge:w.heap.size<g
theorem Pe.put{z':Nat->Int}{g:Nat}{W:World}(h:Pe w z g y W)(hB:aQ W' w.heap.size 32 256 z')(ho:an w.heap.size W W'):Pe w z' g y W':=
 ⟨hB,h.p.only ho (Nat.ne_of_gt h.ge),h.r.only ho (by omega),h.bel.trans (ho.below (Nat.le_refl _)),h.ge⟩
def xU(z:Nat->Int)(i:Nat)(y:Nat->Int)(n:Nat):Nat->Int:=over z (32*i) n y
theorem CT(z:Nat->Int)(i:Nat)(y:Nat->Int)(n j:Nat):over (xU z i y n) (32*i+n) 1 (λ_=>y n) j=xU z i y (n+1) j:=by
 unfold xU over
 by_cases h:32*i+n=j
 ·subst h
  rw[if_pos (by omega),if_pos (by omega),show 32*i+n-32*i=n by omega]
 ·rw[if_neg (by omega)]
  by_cases h2:32*i<=j/\j<32*i+n
  ·rw[if_pos h2,if_pos (by omega)]
  ·rw[if_neg h2,if_neg (by omega)]
theorem Fb(z:Nat->Int)(i:Nat)(wP:i<8)(ino:Int)(s:ByteArray)(hi:0<=ino/\ino<4294967296)(hs:ino=0\/s.size<=27)(w:World):
  Calls Tryz.prog 65 #[aL z,.int .i64 (i:Int),sv ino s] w λe w'=>e= .returned (aL (z8 z i (bS ino s)))/\Below w.heap.size w w':=by
 have hal:=cJ;obtain⟨hi0,hi1⟩:=hi;have HS:Hid (aQ (((w.alloc (.cells (Ks .u8 256 z).toArray 32)).alloc (.cells #[.int .u32 ino,.string s] 90)).alloc (.cells (Ks .u8 256 (λ_=>0)).toArray 32)) w.heap.size 32 256 z/\
   aQ (((w.alloc (.cells (Ks .u8 256 z).toArray 32)).alloc (.cells #[.int .u32 ino,.string s] 90)).alloc (.cells (Ks .u8 256 (λ_=>0)).toArray 32)) (w.heap.size+1+1) 32 256 (λ_=>0)/\
   Below w.heap.size w (((w.alloc (.cells (Ks .u8 256 z).toArray 32)).alloc (.cells #[.int .u32 ino,.string s] 90)).alloc (.cells (Ks .u8 256 (λ_=>0)).toArray 32))):=by
  refine⟨((aQ.new w _ 256 z).alloc _).alloc _,?_,(((Below.refl _ _).alloc (Nat.le_refl _) _).alloc (by simp) _).alloc (by simp;omega) _⟩;have:=aQ.new ((w.alloc (.cells (Ks .u8 256 z).toArray 32)).alloc (.cells #[.int .u32 ino,.string s] 90)) 32 256 (λ_=>0);simpa using this
 go_enter Tryz.func65,Tryz.ntmps65;go_wp2_with fail;generalize ((w.alloc (.cells (Ks .u8 256 z).toArray 32)).alloc (.cells #[.int .u32 ino,.string s] 90)).alloc (.cells (Ks .u8 256 (λ_=>0)).toArray 32)=w0 at*;refine(mu ino s ⟨hi0,hi1⟩ hs _).mono ?_;rintro e w1 ⟨g,hg,rfl,hp,hb1⟩;obtain⟨h1,h2,h3⟩:=HS.out;have eR:Pe w (xU z i (bS ino s) 0) g (bS ino s) w1:=⟨(h1.below hb1 h1.lt).congr λj _=>by unfold xU over;rw[if_neg (by omega)],hp,h2.below hb1 h2.lt,h3.trans (hb1.mono h3.size),by have:=h1.lt;omega⟩;have HPS:Hid (xU z i (bS ino s) 32=z8 z i (bS ino s)):=rfl;generalize Yp:bS ino s=y at*;have HYY:=hid Yp;clear Yp;clear HS h1 h2 h3 hp hb1 hg;go_wp2_with fail;go_loopw [8] (λu wr=>∃k:Nat,k<=32/\u= .int .i64 (k:Int)/\Pe w (xU z i y k) g y wr) (λu _=>32-(intOf u).toNat)
 case atStart=>exact⟨0,by omega,rfl,eR⟩
 case round=>
  clear eR;obtain⟨k,hk,rfl,st⟩:=hrel
  by_cases hlt:k<32
  ·have l0:(0:Int)<=(k:Int):=by omega
   have l1:(k:Int)<32:=by omega
   have hB:=st.b;have c0:wr.cell? ⟨g,k,none⟩=some (.int .u8 (y k)):=by have:=st.p.bI k hlt;rwa[Nat.zero_add] at this
   have e1:(32*(i:Int)+(k:Int)).toNat=32*i+k:=by omega
   have e2:(32*(i:Int)+(k:Int))<256:=by omega
   have e3:(0:Int)<=32*(i:Int)+(k:Int):=by omega
   go_wp2_with (first|(refine jF rfl _ _ rfl _ (32*i+k) (y k) rfl rfl hB (by omega) ?_))
   intro w4 hB4 kv;have iF:Pe w (xU z i y (k+1)) g y w4:=st.put (hB4.congr λj _=>CT z i y k j) kv;clear st hB hB4 kv c0;go_wp2_with fail;go_roundw
   case rel=>(try((repeat apply Exists.intro);refine⟨?_,rfl⟩));exact⟨k+1,by omega,by go_num,iF⟩
   case measure=>simp[intOf];omega
  ·obtain rfl:k=32:=by omega
   have hB:=st.b;have hR:=st.r;rw[HPS.out] at hB;go_wp2_with (first|(refine dD rfl _ rfl _ _ rfl hB ?_)|(refine a8 rfl _ _ rfl (w.heap.size+1+1) _ _ rfl rfl hR ?_))
   intro w9 O3 gD;go_wp2_with fail;exact bodyPost_ret (iO rfl _ _ (w.heap.size+1+1) _ rfl O3) rfl ⟨by rw[HYY.out],st.bel.trans (gD.below (by omega))⟩
theorem j9{fn:Func}{p u:Tmp}(h:fn.results= #[.cell p 32,.tmp u])(tmps:Array Value)(w:World)(g:Nat)(z:Nat->Int)
  (hp:tmps.getD p undef= .pointer (some ⟨g,0,none⟩)) (hg:aQ w g 32 256 z):(results fn tmps).run Tryz.prog w= .ok (.tuple #[aL z,tmps.getD u undef]) w:=
 bH h tmps w g 32 _ (0,0) _ hp hg Tryz.underlying32 rfl (a9 _)
theorem oZ:(Tryz.prog.info? 4).map (λi=>(i.zero,i.size,i.bytes))=some (some (.bool false),1,1):=by kernel_rfl
theorem xz(W:World):(Instr.makeSlice 132 (.int .i64 2048) (.int .i64 2048)).run Tryz.prog W= .ok (.slice (some ⟨W.heap.size,0,none⟩) 2048 2048) (W.alloc (.cells (madeCells #[.bool false] (2048*1)) 4)):=
 dg (P:=Tryz.prog) 132 4 (.bool false) 1 1 Tryz.underlying132 oZ .i64 .i64 2048 (by omega) (by omega) W
theorem NX(z:Nat->Int)(i:Nat):bt z i=decide ((z (i/8)).toNat/2^(i%8)%2=1):=by
 unfold bt;rw[Nat.testBit_eq_decide_div_mod_eq]
def Hu(z:Nat->Int)(k i:Nat):Bool:=if i<k then bt z i else false
theorem GC(z:Nat->Int)(k i:Nat):(if i=k then bt z k else Hu z k i)=Hu z (k+1) i:=by
 unfold Hu
 by_cases e:i=k
 ·subst e;rw[if_pos rfl,if_pos (by omega)]
 ·rw[if_neg e]
  by_cases h:i<k
  ·rw[if_pos h,if_pos (by omega)]
  ·rw[if_neg h,if_neg (by omega)]
structure Ph(w:World)(z:Nat->Int)(q:Nat)(P:Nat->Bool)(W:World):Prop where
 b:aQ W w.heap.size 32 256 z
 l:az W q 4 1 2048 (kr P)
 n:w.heap.size<q
 bel:Below w.heap.size w W
theorem wA{W:World}{n:Nat}(h:az W q T 1 n (kr P))(hk:k<n)(v:Bool):az (W.setCell ⟨q,k,none⟩ (.bool v)) q T 1 n (kr (af P k v)):=by
 have:=h.dz (k:=k) (j:=0) hk (by decide) (λi=>J9 P i) (.bool v);rw[Nat.mul_one,Nat.add_zero] at this;refine this.congr λi hi=> ?_
 unfold kr af
 by_cases e:i=k
 ·rw[if_pos e,if_pos e];rfl
 ·rw[if_neg e,if_neg e]
theorem Ph.set{W:World}(h:Ph w z q (Hu z k) W)(hk:k<2048):Ph w z q (Hu z (k+1)) (W.setCell ⟨q,k,none⟩ (.bool (bt z k))):=by
 have ho:=an.setCell W ⟨q,k,none⟩ (.bool (bt z k));have hn:=h.n;refine⟨aQ.only h.b ho (by show w.heap.size≠q;omega),(wA h.l hk (bt z k)).congr λi hi=> ?_,h.n,h.bel.trans (ho.below (by show w.heap.size<=q;omega))⟩;unfold kr af;rw[<-GC]
theorem qU(z:Nat->Int)(hz:bm z)(w:World):Calls Tryz.prog 110 #[aL z] w λe w'=>∃q,e= .returned (.slice (some ⟨q,0,none⟩) 2048 2048)/\w.heap.size<=q/\az w' q 4 1 2048 (kr (bt z))/\Below w.heap.size w w':=by
 have hmk:=xz;have hB0:=aQ.new w 32 256 z;have hb0:Below w.heap.size w (w.alloc (.cells (Ks .u8 256 z).toArray 32)):=(Below.refl _ _).alloc (Nat.le_refl _) _;obtain⟨W0,hW0⟩:∃W0,W0=w.alloc (.cells (Ks .u8 256 z).toArray 32):=⟨_,rfl⟩;have hsz:W0.heap.size=w.heap.size+1:=by rw[hW0,World.size_alloc]
 obtain⟨q,hq⟩:∃q,q=w.heap.size+1:=⟨_,rfl⟩;obtain⟨W1,hW1⟩:∃W1,W1=W0.alloc (.cells (madeCells #[.bool false] 2048) 4):=⟨_,rfl⟩;rw[<-hW0] at hB0 hb0;have cX:Hid (Ph w z q (Hu z 0) W1):=by
  rw[hW1];refine⟨hB0.alloc _,?_,by omega,hb0.alloc (by omega) _⟩;have:=az.made (m:=1) W0 #[.bool false] rfl (by omega) 2048 4;rw[hsz,<-hq] at this;exact this.congr λi hi=>rfl
 have Hy:=hid (And.intro hW0 (And.intro hq hW1));have HZ:=hid hz;clear hB0 hb0 hsz hW0 hq hW1 hz;go_enter Tryz.func110,Tryz.ntmps110;go_wp2_with fail;rw[<-Hy.out.1,<-Hy.out.2.1,<-Hy.out.2.2];clear Hy hmk;go_loopw [4,5,6] (λu _ _ wr=>∃i:Nat,i<=2048/\u= .int .i64 (i:Int)/\Ph w z q (Hu z i) wr) (λu _ _ _=>2048-(intOf u).toNat)
 case atStart=>exact⟨0,by omega,rfl,cX.out⟩
 case round=>
  clear cX;obtain⟨i,hi,rfl,st⟩:=hrel
  by_cases hlt:i<2048
  ·have hlt':(i:Int)<2048:=by omega
   have h0:(i:Int).tdiv 8=((i/8:Nat):Int):=by rw[Int.tdiv_eq_ediv_of_nonneg (by omega)];omega
   have h1:(i:Int).tmod 8=((i%8:Nat):Int):=by rw[Int.tmod_eq_emod_of_nonneg (by omega)];omega
   have SY:i/8<256:=by omega
   have hm8:i%8<8:=Nat.mod_lt _ (by decide);obtain⟨X,hX⟩:∃X:Nat,X=(z (i/8)).toNat:=⟨_,rfl⟩;have hX9:X<256:=by have:=HZ.out (i/8);omega
   have c0:wr.cell? ⟨w.heap.size,i/8,none⟩=some (.int .u8 (X:Int)):=by
    have:=st.b.bI (i/8) SY;rw[Nat.zero_add] at this;rw[this,hX,Int.toNat_of_nonneg (HZ.out (i/8)).1]
   have SH:Hid (bt z i=decide (X/2^(i%8)%2=1)):=by show _=_;rw[NX,<-hX]
   have ST:=hid st;obtain⟨k,hk⟩:∃k,k=i/8:=⟨_,rfl⟩;obtain⟨m,hm⟩:∃m,m=i%8:=⟨_,rfl⟩;rw[<-hk] at h0 c0 SY;rw[<-hm] at h1 SH hm8;have ke:(0:Int)<=(k:Int):=by omega
   have hk1:(k:Int)<256:=by omega
   clear hX hk hm st;go_wp2_with fail;clear c0 h0;go_loopw [5,6] (λu5 u6 wr=>∃k:Nat,k<=m/\u6= .int .i64 (k:Int)/\u5= .int .i64 ((X/2^k:Nat):Int)/\Ph w z q (Hu z i) wr) (λ_ u6 _=>m-(intOf u6).toNat)
   case atStart=>exact⟨0,by omega,rfl,by rw[Nat.pow_zero,Nat.div_one],ST.out⟩
   case round=>
    clear ST;obtain⟨k',hk',rfl,rfl,st⟩:=hrel;have hY:X/2^k'<=X:=Nat.div_le_self _ _;have HN:Hid (X/2^k'/2=X/2^(k'+1)):=by show _=_;rw[Nat.div_div_eq_div_mul,Nat.pow_succ]
    obtain⟨Y,Wl⟩:∃Y,Y=X/2^k':=⟨_,rfl⟩;rw[<-Wl] at hY HN ⊢;have HYD:=hid Wl;clear Wl;have ST:=hid st
    by_cases hlk:k'<m
    ·have acY:(k':Int)<(m:Int):=by omega
     have hd:(Y:Int).tdiv 2=((Y/2:Nat):Int):=by rw[Int.tdiv_eq_ediv_of_nonneg (by omega)];omega
     clear st;go_wp2_with fail;go_roundw
     case rel=>exact⟨k'+1,by omega,by go_num,by rw[<-HN.out];congr 1,ST.out⟩
     case measure=>simp[intOf];omega
    ·obtain rfl:k'=m:=by omega
     obtain⟨R,hR⟩:∃R,R=(Y:Int).tmod 2:=⟨_,rfl⟩;have hRB:(R==1)=bt z i:=by
      rw[SH.out,<-HYD.out,hR,Int.tmod_eq_emod_of_nonneg (by omega)];rw[Bool.eq_iff_iff,beq_iff_eq,decide_eq_true_eq];omega
     have ci:wr.cell? ⟨q,i,none⟩=some (.bool (Hu z i i)):=by
      have:=st.l.bI i hlt 0 _ rfl;rwa[Nat.zero_add,Nat.mul_one,Nat.add_zero] at this
     have fi:wr.frozen? ⟨q,i,none⟩=false:=st.l.soft i;have HS:=hid (st.set hlt);have kV:=hR.symm;clear st ST hR HN HYD SH;obtain⟨V,hV⟩:∃V,V=bt z i:=⟨_,rfl⟩;rw[<-hV] at hRB;have HV:=hid hV;clear hV;cases V with
     |true=>
      go_wp2_with fail;go_roundw
      case rel=>exact⟨i+1,by omega,by go_num,by have:=HS.out;rw[<-HV.out] at this;exact this⟩
      case measure=>simp[intOf];omega
     |false=>
      go_wp2_with fail;go_roundw
      case rel=>exact⟨i+1,by omega,by go_num,by have:=HS.out;rw[<-HV.out] at this;exact this⟩
      case measure=>simp[intOf];omega
  ·obtain rfl:i=2048:=by omega
   have ST:=hid st;clear st hlt;go_wp2_with fail;go_ret;exact⟨q,rfl,by have:=ST.out.n;omega,ST.out.l.congr λi hi=>by unfold kr Hu;rw[if_pos hi],ST.out.bel⟩
structure TnS(w:World)(z:Nat->Int)(q:Nat)(P:Nat->Bool)(W:World):Prop where
 b:aQ W w.heap.size 32 256 z
 r:aQ W (w.heap.size+1) 32 256 (λ_=>0)
 l:az W q 4 1 2048 (kr P)
 n:w.heap.size+2<=q
 bel:Below w.heap.size w W
theorem IE{i:Nat}(h:P i=true):m7 P i=P:=by
 funext j;unfold m7;split
 ·rename_i e;rw[e,h]
 ·rfl
theorem DT(hz:bm z):bZ (bt z)=z:=funext (LD hz)
theorem GF{W:World}(h:az W q T 1 2048 (kr P)):cY W (some ⟨q,0,none⟩) 1 2048 (kr P):=.inr ⟨q,0,rfl,h.bI⟩
theorem z6(z:Nat->Int)(hz:bm z)(i:Nat)(hi:i<2048)(w:World):Calls Tryz.prog 109 #[aL z,.int .i64 (i:Int),.bool true] w λe w'=>e= .returned (.tuple #[aL (bZ (m7 (bt z) i)),.bool (!bt z i)])/\Below w.heap.size w w':=by
 have hal:=cJ;have hB:=(aQ.new w 32 256 z).alloc (.cells (Ks .u8 256 (λ_=>0)).toArray 32);have hR:=aQ.new (w.alloc (.cells (Ks .u8 256 z).toArray 32)) 32 256 (λ_=>0);rw[World.size_alloc] at hR;have hb0:Below w.heap.size w ((w.alloc (.cells (Ks .u8 256 z).toArray 32)).alloc (.cells (Ks .u8 256 (λ_=>0)).toArray 32)):=((Below.refl _ _).alloc (Nat.le_refl _) _).alloc (by simp) _;have hsz:((w.alloc (.cells (Ks .u8 256 z).toArray 32)).alloc (.cells (Ks .u8 256 (λ_=>0)).toArray 32)).heap.size=w.heap.size+2:=by simp
 have H0:=hid (And.intro hR (And.intro hb0 hsz));have d1:decide ((i:Int)<0)=false:=decide_eq_false (by omega);have d2:decide ((2048:Int)<=(i:Int))=false:=decide_eq_false (by omega);have Tx:decide (2048<=i)=false:=decide_eq_false (by omega);clear hR hb0 hsz;go_enter Tryz.func109,Tryz.ntmps109;go_wp2_with (first|(refine fT rfl _ rfl _ _ rfl hB ?_))
 refine(qU z hz _).mono ?_;rintro e w1 ⟨q,rfl,hq,hl,hb1⟩;have eR:TnS w z q (bt z) w1:=⟨hB.below hb1 hB.lt,H0.out.1.below hb1 H0.out.1.lt,hl,by have:=H0.out.2.2;omega,H0.out.2.1.trans (hb1.mono H0.out.2.1.size)⟩;have vY:=eR.b;have s6:=eR.r;have ci:w1.cell? ⟨q,i,none⟩=some (.bool (bt z i)):=by
  have:=eR.l.bI i hi 0 _ rfl;rwa[Nat.zero_add,Nat.mul_one,Nat.add_zero] at this
 have fi:w1.frozen? ⟨q,i,none⟩=false:=eR.l.soft i;have hi0:(i:Int)<2048:=by omega
 have aV:=hid eR;have HZ:=hid hz;clear hB hl hb1 H0 eR hq hz;obtain⟨V,hV⟩:∃V,V=bt z i:=⟨_,rfl⟩;rw[<-hV] at ci;have HV:=hid hV;clear hV;cases V with
 |true=>
  go_wp2_with (first|(refine fT rfl _ rfl _ _ rfl vY ?_)|(refine a8 rfl _ _ rfl _ z _ rfl rfl s6 ?_))
  intro w2 kV er;go_wp2_with fail;exact bodyPost_ret (j9 rfl _ _ (w.heap.size+1) _ rfl kV) rfl ⟨by rw[IE HV.out.symm,DT HZ.out,<-HV.out];rfl,aV.out.bel.trans (er.below (by omega))⟩
 |false=>
  have HL:=hid (wA aV.out.l hi true);have ho:=an.setCell w1 ⟨q,i,none⟩ (.bool true);have hn:=aV.out.n;have kV:=s6.only ho (by show w.heap.size+1≠q;omega);have j7:=hid (aV.out.bel.trans (ho.below (by show w.heap.size<=q;omega)));have HQ:Hid (q<(w1.setCell ⟨q,i,none⟩ (.bool true)).heap.size):=HL.out.lt;clear s6 vY ho;go_wp2_with fail;refine(qW (af (bt z) i true) (some ⟨q,0,none⟩) 2048 _ (GF HL.out) (λb off e=>by injection e with e;injection e with e;subst e;exact HQ.out)).mono ?_;rintro e w3 ⟨rfl,hb3⟩;have DG:=kV.below hb3 kV.lt;have uJ:=hid (j7.out.trans (hb3.mono j7.out.size));clear kV j7 hb3 ci fi;go_wp2_with (first|(refine a8 rfl _ _ rfl _ (bZ (af (bt z) i true)) _ rfl rfl DG ?_))
  intro w4 Lr kv;go_wp2_with fail;exact bodyPost_ret (j9 rfl _ _ (w.heap.size+1) _ rfl Lr) rfl ⟨by rw[<-HV.out];rfl,uJ.out.trans (kv.below (by omega))⟩
theorem oT(z:Nat->Int)(hz:bm z)(n:Nat)(hn:n<=2048)(w:World):Calls Tryz.prog 70 #[aL z,.int .i64 (n:Int)] w λe w'=>e= .returned (.int .i64 ((aE (bt z) n:Nat):Int))/\Below w.heap.size w w':=by
 have hB:=aQ.new w 32 256 z;have A6:Hid (Below w.heap.size w (w.alloc (.cells (Ks .u8 256 z).toArray 32))):=(Below.refl _ _).alloc (Nat.le_refl _) _;go_enter Tryz.func70,Tryz.ntmps70;go_wp2_with (first|(refine fT rfl _ rfl _ _ rfl hB ?_))
 refine(qU z hz _).mono ?_;rintro e w1 ⟨q,rfl,hq,hl,hb1⟩;have TT:=hid hl;have lq:=hid (A6.out.trans (hb1.mono A6.out.size));have HCL:Hid (∀k,aE (bt z) k<=k):=λk=>eF _ k
 clear hB hl hb1 A6 hq hz;go_wp2_with fail
 go_loop [6,7] (λu v=>∃i:Nat,i<=2048/\v= .int .i64 (i:Int)/\u= .int .i64 ((aE (bt z) (min i n):Nat):Int)) (λ_ v=>2048-(intOf v).toNat)
 case atStart=>exact⟨0,by omega,rfl,by rw[Nat.zero_min];rfl⟩
 case round=>
  obtain⟨i,hi,rfl,rfl⟩:=hrel
  by_cases hlt:i<2048
  ·have hlt':(i:Int)<2048:=by omega
   have ci:w1.cell? ⟨q,i,none⟩=some (.bool (bt z i)):=by
    have:=TT.out.bI i hlt 0 _ rfl;rwa[Nat.zero_add,Nat.mul_one,Nat.add_zero] at this
   by_cases hin:i<n
   ·have e1:min i n=i:=by omega
    have e2:min (i+1) n=i+1:=by omega
    rw[e1];have HN:Hid (aE (bt z) (min (i+1) n)=aE (bt z) i+if bt z i then 1 else 0):=by show _=_;rw[e2,aE]
    have hc:=HCL.out i;obtain⟨C,hC⟩:∃C,C=aE (bt z) i:=⟨_,rfl⟩;obtain⟨V,hV⟩:∃V,V=bt z i:=⟨_,rfl⟩;rw[<-hC] at HN hc ⊢;rw[<-hV] at HN ci;have hin':(i:Int)<(n:Int):=by omega
    have hd:decide ((i:Int)<(n:Int))=true:=decide_eq_true hin';have hd':decide (i<n)=true:=decide_eq_true hin;clear hC hV e1 e2;cases V with
    |true=>
     have zv:Hid (aE (bt z) (min (i+1) n)=C+1):=by show _=_;rw[HN.out,if_pos rfl]
     clear HN;go_wp2_with fail
     go_round
     case rel=>exact⟨i+1,by omega,by go_num,by rw[zv.out];go_num⟩
     case measure=>simp[intOf];omega
    |false=>
     have zv:Hid (aE (bt z) (min (i+1) n)=C):=by show _=_;rw[HN.out,if_neg (by decide)];rfl
     clear HN;go_wp2_with fail
     go_round
     case rel=>exact⟨i+1,by omega,by go_num,by rw[zv.out]⟩
     case measure=>simp[intOf];omega
   ·have e1:min i n=n:=by omega
    have zv:Hid (min (i+1) n=min i n):=by show _=_;omega
    have hd:decide ((i:Int)<(n:Int))=false:=decide_eq_false (by omega);have hd':decide (i<n)=false:=decide_eq_false hin;clear e1;go_wp2_with fail
    go_round
    case rel=>exact⟨i+1,by omega,by go_num,by rw[zv.out]⟩
    case measure=>simp[intOf];omega
  ·obtain rfl:i=2048:=by omega
   have HE:Hid (min 2048 n=n):=by show _=_;omega
   go_wp2_with fail;go_ret;exact⟨rfl,lq.out⟩
end Go.Proofs.YtphamecphmbipaaGreatDoor
