/- Texts of this claim, merged. -/
import Derived.Test.YtphamecphmbipaaGreatDoorK06
set_option linter.unusedVariables false
set_option maxRecDepth 100000
set_option maxHeartbeats 16000000

namespace Go.Proofs.YtphamecphmbipaaGreatDoor
open Go.RowKit
open Lib (hid)
variable {T:TypeId} {w W':World} {g:Nat} {G S J:Int} {P:Program} {ops:Array Oper} {rest:List Oper} {o:Oper} {a:Act} {Q:Exit->Act->World->Prop} {z:Nat->Int}
abbrev gu(G S I J O:Int):Value:=.agg #[.int .i64 G,.int .i64 S,.int .i64 I,.int .i64 J,.int .u32 O]
abbrev aj(G S I J O:Int):Array Value:=#[.int .i64 G,.int .i64 S,.int .i64 I,.int .i64 J,.int .u32 O]
abbrev kp(B I D:Int):Value:=.agg #[.int .i64 B,.int .i64 I,.int .i64 D]
abbrev gK(B I D:Int):Array Value:=#[.int .i64 B,.int .i64 I,.int .i64 D]
theorem xc(W:World):(zeroValue 23).run Tryz.prog W= .ok (bN 0 0 0 0) W:=by kernel_rfl
theorem fe(W:World):(zeroValue 47).run Tryz.prog W= .ok (gu 0 0 0 0 0) W:=by kernel_rfl
theorem nZ(W:World):(zeroValue 67).run Tryz.prog W= .ok (kp 0 0 0) W:=by kernel_rfl
theorem AI(g:Nat)(z:Nat->Int)(hzb:bm z)(w:World)(hB:aQ w g T 256 z):
  Calls Tryz.prog 156 #[Lx g] w λe w'=>e= .returned (bN (hd z 4) (hd z 5) (hd z 6) (hd z 7))/\Below w.heap.size w w':=by
 have hal:=xc;have HA:=hid (At.new w 23 (aa 0 0 0 0));have HL:Hid (Below w.heap.size w (w.alloc (.cells (aa 0 0 0 0) 23))):=(Below.refl _ _).alloc (Nat.le_refl _) _;have HG:Hid (∀(W:World) (k:Nat) (K:Int),aQ W g T 256 z->K=2*(k:Int)->k<128->Calls Tryz.prog 42 #[.pointer (some ⟨g,0,none⟩),.int .i64 K] W λe w'=>e= .returned (.int .i64 (hd z k))/\W=w'):=
  λW k K hB hK hk=>iP g z hzb k K hK hk W hB
 have HB:=hid (hB.alloc (.cells (aa 0 0 0 0) 23));clear hB;go_enter Tryz.func156,Tryz.ntmps156;go_wp2_with fail;refine(HG.out _ 4 8 HB.out rfl (by omega)).mono ?_;rintro e w1 ⟨rfl,rfl⟩;go_wp2_with fail;refine(HG.out _ 5 10 HB.out rfl (by omega)).mono ?_;rintro e w1 ⟨rfl,rfl⟩;go_wp2_with fail;refine(HG.out _ 6 12 HB.out rfl (by omega)).mono ?_;rintro e w1 ⟨rfl,rfl⟩;go_wp2_with fail;refine(HG.out _ 7 14 HB.out rfl (by omega)).mono ?_;rintro e w1 ⟨rfl,rfl⟩;go_wp2_with fail;exact bodyPost_ret (kK rfl _ _ _ _ _ _ _ rfl (At.new w 23 (aa (hd z 4) (hd z 5) (hd z 6) (hd z 7))) Tryz.underlying23 rfl (by kernel_rfl)) rfl ⟨rfl,(Below.refl _ _).alloc (Nat.le_refl _) _⟩
theorem yz(g:Nat)(z:Nat->Int)(hzb:bm z)(k:Nat)(K:Int)(hK:K=8*(k:Int))(hk:k<31)(w:World)(hB:aQ w g T 256 z):
  Calls Tryz.prog 41 #[.int .i64 K,Lx g] w λe w'=>e= .returned (kp (hd z (4*k)) (hd z (4*k+1)) (hd z (4*k+2)))/\Below w.heap.size w w':=by
 have hal:=nZ;have HA:=hid (At.new w 67 (gK 0 0 0));have HL:Hid (Below w.heap.size w (w.alloc (.cells (gK 0 0 0) 67))):=(Below.refl _ _).alloc (Nat.le_refl _) _;have HG:Hid (∀(W:World) (j:Nat) (K':Int),aQ W g T 256 z->K'=K+2*(j:Int)->j<3->Calls Tryz.prog 42 #[.pointer (some ⟨g,0,none⟩),.int .i64 K'] W λe w'=>e= .returned (.int .i64 (hd z (4*k+j)))/\W=w'):=
  λW j K' hB hK' hj=>iP g z hzb (4*k+j) K' (by omega) (by omega) W hB
 have HB:=hid (hB.alloc (.cells (gK 0 0 0) 67));have hKb:0<=K/\K<250:=by omega
 clear hB hK;go_enter Tryz.func41,Tryz.ntmps41;go_wp2_with fail;refine(HG.out _ 0 K HB.out (by omega) (by omega)).mono ?_;rintro e w1 ⟨rfl,rfl⟩;go_wp2_with fail;refine(HG.out _ 1 (K+2) HB.out (by omega) (by omega)).mono ?_;rintro e w1 ⟨rfl,rfl⟩;go_wp2_with fail;refine(HG.out _ 2 (K+4) HB.out (by omega) (by omega)).mono ?_;rintro e w1 ⟨rfl,rfl⟩;go_wp2_with fail;exact bodyPost_ret (kK rfl _ _ _ _ _ _ _ rfl (At.new w 67 (gK (hd z (4*k)) (hd z (4*k+1)) (hd z (4*k+2)))) Tryz.underlying67 rfl (by kernel_rfl)) rfl ⟨rfl,(Below.refl _ _).alloc (Nat.le_refl _) _⟩
structure TE(w:World)(G S I J O:Int)(W:World):Prop where
 s:At W w.heap.size 47 (aj G S I J O)
 bel:Below w.heap.size w W
theorem vz(G S I J O:Int)(hO:0<=O/\O<4294967296)(w:World):
  Calls Tryz.prog 157 #[gu G S I J O] w λe w'=>e= .returned (.bool (decide (O<=pX G S I J)))/\Below w.heap.size w w':=by
 have hA:At (w.alloc (.cells (aj G S I J O) 47)) w.heap.size 47 (aj G S I J O):=At.new _ _ _;have hL:Below w.heap.size w (w.alloc (.cells (aj G S I J O) 47)):=(Below.refl _ _).alloc (Nat.le_refl _) _;have hwr:O%18446744073709551616=O:=by omega
 have hb:=Fy G S I J;have HN:Hid (∀W,Calls Tryz.prog 23 #[bN G S I J] W λe w'=>e= .returned (.int .i64 (pX G S I J))/\Below W.heap.size W w'):=λW=>jb G S I J W
 generalize pX G S I J=n at*;have hwn:n%18446744073709551616=n:=by omega
 go_enter Tryz.func157,Tryz.ntmps157;go_wp2_with fail;have QM:Hid (∀W W',TE w G S I J O W->Below W.heap.size W W'->TE w G S I J O W'):=λW W' h hb=>⟨h.s.below hb h.s.lt,h.bel.trans (hb.mono h.bel.size)⟩
 refine ai (TE w G S I J O) (by kernel_rfl) (by kernel_rfl) ⟨hA,hL.drew⟩ ?_;clear hA hL;intro hne;have hc:∀s:aT (TE w G S I J O),s.W.cell? ⟨w.heap.size,4,none⟩=some (.int .u32 O):=λs=>s.h.s.cell (i:=4) rfl
 iterate 4 go_big_quiet_step (fail)
 refine aH rfl 23 (.tmp 6) rfl w.heap.size 0 rfl (aa G S I J).toList _ (λW h j v hj=> ?_) Tryz.underlying23 rfl (by kernel_rfl) ?_
 ·have hj4:j<4:=(List.getElem?_eq_some_iff.1 hj).1
  refine h.s.cell (i:=0+j) ?_;rw[Nat.zero_add,<-hj];obtain rfl|rfl|rfl|rfl:j=0\/j=1\/j=2\/j=3:=by omega
  all_goals rfl
 refine ae ?_
 go_big_quiet_want
 go_big_quiet_op
 refine⟨_,λs=>aG s (λW hW=>(HN.out W).mono λe w' h=>⟨h.1,QM.out W w' hW h.2⟩),?_⟩
 go_big_quiet_on
 repeat go_big_quiet_step (fail)
 refine wpQuiet_nil ?_;intro w5 h5;have hL5:Below w.heap.size w w5:=h5.out.bel;clear h5 hne;go_wp2_with fail;go_ret;exact⟨rfl,hL5⟩
def Iu(G S I J O:Int):Nat->Int:=qw (WL (upd (upd (qw (λ_=>0) 0 827216465) 2 1) 3 256) G S I J) 8 O
def qy(G S I J O:Int):Bool:=aM G S I J&&decide (O<=pX G S I J)
def xq(G S I J O:Int):Int:=if aM G S I J then(if O<=pX G S I J then 0 else 2) else 50
def n7(G S I J O:Int):Nat->Int:=if qy G S I J O then lS (hz (Iu G S I J O)) elseλ_=>0
theorem At.lH{I O:Int}(h:At w g T (aj G S I J O)):w.rangeAt g 0 (aa G S I J).toList:=λj v hj=>by
 have hj4:j<4:=(List.getElem?_eq_some_iff.1 hj).1;refine h.cell (i:=0+j) ?_;rw[Nat.zero_add,<-hj];obtain rfl|rfl|rfl|rfl:j=0\/j=1\/j=2\/j=3:=by omega
 all_goals rfl
theorem mY(hw:Region.wanted o (yielded ops a.tmps)=true)(T:TypeId)(p:Operand)(ho:o.op= .load T p)
  (g off:Nat) (cs:List Value) (d:TypeDesc) (hx:a.eval p= .pointer (some ⟨g,off,none⟩)) (hI:w.rangeAt g off cs) (hu:P.underlying T=some d) (hd:d.isRow=true) (hi:(P.info? T).map (·.size)=some cs.length)
  (h:wpList P ops Q rest (a.put o.dst (.agg cs.toArray)) w):wpList P ops Q (o::rest) a w:=
 BigFrame.wpList_want hw λ_ hK=>wp_load_mid T p ho g off hx cs d hI hu hd hi (hK _ _ h)
def df(B I D:Nat->Int)(i:Nat):List Value:=[.int .i64 (B i),.int .i64 (I i),.int .i64 (D i)]
theorem rW(B I D:Nat->Int)(i:Nat):(df B I D i).length=3:=rfl
theorem um(B I D:Nat->Int)(i:Nat):df B I D i≠[]:=by intro h;cases h
theorem Gx(B I D:Nat->Int)(i:Nat):∀v∈df B I D i,v.oneCell'=true:=by
 intro v hv;simp only[df,List.mem_cons,List.not_mem_nil,or_false] at hv;rcases hv with rfl|rfl|rfl<;>rfl
def okD(da im b i d:Int):Bool:=decide (0<=b/\b<=da/\0<=i/\i<=im/\0<=d/\d<=im-i)
theorem vB(da im b i d:Int):okD da im b i d=true↔0<=b/\b<=da/\0<=i/\i<=im/\0<=d/\d<=im-i:=by unfold okD;exact decide_eq_true_iff
theorem fX{da im b i d:Int}(h:¬(0<=b/\b<=da/\0<=i/\i<=im/\0<=d/\d<=im-i)):okD da im b i d=false:=by unfold okD;exact decide_eq_false h
def aD(p:Nat->Bool):Nat->Bool
 |0=>true
 |n+1=>aD p n&&p n
theorem aP(p:Nat->Bool)(n:Nat):aD p n=true↔∀i,i<n->p i=true:=by
 induction n with
 |zero=>simp[aD]
 |succ n ih=>
  unfold aD;rw[Bool.and_eq_true,ih];constructor
  ·rintro⟨h,g⟩ i hi
   by_cases e:i=n
   ·rw[e];exact g
   ·exact h i (by omega)
  ·intro h;exact⟨λi hi=>h i (by omega),h n (by omega)⟩
theorem bJ{p:Nat->Bool}{n j:Nat}(hj:j<n)(h:p j=false):aD p n=false:=by
 cases e:aD p n with
 |false=>rfl
 |true=>have:=(aP p n).1 e j hj;rw[h] at this;cases this
def jR(G S I J:Int)(n:Nat)(b i d:Nat->Int):Bool:=decide ((n:Int)=G)&&aD (λk=>okD (sX G S I J) I (b k) (i k) (d k)) n
structure RT(w:World)(G S I J:Int)(a:Option Addr)(n:Nat)(f:Nat->List Value)(W:World):Prop where
 s:At W w.heap.size 23 (aa G S I J)
 r:cY W a 3 n f
 bel:Below w.heap.size w W
theorem RT.below{I:Int}{a:Option Addr}{n:Nat}{f:Nat->List Value}{W:World}(h:RT w G S I J a n f W)(hf:f 0≠[])(hb:Below W.heap.size W W'):RT w G S I J a n f W':=
 ⟨h.s.below hb h.s.lt,h.r.below hf hb,h.bel.trans (hb.mono h.bel.size)⟩
theorem Dm:(Tryz.prog.info? 67).map (·.size)=some 3:=by kernel_rfl
theorem uU(G S I J:Int)(hm:aM G S I J=true)(a:Option Addr)(n cap:Nat)(b i d:Nat->Int)(hn:(n:Int)<=9223372036854775807)(w:World)(hr:cY w a 3 n (df b i d)):
  Calls Tryz.prog 43 #[bN G S I J,.slice a n cap] w λe w'=>e= .returned (.bool (jR G S I J n b i d))/\Below w.heap.size w w':=by
 have st0:RT w G S I J a n (df b i d) (w.alloc (.cells (aa G S I J) 23)):=⟨At.new _ _ _,hr.below (um _ _ _ _) ((Below.refl _ _).alloc (Nat.le_refl _) _),(Below.refl _ _).alloc (Nat.le_refl _) _⟩;have hI:4<=I/\I<=64:=by
  obtain⟨h1,h2,h3,h4,h5,h6,h7,h8,h9,h10,h11⟩:=(aX G S I J).1 hm;exact⟨h5,h6⟩
 have c0:(w.alloc (.cells #[.int .i64 G,.int .i64 S,.int .i64 I,.int .i64 J] 23)).cell? ⟨w.heap.size,0,none⟩=some (.int .i64 G):=st0.s.cell (i:=0) rfl;have F6:=st0.s;have cX:=hid st0;clear st0 hr hm;go_enter Tryz.func43,Tryz.ntmps43
 by_cases hg:(n:Int)=G
 rotate_left
 ·have hg':((n:Int) !=G)=true:=by simpa using hg
  have HN:Hid (jR G S I J n b i d=false):=by show _=_;unfold jR;simp[hg]
  clear hg;go_wp2_with fail;go_ret;exact⟨by rw[HN.out];rfl,cX.out.bel⟩
 have hg':((n:Int) !=G)=false:=by simpa using hg
 have HD:Hid (jR G S I J n b i d=aD (λk=>okD (sX G S I J) I (b k) (i k) (d k)) n):=by show _=_;unfold jR;simp[hg]
 clear hg;go_wp2_with (first|(refine ar rfl 23 _ rfl _ _ _ rfl F6 Tryz.underlying23 rfl (by kernel_rfl) ?_))
 refine(yA G S I J _).mono ?_;rintro e w1 ⟨rfl,hb1⟩;have eR:=cX.out.below (um _ _ _ _) hb1;clear cX F6 c0 hb1 hg';have hda:=Ad G S I J;generalize sX G S I J=da at*;go_wp2_with fail;go_loopw [17] (λu wr=>∃k:Nat,k<=n/\u= .int .i64 (k:Int)/\Hid (aD (λk=>okD da I (b k) (i k) (d k)) k=true)/\RT w G S I J a n (df b i d) wr) (λu _=>n-(intOf u).toNat)
 case atStart=>exact⟨0,by omega,rfl,rfl,eR⟩
 case round=>
  clear eR;obtain⟨k,hk,rfl,eJ,st⟩:=hrel
  by_cases hlt:k<n
  ·rcases st.r with h0|⟨bb,off,rfl,lF⟩
   ·omega
   have r0:wr.cell? ⟨bb,off+k*3,none⟩=some (.int .i64 (b k)):=lF k hlt 0 _ rfl;have r1:wr.cell? ⟨bb,off+k*3+1,none⟩=some (.int .i64 (i k)):=lF k hlt 1 _ rfl;have r2:wr.cell? ⟨bb,off+k*3+2,none⟩=some (.int .i64 (d k)):=lF k hlt 2 _ rfl;have hA:=At.new wr 67 (gK (b k) (i k) (d k));have d0:(wr.alloc (.cells #[.int .i64 (b k),.int .i64 (i k),.int .i64 (d k)] 67)).cell? ⟨wr.heap.size,0,none⟩=some (.int .i64 (b k)):=hA.cell (i:=0) rfl;have d1:(wr.alloc (.cells #[.int .i64 (b k),.int .i64 (i k),.int .i64 (d k)] 67)).cell? ⟨wr.heap.size,1,none⟩=some (.int .i64 (i k)):=hA.cell (i:=1) rfl;have d2:(wr.alloc (.cells #[.int .i64 (b k),.int .i64 (i k),.int .i64 (d k)] 67)).cell? ⟨wr.heap.size,2,none⟩=some (.int .i64 (d k)):=hA.cell (i:=2) rfl;have g2:(wr.alloc (.cells #[.int .i64 (b k),.int .i64 (i k),.int .i64 (d k)] 67)).cell? ⟨w.heap.size,2,none⟩=some (.int .i64 I):=(st.s.alloc _).cell (i:=2) rfl;have ST:=hid (st.below (um _ _ _ _) ((Below.refl _ _).alloc (Nat.le_refl _) (.cells (gK (b k) (i k) (d k)) 67)));have HK:Hid (∀c,okD da I (b k) (i k) (d k)=c->(c=true->aD (λk=>okD da I (b k) (i k) (d k)) (k+1)=true)/\(c=false->aD (λk=>okD da I (b k) (i k) (d k)) n=false)):=λc hc=>
    ⟨λh=>by show(aD _ k&&okD da I (b k) (i k) (d k))=true;rw[eJ.out,hc,h];rfl,λh=>bJ hlt (by rw[hc,h])⟩
   clear lF hA st eJ;generalize b k=x at*;generalize i k=y at*;generalize d k=v at*;have hnl:(n:Int)<=9223372036854775807:=hn
   by_cases h1:0<=x
   rotate_left
   ·have HF:Hid (aD (λk=>okD da I (b k) (i k) (d k)) n=false):=(HK.out false (fX λh=>h1 (h.1))).2 rfl
    have q1:decide (x<0)=true:=by rw[decide_eq_true_eq];omega
    go_wp2_with fail;go_ret;exact⟨by rw[HD.out,HF.out];rfl,ST.out.bel⟩
   have q1:decide (x<0)=false:=by rw[decide_eq_false_iff_not];omega
   by_cases h2:x<=da
   rotate_left
   ·have HF:Hid (aD (λk=>okD da I (b k) (i k) (d k)) n=false):=(HK.out false (fX λh=>h2 (h.2.1))).2 rfl
    have q2:decide (da<x)=true:=by rw[decide_eq_true_eq];omega
    go_wp2_with fail;go_ret;exact⟨by rw[HD.out,HF.out];rfl,ST.out.bel⟩
   have q2:decide (da<x)=false:=by rw[decide_eq_false_iff_not];omega
   by_cases h3:0<=y
   rotate_left
   ·have HF:Hid (aD (λk=>okD da I (b k) (i k) (d k)) n=false):=(HK.out false (fX λh=>h3 (h.2.2.1))).2 rfl
    have q3:decide (y<0)=true:=by rw[decide_eq_true_eq];omega
    go_wp2_with fail;go_ret;exact⟨by rw[HD.out,HF.out];rfl,ST.out.bel⟩
   have q3:decide (y<0)=false:=by rw[decide_eq_false_iff_not];omega
   by_cases h4:y<=I
   rotate_left
   ·have HF:Hid (aD (λk=>okD da I (b k) (i k) (d k)) n=false):=(HK.out false (fX λh=>h4 (h.2.2.2.1))).2 rfl
    have q4:decide (I<y)=true:=by rw[decide_eq_true_eq];omega
    go_wp2_with fail;go_ret;exact⟨by rw[HD.out,HF.out];rfl,ST.out.bel⟩
   have q4:decide (I<y)=false:=by rw[decide_eq_false_iff_not];omega
   by_cases h5:0<=v
   rotate_left
   ·have HF:Hid (aD (λk=>okD da I (b k) (i k) (d k)) n=false):=(HK.out false (fX λh=>h5 (h.2.2.2.2.1))).2 rfl
    have q5:decide (v<0)=true:=by rw[decide_eq_true_eq];omega
    go_wp2_with fail;go_ret;exact⟨by rw[HD.out,HF.out];rfl,ST.out.bel⟩
   have q5:decide (v<0)=false:=by rw[decide_eq_false_iff_not];omega
   by_cases h6:v<=I-y
   rotate_left
   ·have HF:Hid (aD (λk=>okD da I (b k) (i k) (d k)) n=false):=(HK.out false (fX λh=>h6 (h.2.2.2.2.2))).2 rfl
    have q6:decide (I-y<v)=true:=by rw[decide_eq_true_eq];omega
    go_wp2_with fail;go_ret;exact⟨by rw[HD.out,HF.out];rfl,ST.out.bel⟩
   have q6:decide (I-y<v)=false:=by rw[decide_eq_false_iff_not];omega
   have HY:Hid (aD (λk=>okD da I (b k) (i k) (d k)) (k+1)=true):=(HK.out true ((vB _ _ _ _ _).2 ⟨h1,h2,h3,h4,h5,h6⟩)).1 rfl;go_wp2_with fail;go_roundw
   case rel=>first|exact⟨k+1,by omega,by go_num,HY,ST.out⟩|exact⟨k+1,by omega,rfl,HY,ST.out⟩
   case measure=>simp[intOf];omega
  ·obtain rfl:k=n:=by omega
   go_wp2_with fail;go_ret;exact⟨by rw[HD.out,eJ.out];rfl,st.bel⟩
def ik(z:Nat->Int):Bool:=(b9 z 0==827216465)&&((hd z 2==1)&&((hd z 3==256)&&(xr z&&de (λi=>z (20+i)) 232)))
def bM(z:Nat->Int):Int:=if ik z then(if aM (hd z 4) (hd z 5) (hd z 6) (hd z 7) then(if b9 z 16<=pX (hd z 4) (hd z 5) (hd z 6) (hd z 7) then 0 else 60) else 50) else 60
def ka(z:Nat->Int):Value:=if bM z=0 then gu (hd z 4) (hd z 5) (hd z 6) (hd z 7) (b9 z 16) else gu 0 0 0 0 0
theorem eS(h:bM z=60\/bM z=50):ka z=gu 0 0 0 0 0:=by unfold ka;rw[if_neg (by omega)]
structure RS(w:World)(g:Nat)(z:Nat->Int)(W:World):Prop where
 r:At W (w.heap.size+1) 47 (aj 0 0 0 0 0)
 p:aQ W g 108 256 z
 t:Tab W
 bel:Below w.heap.size w W
theorem RS.below{W:World}(h:RS w g z W)(hb:Below W.heap.size W W'):RS w g z W':=
 ⟨h.r.below hb h.r.lt,h.p.below hb h.p.lt,h.t.below hb (Nat.le_refl _),h.bel.trans (hb.mono h.bel.size)⟩
theorem aW{fn:Func}{p u:Tmp}(h:fn.results= #[.cell p 47,.tmp u])(tmps:Array Value)(w:World)(g:Nat)(G S I J O:Int)
  (hp:tmps.getD p undef= .pointer (some ⟨g,0,none⟩)) (hg:At w g 47 (aj G S I J O)):(results fn tmps).run Tryz.prog w= .ok (.tuple #[gu G S I J O,tmps.getD u undef]) w:=
 bH h tmps w g _ _ _ _ hp hg Tryz.underlying47 rfl (by kernel_rfl)
theorem r6(z:Nat->Int)(w:World):(Instr.build 108 #[(0,aL z)]).run Tryz.prog w= .ok (.agg (Ks .u8 256 z).toArray) w:=by kernel_rfl
theorem tw(hw:Region.wanted o (yielded ops a.tmps)=true)(T:TypeId)(i:Nat)(x:Operand)(ho:o.op= .build T #[(i,x)])
  (u v:Value) (hx:a.eval x=u) (hb:(Instr.build T #[(i,u)]).run P w= .ok v w) (h:wpList P ops Q rest (a.put o.dst v) w):wpList P ops Q (o::rest) a w:=
 BigFrame.wpList_want hw λ_ hK=>by
  have hr:(execOp a.eval o).run P w= .ok (.value v) w:=by
   unfold execOp;simp only[ho,List.map_toArray,List.map_cons,List.map_nil,hx,Sem.run_bind,hb,Result.andThen_ok,Sem.run_pure]
  unfold Oper.wp;rw[hr];exact hK _ _ h
theorem eL(G S I J O:Int):(aj G S I J O).all (·.oneCell')=true:=by kernel_rfl
theorem aR:(Tryz.prog.info? 47).map (·.size)=some 5:=by kernel_rfl
theorem pf(G S I J O:Int)(w:World):(Instr.build 47 #[(0,bN G S I J),(1,.int .u32 O)]).run Tryz.prog w= .ok (gu G S I J O) w:=by kernel_rfl
theorem At.blk(h:At w g T (Ks .u8 256 z).toArray):aQ w g T 256 z:=h
theorem sQ(z:Nat->Int)(hzb:bm z)(w:World)(hT:Tab w):
  Calls Tryz.prog 125 #[aL z] w λe w'=>e= .returned (.tuple #[ka z,.int .i64 (bM z)])/\Below w.heap.size w w':=by
 have hal:=fe;have Wj:=ts;have Ny:=λW=>r6 z W
 have hB:aQ ((w.alloc (.cells (Ks .u8 256 z).toArray 32)).alloc (.cells (aj 0 0 0 0 0) 47)) w.heap.size 32 256 z:=(aQ.new w _ _ _).alloc _;have hR:At ((w.alloc (.cells (Ks .u8 256 z).toArray 32)).alloc (.cells (aj 0 0 0 0 0) 47)) (w.heap.size+1) 47 (aj 0 0 0 0 0):=by
  have:=At.new (w.alloc (.cells (Ks .u8 256 z).toArray 32)) 47 (aj 0 0 0 0 0);simp only[World.size_alloc] at this;exact this
 have hP:At (((w.alloc (.cells (Ks .u8 256 z).toArray 32)).alloc (.cells (aj 0 0 0 0 0) 47)).alloc (.cells (Ks .u8 256 (λ_=>0)).toArray 108)) (w.heap.size+1+1) 108 (Ks .u8 256 (λ_=>0)).toArray:=by
  have:=At.new ((w.alloc (.cells (Ks .u8 256 z).toArray 32)).alloc (.cells (aj 0 0 0 0 0) 47)) 108 (Ks .u8 256 (λ_=>0)).toArray;simp only[World.size_alloc] at this;exact this
 have hL:Hid (Below w.heap.size w (((w.alloc (.cells (Ks .u8 256 z).toArray 32)).alloc (.cells (aj 0 0 0 0 0) 47)).alloc (.cells (Ks .u8 256 (λ_=>0)).toArray 108))):=(((Below.refl _ _).alloc (Nat.le_refl _) _).alloc (by simp) _).alloc (by simp;omega) _;have Y8:=hid (((hT.alloc (.cells (Ks .u8 256 z).toArray 32)).alloc (.cells (aj 0 0 0 0 0) 47)).alloc (.cells (Ks .u8 256 (λ_=>0)).toArray 108));have hTl:=hT.lt;have hR':=hid (hR.alloc (.cells (Ks .u8 256 (λ_=>0)).toArray 108));clear hT hR;go_enter Tryz.func125,Tryz.ntmps125;go_wp2_with (first|(refine dD rfl (.tmp 1) rfl w.heap.size z rfl hB ?_)|(refine tw rfl 108 0 (.tmp 6) rfl (aL z) _ rfl (Ny _) ?_)|(refine ax rfl 108 (.tmp 4) (.tmp 7) rfl (w.heap.size+1+1) (Ks .u8 256 z).toArray (Ks .u8 256 (λ_=>0)).toArray rfl rfl hP (rC z) (by rw[bK,bK]) (iD _ _ _) ?_))
 intro w1 Zg vQ;have st0:Hid (RS w (w.heap.size+1+1) z w1):=⟨hR'.out.only vQ (by omega),Zg.blk,Y8.out.only vQ (by omega),hL.out.trans (vQ.below (by omega))⟩;clear hB hP Zg vQ Y8 hL hR' Ny;obtain⟨g,hg⟩:∃g,w.heap.size+1+1=g:=⟨_,rfl⟩;rw[hg] at st0 ⊢;have hgl:w.heap.size+2<=g:=by omega
 clear hg;go_wp2_with fail;refine(jQ g z hzb 0 0 rfl (by omega) _ st0.out.p).mono ?_;rintro e wx ⟨rfl,rfl⟩;obtain⟨c1,hc1⟩:∃c,(b9 z 0==827216465)=c:=⟨_,rfl⟩;have tW:(b9 z 0 !=827216465)= !c1:=by rw[<-hc1];rfl
 cases c1 with
 |false=>
  have HE:Hid (bM z=60):=by show _=_;unfold bM ik;rw[hc1];rfl
  have hr:=st0.out.r;go_wp2_with (first|(refine ax rfl 47 (.tmp 2) (.tmp 18) rfl (w.heap.size+1) (aj 0 0 0 0 0) (aj 0 0 0 0 0) rfl rfl hr aR rfl (eL _ _ _ _ _) ?_))
  intro w9 jf gD;go_wp2_with fail;exact bodyPost_ret (aW rfl _ _ (w.heap.size+1) _ _ _ _ _ rfl jf) rfl ⟨by rw[eS (by rw[HE.out];decide),HE.out];rfl,st0.out.bel.trans (gD.below (by omega))⟩
 |true=>
 have iX:=hid hc1;clear hc1;go_wp2_with fail;clear tW;refine(iP g z hzb 2 4 rfl (by omega) _ st0.out.p).mono ?_;rintro e wx ⟨rfl,rfl⟩;obtain⟨c2,hc2⟩:∃c,(hd z 2==1)=c:=⟨_,rfl⟩;have Jr:(hd z 2 !=1)= !c2:=by rw[<-hc2];rfl
 cases c2 with
 |false=>
  have HE:Hid (bM z=60):=by show _=_;unfold bM ik;rw[iX.out,hc2];rfl
  have hr:=st0.out.r;go_wp2_with (first|(refine ax rfl 47 (.tmp 2) (.tmp 18) rfl (w.heap.size+1) (aj 0 0 0 0 0) (aj 0 0 0 0 0) rfl rfl hr aR rfl (eL _ _ _ _ _) ?_))
  intro w9 jf gD;go_wp2_with fail;exact bodyPost_ret (aW rfl _ _ (w.heap.size+1) _ _ _ _ _ rfl jf) rfl ⟨by rw[eS (by rw[HE.out];decide),HE.out];rfl,st0.out.bel.trans (gD.below (by omega))⟩
 |true=>
 have gM:=hid hc2;clear hc2;go_wp2_with fail;clear Jr;refine(iP g z hzb 3 6 rfl (by omega) _ st0.out.p).mono ?_;rintro e wx ⟨rfl,rfl⟩;obtain⟨c3,hc3⟩:∃c,(hd z 3==256)=c:=⟨_,rfl⟩;have hn3:(hd z 3 !=256)= !c3:=by rw[<-hc3];rfl
 cases c3 with
 |false=>
  have HE:Hid (bM z=60):=by show _=_;unfold bM ik;rw[iX.out,gM.out,hc3];rfl
  have hr:=st0.out.r;go_wp2_with (first|(refine ax rfl 47 (.tmp 2) (.tmp 18) rfl (w.heap.size+1) (aj 0 0 0 0 0) (aj 0 0 0 0 0) rfl rfl hr aR rfl (eL _ _ _ _ _) ?_))
  intro w9 jf gD;go_wp2_with fail;exact bodyPost_ret (aW rfl _ _ (w.heap.size+1) _ _ _ _ _ rfl jf) rfl ⟨by rw[eS (by rw[HE.out];decide),HE.out];rfl,st0.out.bel.trans (gD.below (by omega))⟩
 |true=>
 have uI:=hid hc3;clear hc3;go_wp2_with fail;clear hn3;refine(kO g z hzb _ st0.out.p st0.out.t).mono ?_;rintro e w2 ⟨rfl,hb2⟩;have eC:=hid (st0.out.below hb2);clear st0 hb2;cases tY:xr z with
 |false=>
  have HE:Hid (bM z=60):=by show _=_;unfold bM ik;rw[iX.out,gM.out,uI.out,tY];rfl
  have hr:=eC.out.r;go_wp2_with (first|(refine ax rfl 47 (.tmp 2) (.tmp 25) rfl (w.heap.size+1) (aj 0 0 0 0 0) (aj 0 0 0 0 0) rfl rfl hr aR rfl (eL _ _ _ _ _) ?_))
  intro w9 jf gD;go_wp2_with fail;exact bodyPost_ret (aW rfl _ _ (w.heap.size+1) _ _ _ _ _ rfl jf) rfl ⟨by rw[eS (by rw[HE.out];decide),HE.out];rfl,eC.out.bel.trans (gD.below (by omega))⟩
 |true=>
 have zf:=hid tY;clear tY;go_wp2_with fail;refine(gG g z 20 252 20 252 rfl rfl (by omega) (by omega) (by omega) _ eC.out.p).mono ?_;rintro e wx ⟨rfl,rfl⟩;rw[show 252-20=232 from rfl];cases Hm:de (λi=>z (20+i)) 232 with
 |false=>
  have HE:Hid (bM z=60):=by show _=_;unfold bM ik;rw[iX.out,gM.out,uI.out,zf.out,Hm];rfl
  have hr:=eC.out.r;go_wp2_with (first|(refine ax rfl 47 (.tmp 2) (.tmp 25) rfl (w.heap.size+1) (aj 0 0 0 0 0) (aj 0 0 0 0 0) rfl rfl hr aR rfl (eL _ _ _ _ _) ?_))
  intro w9 jf gD;go_wp2_with fail;exact bodyPost_ret (aW rfl _ _ (w.heap.size+1) _ _ _ _ _ rfl jf) rfl ⟨by rw[eS (by rw[HE.out];decide),HE.out];rfl,eC.out.bel.trans (gD.below (by omega))⟩
 |true=>
 have HRA:Hid (ik z=true):=by show _=_;unfold ik;rw[iX.out,gM.out,uI.out,zf.out,Hm];rfl
 clear Hm iX gM uI zf;go_wp2_with fail;refine(AI g z hzb _ eC.out.p).mono ?_;rintro e w3 ⟨rfl,hb3⟩;have fg:=hid (eC.out.below hb3);clear eC hb3;go_wp2_with fail;refine(jQ g z hzb 16 16 rfl (by omega) _ fg.out.p).mono ?_;rintro e wx ⟨rfl,rfl⟩;have hbs:=λW=>pf (hd z 4) (hd z 5) (hd z 6) (hd z 7) (b9 z 16) W
 have ho:=dA hzb 16;have A7:Hid (bM z=if aM (hd z 4) (hd z 5) (hd z 6) (hd z 7) then(if b9 z 16<=pX (hd z 4) (hd z 5) (hd z 6) (hd z 7) then 0 else 60) else 50):=by show _=_;unfold bM;rw[HRA.out];rfl
 have SB:Hid (bM z=0->ka z=gu (hd z 4) (hd z 5) (hd z 6) (hd z 7) (b9 z 16)):=λh=>by unfold ka;rw[if_pos h]
 generalize hd z 4=G at*;generalize hd z 5=S at*;generalize hd z 6=I at*;generalize hd z 7=J at*;generalize b9 z 16=O at*;have Tj:=At.new w3 47 (aj G S I J O);have iF:=hid (fg.out.below ((Below.refl _ _).alloc (Nat.le_refl _) (.cells (aj G S I J O) 47)));have F6:=Tj.lH;have ac9:w.heap.size+2<=w3.heap.size:=by have:=fg.out.r.lt;omega
 clear fg;go_wp2_with (first|(refine mY rfl 23 _ rfl w3.heap.size 0 (aa G S I J).toList _ rfl F6 Tryz.underlying23 rfl (by kernel_rfl) ?_))
 clear F6 hbs;refine(eu G S I J _).mono ?_;rintro e w5 ⟨rfl,sB⟩;have eB:=hid (iF.out.below sB);have Ti:=Tj.below sB Tj.lt;clear iF Tj sB;cases hm:aM G S I J with
 |false=>
  have HE:Hid (bM z=50):=by show _=_;rw[A7.out,hm];rfl
  have hr:=eB.out.r;go_wp2_with (first|(refine ax rfl 47 (.tmp 2) (.tmp 34) rfl (w.heap.size+1) (aj 0 0 0 0 0) (aj 0 0 0 0 0) rfl rfl hr aR rfl (eL _ _ _ _ _) ?_))
  intro w9 jf gD;go_wp2_with fail;exact bodyPost_ret (aW rfl _ _ (w.heap.size+1) _ _ _ _ _ rfl jf) rfl ⟨by rw[eS (by rw[HE.out];decide),HE.out];rfl,eB.out.bel.trans (gD.below (by omega))⟩
 |true=>
 have HM:=hid hm;clear hm;go_wp2_with (first|(refine ar rfl 47 _ rfl _ _ _ rfl Ti Tryz.underlying47 rfl (by kernel_rfl) ?_))
 refine(vz G S I J O ho _).mono ?_;rintro e w6 ⟨rfl,kx⟩;have eQ:=hid (eB.out.below kx);have hS6:=Ti.below kx Ti.lt;clear eB Ti kx;cases Aw:decide (O<=pX G S I J) with
 |false=>
  have HE:Hid (bM z=60):=by show _=_;rw[A7.out,HM.out,if_pos rfl,if_neg (by simpa using Aw)]
  have hr:=eQ.out.r;go_wp2_with (first|(refine ax rfl 47 (.tmp 2) (.tmp 38) rfl (w.heap.size+1) (aj 0 0 0 0 0) (aj 0 0 0 0 0) rfl rfl hr aR rfl (eL _ _ _ _ _) ?_))
  intro w9 jf gD;go_wp2_with fail;exact bodyPost_ret (aW rfl _ _ (w.heap.size+1) _ _ _ _ _ rfl jf) rfl ⟨by rw[eS (by rw[HE.out];decide),HE.out];rfl,eQ.out.bel.trans (gD.below (by omega))⟩
 |true=>
 have HE:Hid (bM z=0):=by show _=_;rw[A7.out,HM.out,if_pos rfl,if_pos (by simpa using Aw)]
 clear Aw;have hr:=eQ.out.r;go_wp2_with (first|(refine ar rfl 47 (.tmp 5) rfl _ _ _ rfl hS6 Tryz.underlying47 rfl (by kernel_rfl) ?_)|(refine ax rfl 47 (.tmp 2) (.tmp 39) rfl (w.heap.size+1) (aj G S I J O) (aj 0 0 0 0 0) rfl rfl hr aR rfl (eL _ _ _ _ _) ?_))
 intro w9 jf gD;go_wp2_with fail;exact bodyPost_ret (aW rfl _ _ (w.heap.size+1) _ _ _ _ _ rfl jf) rfl ⟨by rw[SB.out HE.out,HE.out];rfl,eQ.out.bel.trans (gD.below (by omega))⟩
end Go.Proofs.YtphamecphmbipaaGreatDoor
