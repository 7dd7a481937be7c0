/- Texts of this claim, merged. -/
import Derived.Test.YtphamecphmbipaaGreatDoorZ20
import Derived.Test.YtphamecphmbipaaGreatDoorZ21
set_option linter.unusedVariables false
set_option maxRecDepth 100000
set_option maxHeartbeats 16000000

namespace Go.Proofs.YtphamecphmbipaaGreatDoor
open Go.RowKit
variable {w:World} {p off q:Nat} {x:Im}
def Hc(w:World)(p b off cap:Nat)(x:Im)(ds ay sl un:Value)(q:Nat)(m:Nat->Bool)(e:Ending)(w':World):Prop:=
 w.grownBy w' (some p)/\((x.trees m=none/\e= .panicked (sB 7))\/∃o g,x.trees m=some o/\e= .returned (.tuple #[])/\w.heap.size<=g/\
  At w' p 105 (XC b off cap x ds (.slice (some ⟨q,0,none⟩) (x.ni+1) (x.ni+1)) ay (.slice (some ⟨g,0,none⟩) x.n x.n) sl un)/\aE w' g 3 1 x.n (mG o))
def Tp(y:aS):List Value:=[.int .u32 (y.p 0),.int .u32 (y.p 1),.int .u32 (y.p 2),.int .u32 (y.p 3),.int .u32 (y.p 4),.int .u32 (y.p 5),.int .u32 (y.p 6),.int .u32 (y.p 7),.int .u32 (y.p 8),.int .u32 (y.p 9),.int .u32 (y.p 10)]
theorem jz.Ql{b:Nat}{cs:Array Value}{W:World}(h:jz w p b off x cs q W){t:Nat}(ht:t<x.ni+1):W.rangeAt q (t*16+4) (Tp (x.ino t)):=λj v hv=>by
 have hj:j<11:=(List.getElem?_eq_some_iff.1 hv).1;have:=h.ino ht (4+j) (v:=v) (by
  have:j=0\/j=1\/j=2\/j=3\/j=4\/j=5\/j=6\/j=7\/j=8\/j=9\/j=10:=by omega
  rcases this with rfl|rfl|rfl|rfl|rfl|rfl|rfl|rfl|rfl|rfl|rfl<;>exact hv)
 rwa[<-Nat.add_assoc] at this
theorem tT(y:aS){k:Nat}(hk:k<11)(W:World):(Instr.index 61 (.agg (Tp y).toArray) (.int .i64 (k:Int))).run Tryz.prog W= .ok (.int .u32 (y.p k)) W:=
 match k,hk with
 |0,_=>by kernel_rfl
 |1,_=>by kernel_rfl
 |2,_=>by kernel_rfl
 |3,_=>by kernel_rfl
 |4,_=>by kernel_rfl
 |5,_=>by kernel_rfl
 |6,_=>by kernel_rfl
 |7,_=>by kernel_rfl
 |8,_=>by kernel_rfl
 |9,_=>by kernel_rfl
 |10,_=>by kernel_rfl
theorem zc(p b off cap:Nat)(x:Im)(hx:x.Ok)(hM:∀t,1<=t->t<=x.ni->(x.ino t).kz)(ds sl un:Value)(q og:Nat)(m:Nat->Bool)(w:World)(mZ:b≠p)(NF:q≠p)(hop:og≠p)(lR:og≠b)(Q5:og≠q)
  (h:jz w p b off x (XC b off cap x ds (.slice (some ⟨q,0,none⟩) (x.ni+1) (x.ni+1)) (.slice (some ⟨og,0,none⟩) (x.ni+1) (x.ni+1)) (.slice none 0 0) sl un) q w) (ho:aE w og 3 1 (x.ni+1) (Ie m)):
  Calls Tryz.prog 81 #[.pointer (some ⟨p,0,none⟩)] w λe w'=>Hc w p b off cap x ds (.slice (some ⟨og,0,none⟩) (x.ni+1) (x.ni+1)) sl un q m e w':=by
 have HX:=ah hx;have hni:x.ni<=256:=eX hx.may;have gi:=hx.iK;have c0:w.cell? ⟨p,0,none⟩=some (.slice (some ⟨b,off,none⟩) x.n cap):=h.a.cell (i:=0) rfl;obtain⟨g,hg⟩:=aa w.heap.size;have oR:p≠g:=by rw[hg];exact Nat.ne_of_lt h.a.lt
 have hbg:b≠g:=by rw[hg];exact Nat.ne_of_lt h.bl
 have BT:q≠g:=by rw[hg];exact Nat.ne_of_lt h.r.lt
 have hmk:(Instr.makeSlice 37 (.int .i64 (x.n:Int)) (.int .i64 (x.n:Int))).run Tryz.prog w= .ok (.slice (some ⟨g,0,none⟩) x.n x.n) (w.alloc (.cells (madeCells #[.int .i64 0] (x.n*1)) 3)):=by
  rw[hg];exact jW x.n (by omega) w
 obtain⟨W1,hW1⟩:=aa (w.alloc (.cells (madeCells #[.int .i64 0] (x.n*1)) 3));have hb1:Below w.heap.size w W1:=by rw[hW1];exact ag.alloc af _
 have hr1:aE W1 g 3 1 x.n (mG λ_=>0):=by
  rw[hW1,hg];exact(aE.made (m:=1) w #[.int .i64 0] rfl (by omega) x.n _)
 have h1:=h.below hb1;have bh:Hd (xw w p b off x (XC b off cap x ds (.slice (some ⟨q,0,none⟩) (x.ni+1) (x.ni+1)) (.slice (some ⟨og,0,none⟩) (x.ni+1) (x.ni+1)) (.slice (some ⟨g,0,none⟩) x.n x.n) sl un) q g (λ_=>0) (W1.setCell ⟨p,13,none⟩ (.slice (some ⟨g,0,none⟩) x.n x.n))):=
  ⟨h1.I9 13 _ mZ NF,hr1.only (az.setCell W1 ⟨p,13,none⟩ _) (show g≠p fromλe=>oR e.symm)⟩
 have c13:W1.cell? ⟨p,13,none⟩=some (.slice none 0 0):=h1.a.cell (i:=13) rfl;have f13:W1.frozen? ⟨p,13,none⟩=false:=an h1.a 13;have kv:w.heap.size<=g:=by omega
 have HO:Hd (∀W,w.grownBy W (some p)->aE W og 3 1 (x.ni+1) (Ie m)):=λW hW=>ho.grown hW (λe=>by injection e with e;exact hop e)
 rw[<-hW1] at hmk;have zu:Hd (∀t en:Nat,t<100000->(en:Int)<=9223372036854775807->∀(l:Nat),l<=3->∀(v first:Nat) (o:Nat->Nat) (W:World),v<4294967296->first+Im.gh l<=1000000->xw w p b off x (XC b off cap x ds (.slice (some ⟨q,0,none⟩) (x.ni+1) (x.ni+1)) (.slice (some ⟨og,0,none⟩) (x.ni+1) (x.ni+1)) (.slice (some ⟨g,0,none⟩) x.n x.n) sl un) q g o W->
  Calls Tryz.prog 130 #[.pointer (some ⟨p,0,none⟩),.int .i64 (t:Int),.int .u32 (v:Int),.int .i64 (l:Int),.int .i64 (first:Int),.int .i64 (en:Int)] W λe W'=>kn w p b off x (XC b off cap x ds (.slice (some ⟨q,0,none⟩) (x.ni+1) (x.ni+1)) (.slice (some ⟨og,0,none⟩) (x.ni+1) (x.ni+1)) (.slice (some ⟨g,0,none⟩) x.n x.n) sl un) q g (x.eF t l v first en o) e W'):=
  λt en ht hen l hl v first o W=>uJ p b off cap x hx ds _ sl un q g w oR hbg BT kv t en ht hen l hl v first o W
 obtain⟨cs,hcs⟩:=aa (XC b off cap x ds (.slice (some ⟨q,0,none⟩) (x.ni+1) (x.ni+1)) (.slice (some ⟨og,0,none⟩) (x.ni+1) (x.ni+1)) (.slice (some ⟨g,0,none⟩) x.n x.n) sl un);have gA:Hd (∀W,At W p 105 cs->W.cell? ⟨p,11,none⟩=some (.slice (some ⟨q,0,none⟩) (x.ni+1) (x.ni+1))/\W.cell? ⟨p,12,none⟩=some (.slice (some ⟨og,0,none⟩) (x.ni+1) (x.ni+1))/\At W p 105 (XC b off cap x ds (.slice (some ⟨q,0,none⟩) (x.ni+1) (x.ni+1)) (.slice (some ⟨og,0,none⟩) (x.ni+1) (x.ni+1)) (.slice (some ⟨g,0,none⟩) x.n x.n) sl un)):=λW h=>by
  rw[hcs] at h;exact⟨h.cell (i:=11) rfl,h.cell (i:=12) rfl,h⟩
 rw[<-hcs] at bh zu;have sV:=ah kv;have HM:=ah hM;clear h h1 hb1 hr1 hW1 hx hg kv hcs ho hM;go_enter Tryz.func81,Tryz.ntmps81;go_wp2_with fail;clear c0 hmk c13 f13;go_loopw [2] (λu wr=>∃(k:Nat) (o:Nat->Nat),k<=x.ni/\u= .int .i64 ((k:Int)+1)/\a8 (λt o=>x.gk m (t+1) o) k (λ_=>0)=some o/\xw w p b off x cs q g o wr) (λu _=>x.ni+1-(intOf u).toNat)
 case atStart=>exact⟨0,λ_=>0,Nat.zero_le _,rfl,rfl,bh.Z⟩
 clear bh;obtain⟨k,o,hk,rfl,hfo,st⟩:=hrel;have sM:=ah hfo;have ST:=ah st;clear hfo st;obtain⟨c11,c12,_⟩:=gA.Z _ ST.Z.s.a
 by_cases hlt:k<x.ni
 ·have hlt':(k:Int)+1<(x.ni:Int)+1:=by omega
  have k0:(0:Int)<=(k:Int)+1:=by omega
  have cK:wr.cell? ⟨q,(k+1)*16,none⟩=some (.int .u8 (x.ino (k+1)).kind):=ST.Z.s.ino (t:=k+1) (by omega) 0 rfl;have cS:wr.cell? ⟨q,(k+1)*16+3,none⟩=some (.int .i64 (x.ino (k+1)).size):=ST.Z.s.ino (t:=k+1) (by omega) 3 rfl;have cO:=(HO.Z _ ST.Z.s.gr).j8 (show k+1<x.ni+1 by omega) (v:=.int .i64 (if m (k+1) then 1 else 0)) rfl;have hP:=ST.Z.s.Ql (t:=k+1) (by omega);have eS:=HM.Z (k+1) (by omega) (by omega);have m7:=ah (Im.rS HX.Z (k+1));obtain⟨y,hy⟩:=aa (x.ino (k+1));have HY:=ah hy;rw[<-hy] at cK cS hP eS m7;clear hy;have hsz:0<=y.size/\y.size<=16777216:=by
   rcases eS with h|h|h<;>omega
  clear eS
  by_cases ku:y.kind=0
  ·have q0:(y.kind==0)=true:=by simp[ku]
   have HN:Hd (a8 (λt o=>x.gk m (t+1) o) (k+1) (λ_=>0)=some o):=bK sM.Z (by show x.gk m (k+1) o=some o;unfold Im.gk;rw[<-HY.Z,if_pos ku]);clear ku hP;go_wp2_with fail;go_roundw
   case rel=>(try((repeat apply Exists.intro);refine⟨?_,rfl⟩));exact⟨k+1,o,by omega,by first|rfl|go_num,HN.Z,ST.Z⟩
   simp[intOf]<;>omega
  have q0:(y.kind==0)=false:=by simp[ku]
  have IB:Hd (x.gk m (k+1) o=a8 (λq o=>x.eF (k+1) (Im.lvl q) (y.p q).toNat (Im.fst q) (x.en m (k+1)) o) 11 o):=by show _=_;unfold Im.gk;rw[<-HY.Z,if_neg ku]
  obtain⟨en,hen⟩:=aa (x.en m (k+1));have Ta:Hd (en=if m (k+1) then 65536 else(y.size.toNat+255)/256):=by show _=_;rw[hen];unfold Im.en;rw[<-HY.Z]
  rw[<-hen] at IB;have adM:en<=70000:=by rw[Ta.Z];split<;>omega
  clear hen ku;cases tp:m (k+1) with
  |true=>
   rw[tp,if_pos rfl] at cO;have he:en=65536:=by rw[Ta.Z,tp,if_pos rfl]
   clear tp Ta;subst he;go_wp2_with (first|(refine aH rfl 61 (.tmp 53) rfl q ((k+1)*16+4) (Tp y) _ rfl hP Tryz.underlying61 rfl (by kernel_rfl) ?_))
   have cY:Hd (a8 (λq o=>x.eF (k+1) (Im.lvl q) (y.p q).toNat (Im.fst q) 65536 o) 11 o=none->x.trees m=none):=λh=>dp sM.Z (IB.Z.trans h) hlt
   clear cO cK cS hP q0;go_loopw [55] (λu wr=>∃(j:Nat) (o':Nat->Nat),j<=11/\u= .int .i64 (j:Int)/\a8 (λq o=>x.eF (k+1) (Im.lvl q) (y.p q).toNat (Im.fst q) 65536 o) j o=some o'/\xw w p b off x cs q g o' wr) (λu _=>11-(intOf u).toNat)
   case atStart=>exact⟨0,o,Nat.zero_le _,rfl,rfl,ST.Z⟩
   clear ST;obtain⟨j,o',hj,rfl,LQ,st⟩:=hrel;have Ct:=ah LQ;have ST:=ah st;clear LQ st
   by_cases wo:j<11
   ·have hj':(j:Int)<11:=by omega
    have JY:=λW=>tT y wo W
    have VF:=m7.Z.p j;have hc:=zu.Z (k+1) 65536 (by omega) (by omega) (Im.lvl j) (rM wo) (y.p j).toNat (Im.fst j);rw[show((k+1:Nat):Int)=(k:Int)+1 by omega,show(((y.p j).toNat:Nat):Int)=y.p j by omega] at hc;have HC:=ah hc;clear hc;go_wp2_with fail;refine(ik j (by omega) _).mono ?_;rintro e w3 ⟨rfl,rfl⟩;go_wp2_with fail;refine(nN j (by omega) _).mono ?_;rintro e w4 ⟨rfl,hb4⟩;have ey:=ah (ST.Z.below hb4);clear ST hb4;go_wp2_with fail;refine(HC.Z o' _ (by omega) (by have h1:=jM wo;have h2:=qs (j+1);have h3:Im.fst j=eK j:=nX (by omega);omega) ey.Z).mono ?_;rintro e w5 hp;rcases hp with⟨hn,rfl,hgr⟩|⟨o2,hs,rfl,hst⟩
    ·exact⟨rfl,hgr,.inl ⟨cY.Z (dp Ct.Z hn wo),rfl⟩⟩
    have HN:=ah (bK Ct.Z hs);have ed:=ah hst;clear hs hst HC Ct ey JY VF;go_wp2_with fail;go_roundw
    case rel=>(try((repeat apply Exists.intro);refine⟨?_,rfl⟩));exact⟨j+1,o2,by omega,by first|rfl|go_num,HN.Z,ed.Z⟩
    simp[intOf]<;>omega
   obtain rfl:j=11:=by omega
   have Cq:Hd (a8 (λt o=>x.gk m (t+1) o) (k+1) (λ_=>0)=some o'):=bK sM.Z (IB.Z.trans Ct.Z);go_wp2_with fail;go_roundw
   case rel=>(try((repeat apply Exists.intro);refine⟨?_,rfl⟩));exact⟨k+1,o',by omega,by first|rfl|go_num,Cq.Z,ST.Z⟩
   simp[intOf]<;>omega
  |false=>
   rw[tp,if_neg (by decide)] at cO;have he:en=(y.size.toNat+255)/256:=by rw[Ta.Z,tp,if_neg (by decide)]
   have hq:(y.size+256-1).tdiv 256=(en:Int):=by rw[Int.tdiv_eq_ediv_of_nonneg (by omega)];omega
   clear tp Ta he;go_wp2_with (first|(refine aH rfl 61 (.tmp 53) rfl q ((k+1)*16+4) (Tp y) _ rfl hP Tryz.underlying61 rfl (by kernel_rfl) ?_))
   have cY:Hd (a8 (λq o=>x.eF (k+1) (Im.lvl q) (y.p q).toNat (Im.fst q) en o) 11 o=none->x.trees m=none):=λh=>dp sM.Z (IB.Z.trans h) hlt
   clear cO cK cS hP q0 hq;go_loopw [55] (λu wr=>∃(j:Nat) (o':Nat->Nat),j<=11/\u= .int .i64 (j:Int)/\a8 (λq o=>x.eF (k+1) (Im.lvl q) (y.p q).toNat (Im.fst q) en o) j o=some o'/\xw w p b off x cs q g o' wr) (λu _=>11-(intOf u).toNat)
   case atStart=>exact⟨0,o,Nat.zero_le _,rfl,rfl,ST.Z⟩
   clear ST;obtain⟨j,o',hj,rfl,LQ,st⟩:=hrel;have Ct:=ah LQ;have ST:=ah st;clear LQ st
   by_cases wo:j<11
   ·have hj':(j:Int)<11:=by omega
    have JY:=λW=>tT y wo W
    have VF:=m7.Z.p j;have hc:=zu.Z (k+1) en (by omega) (by omega) (Im.lvl j) (rM wo) (y.p j).toNat (Im.fst j);rw[show((k+1:Nat):Int)=(k:Int)+1 by omega,show(((y.p j).toNat:Nat):Int)=y.p j by omega] at hc;have HC:=ah hc;clear hc;go_wp2_with fail;refine(ik j (by omega) _).mono ?_;rintro e w3 ⟨rfl,rfl⟩;go_wp2_with fail;refine(nN j (by omega) _).mono ?_;rintro e w4 ⟨rfl,hb4⟩;have ey:=ah (ST.Z.below hb4);clear ST hb4;go_wp2_with fail;refine(HC.Z o' _ (by omega) (by have h1:=jM wo;have h2:=qs (j+1);have h3:Im.fst j=eK j:=nX (by omega);omega) ey.Z).mono ?_;rintro e w5 hp;rcases hp with⟨hn,rfl,hgr⟩|⟨o2,hs,rfl,hst⟩
    ·exact⟨rfl,hgr,.inl ⟨cY.Z (dp Ct.Z hn wo),rfl⟩⟩
    have HN:=ah (bK Ct.Z hs);have ed:=ah hst;clear hs hst HC Ct ey JY VF;go_wp2_with fail;go_roundw
    case rel=>(try((repeat apply Exists.intro);refine⟨?_,rfl⟩));exact⟨j+1,o2,by omega,by first|rfl|go_num,HN.Z,ed.Z⟩
    simp[intOf]<;>omega
   obtain rfl:j=11:=by omega
   have Cq:Hd (a8 (λt o=>x.gk m (t+1) o) (k+1) (λ_=>0)=some o'):=bK sM.Z (IB.Z.trans Ct.Z);go_wp2_with fail;go_roundw
   case rel=>(try((repeat apply Exists.intro);refine⟨?_,rfl⟩));exact⟨k+1,o',by omega,by first|rfl|go_num,Cq.Z,ST.Z⟩
   simp[intOf]<;>omega
 obtain rfl:k=x.ni:=by omega
 go_wp2_with fail;refine bodyPost_end (results_none rfl _ _ _) rfl ⟨ST.Z.s.gr,.inr ⟨o,g,sM.Z,rfl,sV.Z,(gA.Z _ ST.Z.s.a).2.2,ST.Z.o⟩⟩
theorem CM(x:Im)(l:List Nat):l.foldl x.step 0=0:=by
 induction l with
 |nil=>rfl
 |cons a l ih=>rw[List.foldl_cons];exact ih
structure FnR(w:World)(p b off:Nat)(x:Im)(cs:Array Value)(q:Nat)(a:Option Addr)(n:Nat)(f:Nat->List Value)(W:World):Prop where
 s:jz w p b off x cs q W
 r:cU W a 1 n f
 bel:Below w.heap.size w W
theorem A6(p b off cap:Nat)(x:Im)(hx:x.Ok)(ds ay own sl un:Value)(q:Nat)(t i:Nat)(ht1:1<=t)(ht:t<=x.ni)(hi:i<65536)(hT:x.Tree t)(w:World)(h:jz w p b off x (XC b off cap x ds (.slice (some ⟨q,0,none⟩) (x.ni+1) (x.ni+1)) ay own sl un) q w):
  Calls Tryz.prog 158 #[.pointer (some ⟨p,0,none⟩),.int .i64 (t:Int),.int .i64 (i:Int)] w λe w'=>e= .returned (.int .i64 ((x.blk t i:Nat):Int))/\Below w.heap.size w w':=by
 have HX:=ah hx;have gi:=hx.iK;have hni:x.ni<=256:=eX hx.may;obtain⟨cs,hcs⟩:=aa (XC b off cap x ds (.slice (some ⟨q,0,none⟩) (x.ni+1) (x.ni+1)) ay own sl un);have gA:Hd (∀W,At W p 105 cs->W.cell? ⟨p,0,none⟩=some (.slice (some ⟨b,off,none⟩) x.n cap)/\W.cell? ⟨p,11,none⟩=some (.slice (some ⟨q,0,none⟩) (x.ni+1) (x.ni+1))):=λW h=>by
  rw[hcs] at h;exact⟨h.cell (i:=0) rfl,h.cell (i:=11) rfl⟩
 rw[<-hcs] at h;have dt:=ah h;have HT:=ah hT;have m7:=ah (Im.rS hx t);have ht':(t:Int)<(x.ni:Int)+1:=by omega
 clear h hcs hx hT;go_enter Tryz.func158,Tryz.ntmps158;go_wp2_with fail;refine(Df i hi _).mono ?_;rintro e w1 ⟨a,c,rfl,hr1,hb1⟩;have bh:Hd (FnR w p b off x cs q a (Im.bM i).length (iA (Im.bM i)) w1):=⟨dt.Z.below hb1,hr1,hb1⟩;clear dt hr1 hb1;have c11:=(gA.Z _ bh.Z.s.a).2;have Vo:=Im.nw i;have hpt:w1.cell? ⟨q,t*16+4+Im.bL i,none⟩=some (.int .u32 ((x.ino t).p (Im.bL i))):=bh.Z.s.Ql (by omega) (Im.bL i) _ (by
  have:Im.bL i=0\/Im.bL i=1\/Im.bL i=2\/Im.bL i=3\/Im.bL i=4\/Im.bL i=5\/Im.bL i=6\/Im.bL i=7\/Im.bL i=8\/Im.bL i=9\/Im.bL i=10:=by omega
  rcases this with e|e|e|e|e|e|e|e|e|e|e<;>rw[e]<;>rfl)
 have hpb:=m7.Z.p (Im.bL i);have HB:Hd (x.blk t i=(Im.bM i).foldl x.step ((x.ino t).p (Im.bL i)).toNat):=rfl;have SB:Hd (x.okW (Im.bM i).length ((x.ino t).p (Im.bL i)).toNat):=by show _;rw[Im.kO];exact HT.Z (Im.bL i) Vo
 have Eg:=ah (Im.qc hi);have hwn:(Im.bM i).length<=3:=by rw[Im.kO];exact rM Vo
 obtain⟨W,hW⟩:=aa (Im.bM i);obtain⟨P,hP⟩:=aa (Im.bL i);obtain⟨pv,hpv⟩:=aa ((x.ino t).p P);rw[<-hW] at HB SB Eg bh hwn;rw[<-hP] at HB SB hpt hpb Vo;rw[<-hpv] at HB SB hpt hpb;rw[<-hW,<-hP];have ael:(P:Int)<11:=by omega
 clear hW hP hpv m7 hi;obtain⟨n,hn⟩:=aa W.length;have HN:=ah hn;rw[<-hn] at bh SB hwn ⊢;clear hn;go_wp2_with fail;clear c11 hpt;go_loopw [10,36] (λv u wr=>∃k:Nat,k<=n/\v= .int .i64 (((W.take k).foldl x.step pv.toNat:Nat):Int)/\u= .int .i64 (k:Int)/\FnR w p b off x cs q a n (iA W) wr) (λ_ u _=>n-(intOf u).toNat)
 case atStart=>exact⟨0,Nat.zero_le _,int_eq (by rw[List.take_zero,List.foldl_nil];omega),rfl,bh.Z⟩
 clear bh;obtain⟨k,hk,rfl,rfl,st⟩:=hrel;have ST:=ah st;clear st;obtain⟨v,hv⟩:=aa ((W.take k).foldl x.step pv.toNat);have HV:=ah hv;rw[<-hv];have Ya:Hd (v≠0->v<x.n):=λh0=>by
  have:=Im.EO SB.Z (W.take k) (by rw[List.length_take,<-HN.Z];omega) (λj hj=>Eg.Z j (List.mem_of_mem_take hj));rw[<-hv] at this;exact Im.okW.lt this h0
 clear hv
 by_cases hlt:k<n
 ·have hlt':(k:Int)<(n:Int):=by omega
  have k0:(0:Int)<=(k:Int):=by omega
  obtain⟨b',off',ha,lQ⟩:∃b' off',a=some ⟨b',off',none⟩/\aM wr b' off' 1 n (iA W):=by
   rcases ST.Z.r with h|h
   ·omega
   exact h
  subst ha;obtain⟨d,hd⟩:=aa (W.getD k 0);have cd:wr.cell? ⟨b',off'+k,none⟩=some (.int .i64 (d:Int)):=by
   have:=lQ k hlt 0 (.int .i64 ((W.getD k 0:Nat):Int)) rfl;rw[<-hd,Nat.mul_one,Nat.add_zero] at this;exact this
  have ur:W[k]? =some d:=by
   rw[hd,List.getD_eq_getElem?_getD,List.getElem?_eq_getElem (by rw[<-HN.Z];exact hlt)];rfl
  have DS:d<64:=Eg.Z d (List.mem_of_getElem? ur);have pJ:Hd ((W.take (k+1)).foldl x.step pv.toNat=x.step v d):=by
   show _=_;rw[List.take_add_one,ur,List.foldl_append,<-HV.Z];rfl
  have OX:Hd (v=0->x.blk t i=0):=λh0=>by
   rw[HB.Z,<-List.take_append_drop k W,List.foldl_append,<-HV.Z,h0];exact CM x _
  clear lQ hd ur
  by_cases hv0:v=0
  ·subst hv0
   have HF:Hd (x.blk t i=0):=OX.Z rfl;go_wp2_with fail;go_ret;exact⟨by rw[HF.Z];rfl,ST.Z.bel⟩
  have q0:((v:Int)==0)=false:=by simp;omega
  have AM:=Ya.Z hv0;have Vq:(v:Int)<(x.n:Int):=by omega
  have v0:(0:Int)<=(v:Int):=by omega
  have c0:=(gA.Z _ ST.Z.s.a).1;have Cp:Hd (Seg wr b (off+v*256) 256 (x.L v)):=λj hj=>ST.Z.s.i v AM j _ (by show(Ks .u8 256 (x.L v))[j]? =_;exact gX _ _ _ _ hj)
  have hsl:=λW=>dW b (off+v*256) W
  have Td:Hd ((4*(d:Int)).toNat=4*d):=by show _=_;omega
  have HW:Hd (cR (x.L v) (4*d)=((x.sX v d:Nat):Int)):=(Im.nj HX.Z v d).1.symm;have Ig:=(Im.nj HX.Z v d).2;have HST:Hd (x.step v d=x.sX v d):=by show _=_;unfold Im.step;rw[if_neg hv0]
  clear hv0 AM;go_wp2_with fail;refine(iB b (off+v*256) 256 256 (4*(d:Int)) (x.L v) _ (by decide) (by omega) (by omega) Cp.Z (HX.Z.jx v)).mono ?_;rintro e w4 ⟨rfl,rfl⟩;rw[Td.Z,HW.Z];obtain⟨vw,Nt⟩:=aa (x.sX v d);have Uc:=ah Nt;rw[<-Nt] at Ig ⊢;have vw0:(0:Int)<=(vw:Int):=by omega
  have vw9:(vw:Int)<4294967296:=by omega
  clear Nt c0 hsl Td HW Cp;go_wp2_with fail;go_roundw
  case rel=>(try((repeat apply Exists.intro);refine⟨?_,rfl⟩));exact⟨k+1,by omega,by rw[pJ.Z,HST.Z,<-Uc.Z],by first|rfl|go_num,ST.Z⟩
  simp[intOf]<;>omega
 obtain rfl:k=n:=by omega
 have HF:Hd (x.blk t i=v):=by show _=_;rw[HB.Z,HV.Z,HN.Z,List.take_length]
 go_wp2_with fail;go_ret;exact⟨by rw[HF.Z];rfl,ST.Z.bel⟩
structure IJ(w:World)(p b off:Nat)(x:Im)(cs:Array Value)(q g:Nat)(o:Nat->Nat)(W:World):Prop where
 t:xw w p b off x cs q g o W
 bel:Below w.heap.size w W
theorem IJ.below{b:Nat}{cs:Array Value}{g:Nat}{o:Nat->Nat}{W W':World}(h:IJ w p b off x cs q g o W)(hb:Below W.heap.size W W'):IJ w p b off x cs q g o W':=⟨h.t.below hb,h.bel.trans (hb.mono h.bel.size)⟩
theorem wP(p b off cap:Nat)(x:Im)(hx:x.Ok)(ds ino ay sl un:Value)(q g:Nat)(o:Nat->Nat)(w:World)(h:xw w p b off x (XC b off cap x ds ino ay (.slice (some ⟨g,0,none⟩) x.n x.n) sl un) q g o w):
  Calls Tryz.prog 82 #[.pointer (some ⟨p,0,none⟩)] w λe w'=>pT (aK (x.uL o) x.g) 8 e/\Below w.heap.size w w':=by
 have HX:=ah hx;obtain⟨h1,h2,h3,h4,h5,h6,h7,h8,h9,h10,h11⟩:=dX hx.may;have gi:=hx.iK;obtain⟨cs,hcs⟩:=aa (XC b off cap x ds ino ay (.slice (some ⟨g,0,none⟩) x.n x.n) sl un);have gA:Hd (∀W,At W p 105 cs->W.cell? ⟨p,0,none⟩=some (.slice (some ⟨b,off,none⟩) x.n cap)/\W.cell? ⟨p,13,none⟩=some (.slice (some ⟨g,0,none⟩) x.n x.n)/\W.cell? ⟨p,7,none⟩=some (.int .i64 (x.s:Int))/\W.cell? ⟨p,6,none⟩=some (.int .i64 (x.g:Int))/\XG p x.g x.s x.i x.j W):=λW h=>by
  rw[hcs] at h;exact⟨h.cell (i:=0) rfl,h.cell (i:=13) rfl,h.cell (i:=7) rfl,h.cell (i:=6) rfl,XG.of h⟩
 rw[<-hcs] at h;have dt:Hd (IJ w p b off x cs q g o w):=⟨h,Below.refl _ _⟩;have c6:=(gA.Z _ h.s.a).2.2.2.1;clear h hcs hx;go_enter Tryz.func82,Tryz.ntmps82;go_wp2_with fail;clear c6;go_loopw [10] (λu wr=>∃k:Nat,k<=x.g/\u= .int .i64 (k:Int)/\(∀γ,γ<k->x.uL o γ=true)/\IJ w p b off x cs q g o wr) (λu _=>x.g-(intOf u).toNat)
 case atStart=>exact⟨0,Nat.zero_le _,rfl,λq h=>by omega,dt.Z⟩
 clear dt;obtain⟨k,hk,rfl,hP,st⟩:=hrel;have lW:=ah hP;have ST:=ah st;clear hP st
 by_cases hlt:k<x.g
 ·have hlt':(k:Int)<(x.g:Int):=by omega
  have cY:Hd (x.uL o k=false->pT (aK (x.uL o) x.g) 8 (.panicked (sB 8))):=λh=> .inr ⟨bR hlt h,rfl⟩
  have zC:Hd (x.uL o k=true->∀γ,γ<k+1->x.uL o γ=true):=λhc γ hγ=>by
   rcases Nat.lt_succ_iff_lt_or_eq.1 hγ with h|h
   ·exact lW.Z γ h
   rw[h];exact hc
  go_wp2_with fail;refine(jh p x.g x.s x.i x.j k HX.Z.may hlt wr (gA.Z _ ST.Z.t.s.a).2.2.2.2).mono ?_;rintro e w1 ⟨rfl,hb1⟩;have bh:=ah (ST.Z.below hb1);clear ST hb1;have HQ:Hd (2+x.j+k*x.s=x.st k):=rfl;rw[HQ.Z];obtain⟨Q,hQ⟩:=aa (x.st k);have ID:=ah hQ;have ZK:∀d,d<x.s->Q+d<x.n:=λd hd=>by rw[hQ];exact HX.Z.st hlt hd
  have HQN:=ah ZK;rw[<-hQ];clear hQ HQ ZK;go_wp2_with fail;refine(uK p x.g x.s x.i x.j h6 w1 (gA.Z _ bh.Z.t.s.a).2.2.2.2).mono ?_;rintro e w2 ⟨rfl,rfl⟩;obtain⟨ow,how⟩:=aa (2+x.i/4);have HOW:Hd (x.own=ow):=how.symm;have adg:ow<=x.s:=by omega
  rw[<-how];clear how;go_wp2_with fail;go_loopw [4] (λu wr=>∃d:Nat,d<=x.s-ow/\u= .int .i64 ((ow+d:Nat):Int)/\(∀c,c<d->(bt (x.L Q) (ow+c)==(o (Q+(ow+c)) !=0))=true)/\IJ w p b off x cs q g o wr) (λu _=>x.s-(intOf u).toNat)
  case atStart=>exact⟨0,Nat.zero_le _,rfl,λq h=>by omega,bh.Z⟩
  clear bh;obtain⟨d,hd,rfl,hP,st⟩:=hrel;have X9:=ah hP;have ST:=ah st;clear hP st;obtain⟨c0,c13,c7,_,_⟩:=gA.Z _ ST.Z.t.s.a;obtain⟨I,hI⟩:=aa (ow+d);have HI:=ah hI;have hI9:I<=x.s:=by omega
  rw[<-hI];clear hI c0 c13
  by_cases kf:I<x.s
  ·have Zi:(I:Int)<(x.s:Int):=by omega
   have hQI:=HQN.Z I kf;have TN:=HQN.Z 0 (by omega);rw[Nat.add_zero] at TN;obtain⟨J,hJ⟩:=aa (Q+I);have TR:(Q:Int)+(I:Int)=(J:Int):=by omega
   have hJn:J<x.n:=by omega
   have aes:(J:Int)<(x.n:Int):=by omega
   have aef:(Q:Int)<(x.n:Int):=by omega
   have HJ:=ah hJ;have HJI:=ah TR;obtain⟨ov,hov⟩:=aa (((o J:Nat):Int):Int);have SO:=ah hov;clear hJ hQI TR hov;go_wp2_with fail;have TR:=HJI.Z;refine aG (IJ w p b off x cs q g o) 20 (by kernel_rfl) (by kernel_rfl) (by kernel_rfl) (by kernel_rfl) (by kernel_rfl) (by decide) (ST.Z.below ag.drew) ?_;clear ST;simp only[List.take,List.drop];intro hne;have hc0:∀z:a9 (IJ w p b off x cs q g o),z.W.cell? ⟨p,0,none⟩=some (.slice (some ⟨b,off,none⟩) x.n cap):=λz=>(gA.Z _ z.h.t.s.a).1
   have WK:∀z:a9 (IJ w p b off x cs q g o),z.W.cell? ⟨p,13,none⟩=some (.slice (some ⟨g,0,none⟩) x.n x.n):=λz=>(gA.Z _ z.h.t.s.a).2.1
   have Wy:∀z:a9 (IJ w p b off x cs q g o),z.W.cell? ⟨g,J,none⟩=some (.int .i64 ov):=λz=>z.h.t.o.j8 hJn (by rw[SO.Z];rfl)
   iterate 6 go_big_quiet_step (fail)
   refine aO rfl 32 (.tmp 32) rfl b (off+Q*256) rfl (dR x.L Q) _ (λW h=>aM.range h.t.s.i Q TN) Tryz.underlying32 rfl (by rw[aZ];exact aA) ?_;refine aj ?_;go_big_quiet_step (fail)
   go_big_quiet_want
   go_big_quiet_op
   refine⟨_,λs=>aN s (λW hW=>(zk (HX.Z.jx Q) _ I rfl (by omega) W).mono λe w' h=>⟨h.1,hW.below h.2⟩),?_⟩
   go_big_quiet_on
   iterate 11 go_big_quiet_step (fail)
   refine wpQuiet_nil ?_;intro w6 h6';have jj:=ah h6'.Z;clear h6' hne hc0 WK Wy TR;obtain⟨c,hcc⟩:=aa ((bt (x.L Q) I==(ov !=0)));have iT:Hd ((bt (x.L Q) (ow+d)==(o (Q+(ow+d)) !=0))=c):=by
    show _=_;rw[hcc,<-HI.Z,<-HJ.Z,SO.Z]
    congr 1
    cases o J with
    |zero=>rfl
    |succ n=>simp;omega
   rw[<-hcc];clear hcc;go_wp2_with fail;refine(bJ 8 c _).mono ?_;rintro e w7 ⟨hS,rfl⟩;rcases hS with⟨rfl,rfl⟩|⟨rfl,rfl⟩
   rotate_left
   ·refine⟨rfl,cY.Z ?_,jj.Z.bel⟩
    have:=iT.Z;unfold Im.uL;refine bR (j:=d) (by rw[HOW.Z];have:=HI.Z;omega) ?_;rw[HOW.Z,<-ID.Z];exact this
   have HP3:Hd (∀c,c<d+1->(bt (x.L Q) (ow+c)==(o (Q+(ow+c)) !=0))=true):=λc hc=>by
    rcases Nat.lt_succ_iff_lt_or_eq.1 hc with h|h
    ·exact X9.Z c h
    rw[h];exact iT.Z
   clear iT X9;go_wp2_with fail;go_roundw
   case rel=>(try((repeat apply Exists.intro);refine⟨?_,rfl⟩));exact⟨d+1,by have:=HI.Z;omega,int_eq (by have:=HI.Z;omega),HP3.Z,jj.Z⟩
   simp[intOf]<;>omega
  obtain rfl:I=x.s:=by omega
  have m7:Hd (x.uL o k=true):=by
   show _=_;unfold Im.uL;rw[aY];intro c hc;rw[HOW.Z,<-ID.Z];rw[HOW.Z] at hc;exact X9.Z c (by have:=HI.Z;omega)
  go_wp2_with fail;go_roundw
  case rel=>(try((repeat apply Exists.intro);refine⟨?_,rfl⟩));exact⟨k+1,by omega,by first|rfl|go_num,zC.Z m7.Z,ST.Z⟩
  simp[intOf]<;>omega
 obtain rfl:k=x.g:=by omega
 go_wp2_with fail;refine bodyPost_end (results_none rfl _ _ _) rfl ⟨.inl ⟨(aY _ _).2 lW.Z,rfl⟩,ST.Z.bel⟩
end Go.Proofs.YtphamecphmbipaaGreatDoor
