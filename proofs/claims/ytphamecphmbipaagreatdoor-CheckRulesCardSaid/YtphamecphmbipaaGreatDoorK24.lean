/- Texts of this claim, merged. -/
import Derived.Test.YtphamecphmbipaaGreatDoorK22
import Derived.Test.YtphamecphmbipaaGreatDoorK23
set_option linter.unusedVariables false
set_option maxRecDepth 100000
set_option maxHeartbeats 16000000

namespace Go.Proofs.YtphamecphmbipaaGreatDoor
open Go.RowKit
open Lib (hid)
variable {w:World} {p b off q:Nat} {x:Im} {cs:Array Value}
def GM(w:World)(p b off cap:Nat)(x:Im)(ds ak sl un:Value)(q:Nat)(m:Nat->Bool)(e:Ending)(w':World):Prop:=
 w.grownBy w' (some p)/\((x.trees m=none/\e= .panicked (r8 7))\/∃o g,x.trees m=some o/\e= .returned (.tuple #[])/\w.heap.size<=g/\
  At w' p 105 (XC b off cap x ds (.slice (some ⟨q,0,none⟩) (x.ni+1) (x.ni+1)) ak (.slice (some ⟨g,0,none⟩) x.n x.n) sl un)/\az w' g 3 1 x.n (mw o))
def SN(y:aK):List Value:=[.int .u32 (y.p 0),.int .u32 (y.p 1),.int .u32 (y.p 2),.int .u32 (y.p 3),.int .u32 (y.p 4),.int .u32 (y.p 5),.int .u32 (y.p 6),.int .u32 (y.p 7),.int .u32 (y.p 8),.int .u32 (y.p 9),.int .u32 (y.p 10)]
theorem ji.PT{W:World}(h:ji w p b off x cs q W){t:Nat}(ht:t<x.ni+1):W.rangeAt q (t*16+4) (SN (x.ino t)):=λj v hv=>by
 have hj:j<11:=(List.getElem?_eq_some_iff.1 hv).1;have:=h.ino ht (4+j) (v:=v) (by
  have:j=0\/j=1\/j=2\/j=3\/j=4\/j=5\/j=6\/j=7\/j=8\/j=9\/j=10:=by omega
  rcases this with rfl|rfl|rfl|rfl|rfl|rfl|rfl|rfl|rfl|rfl|rfl<;>exact hv)
 rwa[<-Nat.add_assoc] at this
theorem tF(y:aK){k:Nat}(hk:k<11)(W:World):(Instr.index 61 (.agg (SN y).toArray) (.int .i64 (k:Int))).run Tryz.prog W= .ok (.int .u32 (y.p k)) W:=
 match k,hk with
 |0,_=>by kernel_rfl
 |1,_=>by kernel_rfl
 |2,_=>by kernel_rfl
 |3,_=>by kernel_rfl
 |4,_=>by kernel_rfl
 |5,_=>by kernel_rfl
 |6,_=>by kernel_rfl
 |7,_=>by kernel_rfl
 |8,_=>by kernel_rfl
 |9,_=>by kernel_rfl
 |10,_=>by kernel_rfl
theorem yO(p b off cap:Nat)(x:Im)(hx:x.Ok)(hM:∀t,1<=t->t<=x.ni->(x.ino t).ki)(ds sl un:Value)(q og:Nat)(m:Nat->Bool)(w:World)(mP:b≠p)(Nb:q≠p)(hop:og≠p)(lG:og≠b)(QC:og≠q)
  (h:ji w p b off x (XC b off cap x ds (.slice (some ⟨q,0,none⟩) (x.ni+1) (x.ni+1)) (.slice (some ⟨og,0,none⟩) (x.ni+1) (x.ni+1)) (.slice none 0 0) sl un) q w) (ho:az w og 3 1 (x.ni+1) (He m)):
  Calls Tryz.prog 81 #[.pointer (some ⟨p,0,none⟩)] w λe w'=>GM w p b off cap x ds (.slice (some ⟨og,0,none⟩) (x.ni+1) (x.ni+1)) sl un q m e w':=by
 have HX:=hid hx;have hni:x.ni<=256:=eK hx.may;have fY:=hx.iu;have c0:w.cell? ⟨p,0,none⟩=some (.slice (some ⟨b,off,none⟩) x.n cap):=h.a.cell (i:=0) rfl;obtain⟨g,hg⟩:∃g,g=w.heap.size:=⟨_,rfl⟩;have oC:p≠g:=by rw[hg];exact Nat.ne_of_lt h.a.lt
 have hbg:b≠g:=by rw[hg];exact Nat.ne_of_lt h.bl
 have BG:q≠g:=by rw[hg];exact Nat.ne_of_lt h.r.lt
 have hmk:(Instr.makeSlice 37 (.int .i64 (x.n:Int)) (.int .i64 (x.n:Int))).run Tryz.prog w= .ok (.slice (some ⟨g,0,none⟩) x.n x.n) (w.alloc (.cells (madeCells #[.int .i64 0] (x.n*1)) 3)):=by
  rw[hg];exact jJ x.n (by omega) w
 obtain⟨W1,hW1⟩:∃W1,W1=w.alloc (.cells (madeCells #[.int .i64 0] (x.n*1)) 3):=⟨_,rfl⟩;have hb1:Below w.heap.size w W1:=by rw[hW1];exact(Below.refl _ _).alloc (Nat.le_refl _) _
 have hr1:az W1 g 3 1 x.n (mw λ_=>0):=by
  rw[hW1,hg];exact(az.made (m:=1) w #[.int .i64 0] rfl (by omega) x.n _)
 have h1:=h.below hb1;have aV:Hid (wZ w p b off x (XC b off cap x ds (.slice (some ⟨q,0,none⟩) (x.ni+1) (x.ni+1)) (.slice (some ⟨og,0,none⟩) (x.ni+1) (x.ni+1)) (.slice (some ⟨g,0,none⟩) x.n x.n) sl un) q g (λ_=>0) (W1.setCell ⟨p,13,none⟩ (.slice (some ⟨g,0,none⟩) x.n x.n))):=
  ⟨h1.ID 13 _ mP Nb,hr1.only (an.setCell W1 ⟨p,13,none⟩ _) (show g≠p fromλe=>oC e.symm)⟩
 have c13:W1.cell? ⟨p,13,none⟩=some (.slice none 0 0):=h1.a.cell (i:=13) rfl;have f13:W1.frozen? ⟨p,13,none⟩=false:=ag h1.a 13;have kf:w.heap.size<=g:=by omega
 have HO:Hid (∀W,w.grownBy W (some p)->az W og 3 1 (x.ni+1) (He m)):=λW hW=>ho.grown hW (λe=>by injection e with e;exact hop e)
 rw[<-hW1] at hmk;have zb:Hid (∀t en:Nat,t<100000->(en:Int)<=9223372036854775807->∀(l:Nat),l<=3->∀(v first:Nat) (o:Nat->Nat) (W:World),v<4294967296->first+Im.fL l<=1000000->wZ w p b off x (XC b off cap x ds (.slice (some ⟨q,0,none⟩) (x.ni+1) (x.ni+1)) (.slice (some ⟨og,0,none⟩) (x.ni+1) (x.ni+1)) (.slice (some ⟨g,0,none⟩) x.n x.n) sl un) q g o W->
  Calls Tryz.prog 130 #[.pointer (some ⟨p,0,none⟩),.int .i64 (t:Int),.int .u32 (v:Int),.int .i64 (l:Int),.int .i64 (first:Int),.int .i64 (en:Int)] W λe W'=>j5 w p b off x (XC b off cap x ds (.slice (some ⟨q,0,none⟩) (x.ni+1) (x.ni+1)) (.slice (some ⟨og,0,none⟩) (x.ni+1) (x.ni+1)) (.slice (some ⟨g,0,none⟩) x.n x.n) sl un) q g (x.ek t l v first en o) e W'):=
  λt en ht hen l hl v first o W=>ur p b off cap x hx ds _ sl un q g w oC hbg BG kf t en ht hen l hl v first o W
 obtain⟨cs,hcs⟩:∃cs,cs=XC b off cap x ds (.slice (some ⟨q,0,none⟩) (x.ni+1) (x.ni+1)) (.slice (some ⟨og,0,none⟩) (x.ni+1) (x.ni+1)) (.slice (some ⟨g,0,none⟩) x.n x.n) sl un:=⟨_,rfl⟩;have gj:Hid (∀W,At W p 105 cs->W.cell? ⟨p,11,none⟩=some (.slice (some ⟨q,0,none⟩) (x.ni+1) (x.ni+1))/\W.cell? ⟨p,12,none⟩=some (.slice (some ⟨og,0,none⟩) (x.ni+1) (x.ni+1))/\At W p 105 (XC b off cap x ds (.slice (some ⟨q,0,none⟩) (x.ni+1) (x.ni+1)) (.slice (some ⟨og,0,none⟩) (x.ni+1) (x.ni+1)) (.slice (some ⟨g,0,none⟩) x.n x.n) sl un)):=λW h=>by
  rw[hcs] at h;exact⟨h.cell (i:=11) rfl,h.cell (i:=12) rfl,h⟩
 rw[<-hcs] at aV zb;have sH:=hid kf;have HM:=hid hM;clear h h1 hb1 hr1 hW1 hx hg kf hcs ho hM;go_enter Tryz.func81,Tryz.ntmps81;go_wp2_with fail;clear c0 hmk c13 f13;go_loopw [2] (λu wr=>∃(k:Nat) (o:Nat->Nat),k<=x.ni/\u= .int .i64 ((k:Int)+1)/\aS (λt o=>x.fP m (t+1) o) k (λ_=>0)=some o/\wZ w p b off x cs q g o wr) (λu _=>x.ni+1-(intOf u).toNat)
 case atStart=>exact⟨0,λ_=>0,Nat.zero_le _,rfl,rfl,aV.out⟩
 case round=>
  clear aV;obtain⟨k,o,hk,rfl,hfo,st⟩:=hrel;have ss:=hid hfo;have ST:=hid st;clear hfo st;obtain⟨c11,c12,_⟩:=gj.out _ ST.out.s.a
  by_cases hlt:k<x.ni
  ·have hlt':(k:Int)+1<(x.ni:Int)+1:=by omega
   have k0:(0:Int)<=(k:Int)+1:=by omega
   have cK:wr.cell? ⟨q,(k+1)*16,none⟩=some (.int .u8 (x.ino (k+1)).kind):=ST.out.s.ino (t:=k+1) (by omega) 0 rfl;have cS:wr.cell? ⟨q,(k+1)*16+3,none⟩=some (.int .i64 (x.ino (k+1)).size):=ST.out.s.ino (t:=k+1) (by omega) 3 rfl;have cO:=(HO.out _ ST.out.s.gr).jU (show k+1<x.ni+1 by omega) (v:=.int .i64 (if m (k+1) then 1 else 0)) rfl;have hP:=ST.out.s.PT (t:=k+1) (by omega);have eE:=HM.out (k+1) (by omega) (by omega);have mS:=hid (Im.ry HX.out (k+1));obtain⟨y,hy⟩:∃y,y=x.ino (k+1):=⟨_,rfl⟩;have HY:=hid hy;rw[<-hy] at cK cS hP eE mS;clear hy;have hsz:0<=y.size/\y.size<=16777216:=by
    rcases eE with h|h|h<;>omega
   clear eE
   by_cases ke:y.kind=0
   ·have q0:(y.kind==0)=true:=by simp[ke]
    have HN:Hid (aS (λt o=>x.fP m (t+1) o) (k+1) (λ_=>0)=some o):=bA ss.out (by show x.fP m (k+1) o=some o;unfold Im.fP;rw[<-HY.out,if_pos ke]);clear ke hP;go_wp2_with fail;go_roundw
    case rel=>(try((repeat apply Exists.intro);refine⟨?_,rfl⟩));exact⟨k+1,o,by omega,by first|rfl|go_num,HN.out,ST.out⟩
    case measure=>simp[intOf]<;>omega
   have q0:(y.kind==0)=false:=by simp[ke]
   have Hz:Hid (x.fP m (k+1) o=aS (λq o=>x.ek (k+1) (Im.lvl q) (y.p q).toNat (Im.fst q) (x.en m (k+1)) o) 11 o):=by show _=_;unfold Im.fP;rw[<-HY.out,if_neg ke]
   obtain⟨en,hen⟩:∃en,en=x.en m (k+1):=⟨_,rfl⟩;have Sx:Hid (en=if m (k+1) then 65536 else(y.size.toNat+255)/256):=by show _=_;rw[hen];unfold Im.en;rw[<-HY.out]
   rw[<-hen] at Hz;have adj:en<=70000:=by rw[Sx.out];split<;>omega
   clear hen ke;cases s4:m (k+1) with
   |true=>
    rw[s4,if_pos rfl] at cO;have he:en=65536:=by rw[Sx.out,s4,if_pos rfl]
    clear s4 Sx;subst he;go_wp2_with (first|(refine aB rfl 61 (.tmp 53) rfl q ((k+1)*16+4) (SN y) _ rfl hP Tryz.underlying61 rfl (by kernel_rfl) ?_))
    have ct:Hid (aS (λq o=>x.ek (k+1) (Im.lvl q) (y.p q).toNat (Im.fst q) 65536 o) 11 o=none->x.trees m=none):=λh=>cV ss.out (Hz.out.trans h) hlt
    clear cO cK cS hP q0;go_loopw [55] (λu wr=>∃(j:Nat) (o':Nat->Nat),j<=11/\u= .int .i64 (j:Int)/\aS (λq o=>x.ek (k+1) (Im.lvl q) (y.p q).toNat (Im.fst q) 65536 o) j o=some o'/\wZ w p b off x cs q g o' wr) (λu _=>11-(intOf u).toNat)
    case atStart=>exact⟨0,o,Nat.zero_le _,rfl,rfl,ST.out⟩
    case round=>
     clear ST;obtain⟨j,o',hj,rfl,Lo,st⟩:=hrel;have Cb:=hid Lo;have ST:=hid st;clear Lo st
     by_cases vR:j<11
     ·have hj':(j:Int)<11:=by omega
      have Jw:=λW=>tF y vR W
      have U4:=mS.out.p j;have hc:=zb.out (k+1) 65536 (by omega) (by omega) (Im.lvl j) (rk vR) (y.p j).toNat (Im.fst j);rw[show((k+1:Nat):Int)=(k:Int)+1 by omega,show(((y.p j).toNat:Nat):Int)=y.p j by omega] at hc;have HC:=hid hc;clear hc;go_wp2_with fail;refine(gS j (by omega) _).mono ?_;rintro e w3 ⟨rfl,rfl⟩;go_wp2_with fail;refine(nA j (by omega) _).mono ?_;rintro e w4 ⟨rfl,hb4⟩;have eI:=hid (ST.out.below hb4);clear ST hb4;go_wp2_with fail;refine(HC.out o' _ (by omega) (by have h1:=jx vR;have h2:=qc (j+1);have h3:Im.fst j=ev j:=nK (by omega);omega) eI.out).mono ?_;rintro e w5 hp;rcases hp with⟨hn,rfl,hgr⟩|⟨o2,hs,rfl,hst⟩
      ·exact⟨rfl,hgr,.inl ⟨ct.out (cV Cb.out hn vR),rfl⟩⟩
      have HN:=hid (bA Cb.out hs);have ec:=hid hst;clear hs hst HC Cb eI Jw U4;go_wp2_with fail;go_roundw
      case rel=>(try((repeat apply Exists.intro);refine⟨?_,rfl⟩));exact⟨j+1,o2,by omega,by first|rfl|go_num,HN.out,ec.out⟩
      case measure=>simp[intOf]<;>omega
     ·obtain rfl:j=11:=by omega
      have zv:Hid (aS (λt o=>x.fP m (t+1) o) (k+1) (λ_=>0)=some o'):=bA ss.out (Hz.out.trans Cb.out);go_wp2_with fail;go_roundw
      case rel=>(try((repeat apply Exists.intro);refine⟨?_,rfl⟩));exact⟨k+1,o',by omega,by first|rfl|go_num,zv.out,ST.out⟩
      case measure=>simp[intOf]<;>omega
   |false=>
    rw[s4,if_neg (by decide)] at cO;have he:en=(y.size.toNat+255)/256:=by rw[Sx.out,s4,if_neg (by decide)]
    have hq:(y.size+256-1).tdiv 256=(en:Int):=by rw[Int.tdiv_eq_ediv_of_nonneg (by omega)];omega
    clear s4 Sx he;go_wp2_with (first|(refine aB rfl 61 (.tmp 53) rfl q ((k+1)*16+4) (SN y) _ rfl hP Tryz.underlying61 rfl (by kernel_rfl) ?_))
    have ct:Hid (aS (λq o=>x.ek (k+1) (Im.lvl q) (y.p q).toNat (Im.fst q) en o) 11 o=none->x.trees m=none):=λh=>cV ss.out (Hz.out.trans h) hlt
    clear cO cK cS hP q0 hq;go_loopw [55] (λu wr=>∃(j:Nat) (o':Nat->Nat),j<=11/\u= .int .i64 (j:Int)/\aS (λq o=>x.ek (k+1) (Im.lvl q) (y.p q).toNat (Im.fst q) en o) j o=some o'/\wZ w p b off x cs q g o' wr) (λu _=>11-(intOf u).toNat)
    case atStart=>exact⟨0,o,Nat.zero_le _,rfl,rfl,ST.out⟩
    case round=>
     clear ST;obtain⟨j,o',hj,rfl,Lo,st⟩:=hrel;have Cb:=hid Lo;have ST:=hid st;clear Lo st
     by_cases vR:j<11
     ·have hj':(j:Int)<11:=by omega
      have Jw:=λW=>tF y vR W
      have U4:=mS.out.p j;have hc:=zb.out (k+1) en (by omega) (by omega) (Im.lvl j) (rk vR) (y.p j).toNat (Im.fst j);rw[show((k+1:Nat):Int)=(k:Int)+1 by omega,show(((y.p j).toNat:Nat):Int)=y.p j by omega] at hc;have HC:=hid hc;clear hc;go_wp2_with fail;refine(gS j (by omega) _).mono ?_;rintro e w3 ⟨rfl,rfl⟩;go_wp2_with fail;refine(nA j (by omega) _).mono ?_;rintro e w4 ⟨rfl,hb4⟩;have eI:=hid (ST.out.below hb4);clear ST hb4;go_wp2_with fail;refine(HC.out o' _ (by omega) (by have h1:=jx vR;have h2:=qc (j+1);have h3:Im.fst j=ev j:=nK (by omega);omega) eI.out).mono ?_;rintro e w5 hp;rcases hp with⟨hn,rfl,hgr⟩|⟨o2,hs,rfl,hst⟩
      ·exact⟨rfl,hgr,.inl ⟨ct.out (cV Cb.out hn vR),rfl⟩⟩
      have HN:=hid (bA Cb.out hs);have ec:=hid hst;clear hs hst HC Cb eI Jw U4;go_wp2_with fail;go_roundw
      case rel=>(try((repeat apply Exists.intro);refine⟨?_,rfl⟩));exact⟨j+1,o2,by omega,by first|rfl|go_num,HN.out,ec.out⟩
      case measure=>simp[intOf]<;>omega
     ·obtain rfl:j=11:=by omega
      have zv:Hid (aS (λt o=>x.fP m (t+1) o) (k+1) (λ_=>0)=some o'):=bA ss.out (Hz.out.trans Cb.out);go_wp2_with fail;go_roundw
      case rel=>(try((repeat apply Exists.intro);refine⟨?_,rfl⟩));exact⟨k+1,o',by omega,by first|rfl|go_num,zv.out,ST.out⟩
      case measure=>simp[intOf]<;>omega
  ·obtain rfl:k=x.ni:=by omega
   go_wp2_with fail;refine bodyPost_end (results_none rfl _ _ _) rfl ⟨ST.out.s.gr,.inr ⟨o,g,ss.out,rfl,sH.out,(gj.out _ ST.out.s.a).2.2,ST.out.o⟩⟩
theorem Cy(x:Im)(l:List Nat):l.foldl x.step 0=0:=by
 induction l with
 |nil=>rfl
 |cons a l ih=>rw[List.foldl_cons];exact ih
structure FnR(w:World)(p b off:Nat)(x:Im)(cs:Array Value)(q:Nat)(a:Option Addr)(n:Nat)(f:Nat->List Value)(W:World):Prop where
 s:ji w p b off x cs q W
 r:cY W a 1 n f
 bel:Below w.heap.size w W
theorem AP(p b off cap:Nat)(x:Im)(hx:x.Ok)(ds ak own sl un:Value)(q:Nat)(t i:Nat)(ht1:1<=t)(ht:t<=x.ni)(hi:i<65536)(hT:x.Tree t)(w:World)(h:ji w p b off x (XC b off cap x ds (.slice (some ⟨q,0,none⟩) (x.ni+1) (x.ni+1)) ak own sl un) q w):
  Calls Tryz.prog 158 #[.pointer (some ⟨p,0,none⟩),.int .i64 (t:Int),.int .i64 (i:Int)] w λe w'=>e= .returned (.int .i64 ((x.blk t i:Nat):Int))/\Below w.heap.size w w':=by
 have HX:=hid hx;have fY:=hx.iu;have hni:x.ni<=256:=eK hx.may;obtain⟨cs,hcs⟩:∃cs,cs=XC b off cap x ds (.slice (some ⟨q,0,none⟩) (x.ni+1) (x.ni+1)) ak own sl un:=⟨_,rfl⟩;have gj:Hid (∀W,At W p 105 cs->W.cell? ⟨p,0,none⟩=some (.slice (some ⟨b,off,none⟩) x.n cap)/\W.cell? ⟨p,11,none⟩=some (.slice (some ⟨q,0,none⟩) (x.ni+1) (x.ni+1))):=λW h=>by
  rw[hcs] at h;exact⟨h.cell (i:=0) rfl,h.cell (i:=11) rfl⟩
 rw[<-hcs] at h;have cX:=hid h;have HT:=hid hT;have mS:=hid (Im.ry hx t);have ht':(t:Int)<(x.ni:Int)+1:=by omega
 clear h hcs hx hT;go_enter Tryz.func158,Tryz.ntmps158;go_wp2_with fail;refine(CV i hi _).mono ?_;rintro e w1 ⟨a,c,rfl,hr1,hb1⟩;have aV:Hid (FnR w p b off x cs q a (Im.bE i).length (gZ (Im.bE i)) w1):=⟨cX.out.below hb1,hr1,hb1⟩;clear cX hr1 hb1;have c11:=(gj.out _ aV.out.s.a).2;have UO:=Im.m5 i;have hpt:w1.cell? ⟨q,t*16+4+Im.bC i,none⟩=some (.int .u32 ((x.ino t).p (Im.bC i))):=aV.out.s.PT (by omega) (Im.bC i) _ (by
  have:Im.bC i=0\/Im.bC i=1\/Im.bC i=2\/Im.bC i=3\/Im.bC i=4\/Im.bC i=5\/Im.bC i=6\/Im.bC i=7\/Im.bC i=8\/Im.bC i=9\/Im.bC i=10:=by omega
  rcases this with e|e|e|e|e|e|e|e|e|e|e<;>rw[e]<;>rfl)
 have hpb:=mS.out.p (Im.bC i);have HB:Hid (x.blk t i=(Im.bE i).foldl x.step ((x.ino t).p (Im.bC i)).toNat):=rfl;have R2:Hid (x.okW (Im.bE i).length ((x.ino t).p (Im.bC i)).toNat):=by show _;rw[Im.kE];exact HT.out (Im.bC i) UO
 have Sr:=hid (Im.pK hi);have hwn:(Im.bE i).length<=3:=by rw[Im.kE];exact rk UO
 obtain⟨W,hW⟩:∃W,W=Im.bE i:=⟨_,rfl⟩;obtain⟨P,hP⟩:∃P,P=Im.bC i:=⟨_,rfl⟩;obtain⟨pv,hpv⟩:∃pv,pv=(x.ino t).p P:=⟨_,rfl⟩;rw[<-hW] at HB R2 Sr aV hwn;rw[<-hP] at HB R2 hpt hpb UO;rw[<-hpv] at HB R2 hpt hpb;rw[<-hW,<-hP];have adS:(P:Int)<11:=by omega
 clear hW hP hpv mS hi;obtain⟨n,hn⟩:∃n,n=W.length:=⟨_,rfl⟩;have HN:=hid hn;rw[<-hn] at aV R2 hwn ⊢;clear hn;go_wp2_with fail;clear c11 hpt;go_loopw [10,36] (λv u wr=>∃k:Nat,k<=n/\v= .int .i64 (((W.take k).foldl x.step pv.toNat:Nat):Int)/\u= .int .i64 (k:Int)/\FnR w p b off x cs q a n (gZ W) wr) (λ_ u _=>n-(intOf u).toNat)
 case atStart=>exact⟨0,Nat.zero_le _,int_eq (by rw[List.take_zero,List.foldl_nil];omega),rfl,aV.out⟩
 case round=>
  clear aV;obtain⟨k,hk,rfl,rfl,st⟩:=hrel;have ST:=hid st;clear st;obtain⟨v,hv⟩:∃v,v=(W.take k).foldl x.step pv.toNat:=⟨_,rfl⟩;have HV:=hid hv;rw[<-hv];have XE:Hid (v≠0->v<x.n):=λh0=>by
   have:=Im.Ew R2.out (W.take k) (by rw[List.length_take,<-HN.out];omega) (λj hj=>Sr.out j (List.mem_of_mem_take hj));rw[<-hv] at this;exact Im.okW.lt this h0
  clear hv
  by_cases hlt:k<n
  ·have hlt':(k:Int)<(n:Int):=by omega
   have k0:(0:Int)<=(k:Int):=by omega
   obtain⟨b',off',ha,lF⟩:∃b' off',a=some ⟨b',off',none⟩/\aF wr b' off' 1 n (gZ W):=by
    rcases ST.out.r with h|h
    ·omega
    ·exact h
   subst ha;obtain⟨d,hd⟩:∃d,d=W.getD k 0:=⟨_,rfl⟩;have cd:wr.cell? ⟨b',off'+k,none⟩=some (.int .i64 (d:Int)):=by
    have:=lF k hlt 0 (.int .i64 ((W.getD k 0:Nat):Int)) rfl;rw[<-hd,Nat.mul_one,Nat.add_zero] at this;exact this
   have tX:W[k]? =some d:=by
    rw[hd,List.getD_eq_getElem?_getD,List.getElem?_eq_getElem (by rw[<-HN.out];exact hlt)];rfl
   have DB:d<64:=Sr.out d (List.mem_of_getElem? tX);have pk:Hid ((W.take (k+1)).foldl x.step pv.toNat=x.step v d):=by
    show _=_;rw[List.take_add_one,tX,List.foldl_append,<-HV.out];rfl
   have Oq:Hid (v=0->x.blk t i=0):=λh0=>by
    rw[HB.out,<-List.take_append_drop k W,List.foldl_append,<-HV.out,h0];exact Cy x _
   clear lF hd tX
   by_cases hv0:v=0
   ·subst hv0
    have HF:Hid (x.blk t i=0):=Oq.out rfl;go_wp2_with fail;go_ret;exact⟨by rw[HF.out];rfl,ST.out.bel⟩
   have q0:((v:Int)==0)=false:=by simp;omega
   have Au:=XE.out hv0;have UP:(v:Int)<(x.n:Int):=by omega
   have v0:(0:Int)<=(v:Int):=by omega
   have c0:=(gj.out _ ST.out.s.a).1;have B9:Hid (Seg wr b (off+v*256) 256 (x.L v)):=λj hj=>ST.out.s.i v Au j _ (by show(Ks .u8 256 (x.L v))[j]? =_;exact j6 _ _ _ _ hj)
   have hsl:=λW=>dK b (off+v*256) W
   have SA:Hid ((4*(d:Int)).toNat=4*d):=by show _=_;omega
   have HW:Hid (b9 (x.L v) (4*d)=((x.sJ v d:Nat):Int)):=(Im.mW HX.out v d).1.symm;have Hf:=(Im.mW HX.out v d).2;have HST:Hid (x.step v d=x.sJ v d):=by show _=_;unfold Im.step;rw[if_neg hv0]
   clear hv0 Au;go_wp2_with fail;refine(g7 b (off+v*256) 256 256 (4*(d:Int)) (x.L v) _ (by decide) (by omega) (by omega) B9.out (HX.out.jg v)).mono ?_;rintro e w4 ⟨rfl,rfl⟩;rw[SA.out,HW.out];obtain⟨vw,MX⟩:∃z,z=x.sJ v d:=⟨_,rfl⟩;have TJ:=hid MX;rw[<-MX] at Hf ⊢;have vw0:(0:Int)<=(vw:Int):=by omega
   have vw9:(vw:Int)<4294967296:=by omega
   clear MX c0 hsl SA HW B9;go_wp2_with fail;go_roundw
   case rel=>(try((repeat apply Exists.intro);refine⟨?_,rfl⟩));exact⟨k+1,by omega,by rw[pk.out,HST.out,<-TJ.out],by first|rfl|go_num,ST.out⟩
   case measure=>simp[intOf]<;>omega
  ·obtain rfl:k=n:=by omega
   have HF:Hid (x.blk t i=v):=by show _=_;rw[HB.out,HV.out,HN.out,List.take_length]
   go_wp2_with fail;go_ret;exact⟨by rw[HF.out];rfl,ST.out.bel⟩
structure Ig(w:World)(p b off:Nat)(x:Im)(cs:Array Value)(q g:Nat)(o:Nat->Nat)(W:World):Prop where
 t:wZ w p b off x cs q g o W
 bel:Below w.heap.size w W
theorem Ig.below{g:Nat}{o:Nat->Nat}{W W':World}(h:Ig w p b off x cs q g o W)(hb:Below W.heap.size W W'):Ig w p b off x cs q g o W':=⟨h.t.below hb,h.bel.trans (hb.mono h.bel.size)⟩
theorem wy(p b off cap:Nat)(x:Im)(hx:x.Ok)(ds ino ak sl un:Value)(q g:Nat)(o:Nat->Nat)(w:World)(h:wZ w p b off x (XC b off cap x ds ino ak (.slice (some ⟨g,0,none⟩) x.n x.n) sl un) q g o w):
  Calls Tryz.prog 82 #[.pointer (some ⟨p,0,none⟩)] w λe w'=>pD (aD (x.uw o) x.g) 8 e/\Below w.heap.size w w':=by
 have HX:=hid hx;obtain⟨h1,h2,h3,h4,h5,h6,h7,h8,h9,h10,h11⟩:=dL hx.may;have fY:=hx.iu;obtain⟨cs,hcs⟩:∃cs,cs=XC b off cap x ds ino ak (.slice (some ⟨g,0,none⟩) x.n x.n) sl un:=⟨_,rfl⟩;have gj:Hid (∀W,At W p 105 cs->W.cell? ⟨p,0,none⟩=some (.slice (some ⟨b,off,none⟩) x.n cap)/\W.cell? ⟨p,13,none⟩=some (.slice (some ⟨g,0,none⟩) x.n x.n)/\W.cell? ⟨p,7,none⟩=some (.int .i64 (x.s:Int))/\W.cell? ⟨p,6,none⟩=some (.int .i64 (x.g:Int))/\XG p x.g x.s x.i x.j W):=λW h=>by
  rw[hcs] at h;exact⟨h.cell (i:=0) rfl,h.cell (i:=13) rfl,h.cell (i:=7) rfl,h.cell (i:=6) rfl,XG.of h⟩
 rw[<-hcs] at h;have cX:Hid (Ig w p b off x cs q g o w):=⟨h,Below.refl _ _⟩;have c6:=(gj.out _ h.s.a).2.2.2.1;clear h hcs hx;go_enter Tryz.func82,Tryz.ntmps82;go_wp2_with fail;clear c6;go_loopw [10] (λu wr=>∃k:Nat,k<=x.g/\u= .int .i64 (k:Int)/\(∀γ,γ<k->x.uw o γ=true)/\Ig w p b off x cs q g o wr) (λu _=>x.g-(intOf u).toNat)
 case atStart=>exact⟨0,Nat.zero_le _,rfl,λq h=>by omega,cX.out⟩
 case round=>
  clear cX;obtain⟨k,hk,rfl,hP,st⟩:=hrel;have lL:=hid hP;have ST:=hid st;clear hP st
  by_cases hlt:k<x.g
  ·have hlt':(k:Int)<(x.g:Int):=by omega
   have ct:Hid (x.uw o k=false->pD (aD (x.uw o) x.g) 8 (.panicked (r8 8))):=λh=> .inr ⟨bJ hlt h,rfl⟩
   have zh:Hid (x.uw o k=true->∀γ,γ<k+1->x.uw o γ=true):=λhc γ hγ=>by
    rcases Nat.lt_succ_iff_lt_or_eq.1 hγ with h|h
    ·exact lL.out γ h
    ·rw[h];exact hc
   go_wp2_with fail;refine(iU p x.g x.s x.i x.j k HX.out.may hlt wr (gj.out _ ST.out.t.s.a).2.2.2.2).mono ?_;rintro e w1 ⟨rfl,hb1⟩;have aV:=hid (ST.out.below hb1);clear ST hb1;have HQ:Hid (2+x.j+k*x.s=x.st k):=rfl;rw[HQ.out];obtain⟨Q,hQ⟩:∃Q,Q=x.st k:=⟨_,rfl⟩;have Ia:=hid hQ;have Ze:∀d,d<x.s->Q+d<x.n:=λd hd=>by rw[hQ];exact HX.out.st hlt hd
   have HQN:=hid Ze;rw[<-hQ];clear hQ HQ Ze;go_wp2_with fail;refine(uv p x.g x.s x.i x.j h6 w1 (gj.out _ aV.out.t.s.a).2.2.2.2).mono ?_;rintro e w2 ⟨rfl,rfl⟩;obtain⟨ow,how⟩:∃z,z=2+x.i/4:=⟨_,rfl⟩;have HOW:Hid (x.own=ow):=how.symm;have acL:ow<=x.s:=by omega
   rw[<-how];clear how;go_wp2_with fail;go_loopw [4] (λu wr=>∃d:Nat,d<=x.s-ow/\u= .int .i64 ((ow+d:Nat):Int)/\(∀c,c<d->(bt (x.L Q) (ow+c)==(o (Q+(ow+c)) !=0))=true)/\Ig w p b off x cs q g o wr) (λu _=>x.s-(intOf u).toNat)
   case atStart=>exact⟨0,Nat.zero_le _,rfl,λq h=>by omega,aV.out⟩
   case round=>
    clear aV;obtain⟨d,hd,rfl,hP,st⟩:=hrel;have XD:=hid hP;have ST:=hid st;clear hP st;obtain⟨c0,c13,c7,_,_⟩:=gj.out _ ST.out.t.s.a;obtain⟨I,hI⟩:∃I,I=ow+d:=⟨_,rfl⟩;have HI:=hid hI;have hI9:I<=x.s:=by omega
    rw[<-hI];clear hI c0 c13
    by_cases jX:I<x.s
    ·have YL:(I:Int)<(x.s:Int):=by omega
     have hQI:=HQN.out I jX;have Tk:=HQN.out 0 (by omega);rw[Nat.add_zero] at Tk;obtain⟨J,hJ⟩:∃J,J=Q+I:=⟨_,rfl⟩;have To:(Q:Int)+(I:Int)=(J:Int):=by omega
     have hJn:J<x.n:=by omega
     have adZ:(J:Int)<(x.n:Int):=by omega
     have adM:(Q:Int)<(x.n:Int):=by omega
     have HJ:=hid hJ;have HJI:=hid To;obtain⟨ov,hov⟩:∃z:Int,z=((o J:Nat):Int):=⟨_,rfl⟩;have Sl:=hid hov;clear hJ hQI To hov;go_wp2_with fail;have To:=HJI.out;refine aA (Ig w p b off x cs q g o) 20 (by kernel_rfl) (by kernel_rfl) (by kernel_rfl) (by kernel_rfl) (by kernel_rfl) (by decide) (ST.out.below (Below.refl _ _).drew) ?_;clear ST;simp only[List.take,List.drop];intro hne;have hc0:∀z:aT (Ig w p b off x cs q g o),z.W.cell? ⟨p,0,none⟩=some (.slice (some ⟨b,off,none⟩) x.n cap):=λz=>(gj.out _ z.h.t.s.a).1
     have Wd:∀z:aT (Ig w p b off x cs q g o),z.W.cell? ⟨p,13,none⟩=some (.slice (some ⟨g,0,none⟩) x.n x.n):=λz=>(gj.out _ z.h.t.s.a).2.1
     have VX:∀z:aT (Ig w p b off x cs q g o),z.W.cell? ⟨g,J,none⟩=some (.int .i64 ov):=λz=>z.h.t.o.jU hJn (by rw[Sl.out];rfl)
     iterate 6 go_big_quiet_step (fail)
     refine aH rfl 32 (.tmp 32) rfl b (off+Q*256) rfl (dW x.L Q) _ (λW h=>aF.range h.t.s.i Q Tk) Tryz.underlying32 rfl (by rw[aZ];exact au) ?_;refine ae ?_;go_big_quiet_step (fail)
     go_big_quiet_want
     go_big_quiet_op
     refine⟨_,λs=>aG s (λW hW=>(yW (HX.out.jg Q) _ I rfl (by omega) W).mono λe w' h=>⟨h.1,hW.below h.2⟩),?_⟩
     go_big_quiet_on
     iterate 11 go_big_quiet_step (fail)
     refine wpQuiet_nil ?_;intro w6 h6';have iW:=hid h6'.out;clear h6' hne hc0 Wd VX To;obtain⟨c,hcc⟩:∃c,c=(bt (x.L Q) I==(ov !=0)):=⟨_,rfl⟩;have iE:Hid ((bt (x.L Q) (ow+d)==(o (Q+(ow+d)) !=0))=c):=by
      show _=_;rw[hcc,<-HI.out,<-HJ.out,Sl.out]
      congr 1
      cases o J with
      |zero=>rfl
      |succ n=>simp;omega
     rw[<-hcc];clear hcc;go_wp2_with fail;refine(bw 8 c _).mono ?_;rintro e w7 ⟨hS,rfl⟩;rcases hS with⟨rfl,rfl⟩|⟨rfl,rfl⟩
     rotate_left
     ·refine⟨rfl,ct.out ?_,iW.out.bel⟩
      have:=iE.out;unfold Im.uw;refine bJ (j:=d) (by rw[HOW.out];have:=HI.out;omega) ?_;rw[HOW.out,<-Ia.out];exact this
     have HP3:Hid (∀c,c<d+1->(bt (x.L Q) (ow+c)==(o (Q+(ow+c)) !=0))=true):=λc hc=>by
      rcases Nat.lt_succ_iff_lt_or_eq.1 hc with h|h
      ·exact XD.out c h
      ·rw[h];exact iE.out
     clear iE XD;go_wp2_with fail;go_roundw
     case rel=>(try((repeat apply Exists.intro);refine⟨?_,rfl⟩));exact⟨d+1,by have:=HI.out;omega,int_eq (by have:=HI.out;omega),HP3.out,iW.out⟩
     case measure=>simp[intOf]<;>omega
    ·obtain rfl:I=x.s:=by omega
     have mS:Hid (x.uw o k=true):=by
      show _=_;unfold Im.uw;rw[aP];intro c hc;rw[HOW.out,<-Ia.out];rw[HOW.out] at hc;exact XD.out c (by have:=HI.out;omega)
     go_wp2_with fail;go_roundw
     case rel=>(try((repeat apply Exists.intro);refine⟨?_,rfl⟩));exact⟨k+1,by omega,by first|rfl|go_num,zh.out mS.out,ST.out⟩
     case measure=>simp[intOf]<;>omega
  ·obtain rfl:k=x.g:=by omega
   go_wp2_with fail;refine bodyPost_end (results_none rfl _ _ _) rfl ⟨.inl ⟨(aP _ _).2 lL.out,rfl⟩,ST.out.bel⟩
end Go.Proofs.YtphamecphmbipaaGreatDoor
