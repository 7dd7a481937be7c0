/- Texts of this claim, merged. -/
import Derived.Test.YtphamecphmbipaaGreatDoorZ26
import Derived.Test.YtphamecphmbipaaGreatDoorZ28
import Derived.Test.YtphamecphmbipaaGreatDoorZ27
import Derived.Maps.Own
import Derived.Maps.OwnOps
import Derived.Maps.Views
set_option linter.unusedVariables false
set_option maxRecDepth 100000
set_option maxHeartbeats 16000000

namespace Go.Proofs.YtphamecphmbipaaGreatDoor
open Go.RowKit
variable {z:Nat->Int} {w W':World} {p off q d g base ug k i:Nat} {x:Im} {v:Value} {l:Nat->Bool}
section
open Go.WideMaps Go.Maps
def Jt(l:List (List UInt8)):DataW Unit:=setOf (.lit (.int .i64 1)) (l.map Lit.string)
theorem Js:Jt []= .map []:=rfl
theorem FP(l:List (List UInt8))(s:List UInt8):Jt (l++[s])=(Jt l).put (.string s) (.lit (.int .i64 1)):=by
 unfold Jt;rw[List.map_append,List.map_singleton,setOf_snoc]
theorem sE(u z:DataW Unit)(k:Lit):∀(l:List Lit) (m:DataW Unit),IsMap m->(∀x∈l,WideAt.IsKeyLit x)->(k∈l->(l.foldl (λm x=>m.put x u) m).atKey k z=u)/\(k∉l->(l.foldl (λm x=>m.put x u) m).atKey k z=m.atKey k z)
 |[],m,_,_=>⟨(λh=>by cases h),λ_=>rfl⟩
 |x::l,m,hm,hl=>by
  have ih:=sE u z k l (m.put x u) (hm.put x u) λy hy=>hl y (List.mem_cons_of_mem _ hy)
  rw[List.foldl_cons];refine⟨λh=> ?_,λh=> ?_⟩
  ·by_cases hk:k∈l
   ·exact ih.1 hk
   rcases List.mem_cons.1 h with rfl|h
   ·rw[ih.2 hk];exact atKey_put_same hm (hl k (List.mem_cons_self ..)) _ _
   exact absurd h hk
  rw[ih.2 λh2=>h (List.mem_cons_of_mem _ h2)];exact atKey_put_other (λe=>h (by rw[e];exact List.mem_cons_self ..)) _ _
theorem uf(l:List (List UInt8)):IsMap (Jt l):=(tidy_setOf _ _ λx hx=>by
 obtain⟨s,_,rfl⟩:=List.mem_map.1 hx;trivial).isMap
theorem FQ(l:List (List UInt8))(s:List UInt8):(s∈l->(Jt l).atKey (.string s) (.lit (.int .i64 0))= .lit (.int .i64 1))/\(s∉l->(Jt l).atKey (.string s) (.lit (.int .i64 0))= .lit (.int .i64 0)):=by
 obtain⟨h1,h2⟩:=sE (.lit (.int .i64 1)) (.lit (.int .i64 0)) (.string s) (l.map Lit.string) (.map []) isMap_empty (λx hx=>by
  obtain⟨s,_,rfl⟩:=List.mem_map.1 hx;trivial)
 have hmem:Lit.string s∈l.map Lit.string↔s∈l:=by
  rw[List.mem_map];constructor
  ·rintro⟨y,hy,e⟩;injection e with e;exact e▸hy
  intro h;exact⟨s,h,rfl⟩
 exact⟨λh=>h1 (hmem.2 h),λh=>(h2 (λh3=>h (hmem.1 h3))).trans rfl⟩
theorem nQ:Keyed Tryz.prog 9:=string_keyed Tryz.underlying9
theorem qC(w:World):(zeroValue 3).run Tryz.prog w= .ok (.int .i64 0) w:=by kernel_rfl
theorem Kq(hz:bu z)(k:Nat):(dM z k).size<=255:=by
 unfold dM CQ;split
 ·unfold sQ strOfNums
  have:=hz (32*k+4);unfold dB sl;simp[ByteArray.size];omega
 exact Nat.zero_le _
theorem GX(hz:bu z)(k:Nat):0<=dI z k/\dI z k<4294967296:=by
 unfold dI CR;split
 ·unfold bT;exact dP (λj=>hz _) 0
 decide
theorem jz.self{b:Nat}{cs:Array Value}{W:World}(h:jz w p b off x cs q W):jz W p b off x cs q W:=⟨h.a,h.i,h.r,h.bl,⟨rfl,rfl,rfl,Nat.le_refl _,λ_ _ _=>rfl⟩⟩
theorem jz.new{b:Nat}{cs:Array Value}{W:World}(h:jz w p b off x cs q W)(hp:p<w.heap.size)(hb:b<w.heap.size)(hq:q<w.heap.size){row:Option Nat}(hg:W.grownBy W' row)(hr:∀r,row=some r->w.heap.size<=r):jz w p b off x cs q W':=
 ⟨dE h.a hg (λe=>by have:=hr p e;omega),aM.fX h.i hg h.bl (λe=>by have:=hr b e.symm;omega),h.r.grown hg (λe=>by have:=hr q e.symm;omega),Nat.lt_of_lt_of_le h.bl hg.size,
  ⟨hg.os.trans h.gr.os,hg.tape.trans h.gr.tape,hg.output.trans h.gr.output,Nat.le_trans h.gr.size hg.size,λj hj hne=>(hg.block j (Nat.lt_of_lt_of_le hj h.gr.size) (λe=>by have:=hr j e.symm;omega)).trans (h.gr.block j hj hne)⟩⟩
structure zR(w:World)(p b off:Nat)(x:Im)(cs:Array Value)(q:Nat)(ns:List (List UInt8))(is:List Nat)(n:Nat)(v:Value)(W:World):Prop where
 s:jz w p b off x cs q W
 m:W.ownsMap Tryz.prog 9 (plainElem (H:=Unit) Tryz.prog 3) w.heap.size n (Jt ns)
 o:au W (w.heap.size+1) 3 1 v is.length (iA is)
 bel:Below w.heap.size w W
 n1:is.length<=n
section
variable {w:World} {p b off:Nat} {x:Im} {cs:Array Value} {q:Nat} {ns:List (List UInt8)} {is:List Nat} {n:Nat} {v:Value} {W W':World}
theorem zR.below(h:zR w p b off x cs q ns is n v W)(hb:Below W.heap.size W W'):zR w p b off x cs q ns is n v W':=
 ⟨h.s.below hb,h.m.kept (bB (row:=none) hb) (by simp),au.below h.o hb,h.bel.trans (hb.mono h.bel.size),h.n1⟩
theorem zR.more(h:zR w p b off x cs q ns is n v W){n':Nat}(hn:n<=n'):zR w p b off x cs q ns is n' v W:=⟨h.s,h.m.mono hn,h.o,h.bel,Nat.le_trans h.n1 hn⟩
theorem zR.name(h:zR w p b off x cs q ns is n v W)(hp:p<w.heap.size)(hb:b<w.heap.size)(hq:q<w.heap.size){s:List UInt8}(hg:W.grownBy W' (some w.heap.size))(hm:W'.ownsMap Tryz.prog 9 (plainElem (H:=Unit) Tryz.prog 3) w.heap.size (n+1) (Jt (ns++[s]))):zR w p b off x cs q (ns++[s]) is (n+1) v W':=
 ⟨h.s.new hp hb hq hg (λr e=>by injection e with e;omega),hm,World.ownsRow.kept h.o hg (by
  cases h1:v.ownBlock with
  |none=>exact .inl rfl
  |some g=>exact .inr (λe=>by injection e with e;have:=(World.ownsRow.lt h.o g h1).1;omega)),h.bel.grown hg h.bel.size (λr e=>by injection e with e;omega),Nat.le_succ_of_le h.n1⟩
theorem zR.app(h:zR w p b off x cs q ns is n v W)(hp:p<w.heap.size)(hb:b<w.heap.size)(hq:q<w.heap.size){v':Value}(hd:is.length+1<=n)(hg:W.grownBy W' v.ownBlock)(ho:W'.ownsRow (w.heap.size+1) 3 1 v' (is.length+1) (Cs (iA is) is.length++[.int .i64 (d:Int)])):zR w p b off x cs q ns (is++[d]) n v' W':=by
 have lR:∀r,v.ownBlock=some r->w.heap.size+1<=r:=λr e=>(World.ownsRow.lt h.o r e).1
 refine⟨h.s.new hp hb hq hg (λr e=>by have:=lR r e;omega),h.m.kept hg (λe=>by have:=lR _ e.symm;omega),?_,h.bel.grown hg h.bel.size (λr e=>by have:=lR r e;omega),by rw[List.length_append];exact hd⟩;rw[List.length_append];show au W' (w.heap.size+1) 3 1 v' (is.length+1) (iA (is++[d]));refine au.append (f:=iA (is++[d])) (news:=[.int .i64 (d:Int)]) ?_ ?_
 ·rw[<-iS λk hk=>qm is d k hk];exact ho
 show _=Cs _ 1;rw[od];show _=[]++iA (is++[d]) (is.length+0);rw[Nat.add_zero,qk];rfl
end
structure Hu(w:World)(p b off:Nat)(x:Im)(cs:Array Value)(q:Nat)(ns:List (List UInt8))(is:List Nat)(n:Nat)(v:Value)(g:Nat)(sc:Array Value)(G d:Nat)(nm:ByteArray)(W:World):Prop where
 s:zR w p b off x cs q ns is n v W
 a:At W G 90 #[.int .u32 (d:Int),.string nm]
 g:At W g 172 sc
theorem Hu.below{b:Nat}{cs:Array Value}{ns:List (List UInt8)}{is:List Nat}{n:Nat}{sc:Array Value}{G:Nat}{nm:ByteArray}{W:World}(h:Hu w p b off x cs q ns is n v g sc G d nm W)(hb:Below W.heap.size W W'):Hu w p b off x cs q ns is n v g sc G d nm W':=
 ⟨h.s.below hb,h.a.below hb h.a.lt,h.g.below hb h.g.lt⟩
def Cw(w:World)(x:Im)(t:Nat)(e:Ending)(w':World):Prop:=
 Below w.heap.size w w'/\((x.iu t=none/\e= .panicked (sB 9))\/∃r v,x.iu t=some r/\e= .returned v/\au w' w.heap.size 3 1 v r.2.length (iA r.2))
theorem D2(p b off cap:Nat)(x:Im)(hx:x.Ok)(ds ay own sl un:Value)(q:Nat)(t:Nat)(ht1:1<=t)(ht:t<=x.ni)(hM:(x.ino t).kz)(hT:x.Tree t)(w:World)(hpw:p<w.heap.size)(r6:b<w.heap.size)(AN:q<w.heap.size)(h:jz w p b off x (XC b off cap x ds (.slice (some ⟨q,0,none⟩) (x.ni+1) (x.ni+1)) ay own sl un) q w):
  Calls Tryz.prog 133 #[.pointer (some ⟨p,0,none⟩),.int .i64 (t:Int)] w λe w'=>Cw w x t e w':=by
 have HX:=ah hx;have gi:=hx.iK;have hni:x.ni<=256:=eX hx.may;have hsz:=(aS.mK hM).1;obtain⟨N,hN⟩:=aa ((x.ino t).size.toNat/256);have hq:(x.ino t).size.tdiv 256=(N:Int):=by rw[Int.tdiv_eq_ediv_of_nonneg (by omega)];omega
 have Px:N<=65536:=by omega
 have Tg:Hd (x.iu t=a8 (x.jN t) N ([],[])):=by show _=_;unfold Im.iu;rw[hN]
 have ht':(t:Int)<(x.ni:Int)+1:=by omega
 have cS:w.cell? ⟨q,t*16+3,none⟩=some (.int .i64 (x.ino t).size):=h.ino (t:=t) (by omega) 3 rfl;have LW:Hd (∀(i:Nat) (W:World),i<65536->jz w p b off x (XC b off cap x ds (.slice (some ⟨q,0,none⟩) (x.ni+1) (x.ni+1)) ay own sl un) q W->Calls Tryz.prog 158 #[.pointer (some ⟨p,0,none⟩),.int .i64 (t:Int),.int .i64 (i:Int)] W λe w'=>e= .returned (.int .i64 ((x.blk t i:Nat):Int))/\Below W.heap.size W w'):=
  λi W hi hW=>A6 p b off cap x hx ds ay own sl un q t i ht1 ht hi hT W hW.self
 have m8:Hd (∀i:Nat,i<65536->x.blk t i≠0->x.blk t i<x.n):=λi hi h0=>Im.G6 hT hi h0
 obtain⟨cs,hcs⟩:=aa (XC b off cap x ds (.slice (some ⟨q,0,none⟩) (x.ni+1) (x.ni+1)) ay own sl un);have gA:Hd (∀W,At W p 105 cs->W.cell? ⟨p,0,none⟩=some (.slice (some ⟨b,off,none⟩) x.n cap)/\W.cell? ⟨p,11,none⟩=some (.slice (some ⟨q,0,none⟩) (x.ni+1) (x.ni+1))):=λW h=>by
  rw[hcs] at h;exact⟨h.cell (i:=0) rfl,h.cell (i:=11) rfl⟩
 rw[<-hcs] at h LW;have hb0:Below w.heap.size w (w.alloc (.map #[] 0)):=ag.alloc af _;have dt:Hd (zR w p b off x cs q [] [] 0 (.slice none 0 0) (w.alloc (.map #[] 0))):=⟨h.below hb0,by rw[Js];exact World.ownsMap_made _ _ _ _,au.nil _ _ _ _ _,hb0,Nat.le_refl _⟩;have hmm:=@run_makeMap Tryz.prog;have c11:=(gA.Z _ dt.Z.s.a).2;have cS1:(w.alloc (.map #[] 0)).cell? ⟨q,t*16+3,none⟩=some (.int .i64 (x.ino t).size):=dt.Z.s.ino (t:=t) (by omega) 3 rfl;clear h hcs hx hT hM hN hb0 cS;go_enter Tryz.func133,Tryz.ntmps133;go_wp2_with fail;clear c11 cS1 hq hsz;go_loopw [5,23] (λv u wr=>∃(k:Nat) (ns:List (List UInt8)) (is:List Nat),k<=N/\u= .int .i64 (k:Int)/\a8 (x.jN t) k ([],[])=some (ns,is)/\zR w p b off x cs q ns is (k*8) v wr) (λ_ u _=>N-(intOf u).toNat)
 case atStart=>exact⟨0,[],[],Nat.zero_le _,rfl,rfl,dt.Z⟩
 clear dt;obtain⟨k,ns,is,hk,rfl,hfo,st⟩:=hrel;have sM:=ah hfo;have ST:=ah st;clear hfo st
 by_cases hlt:k<N
 ·have hlt':(k:Int)<(N:Int):=by omega
  have cY:Hd (x.jN t k (ns,is)=none->x.iu t=none):=λh=>by rw[Tg.Z];exact dp sM.Z h hlt
  go_wp2_with fail;refine(LW.Z k _ (by omega) ST.Z.s).mono ?_;rintro e w1 ⟨rfl,hb1⟩;have bh:=ah (ST.Z.below hb1);have Ut:Hd (x.jN t k (ns,is)=if x.blk t k≠0/\iW (x.L (x.blk t k))=true then a8 (x.g7 (x.L (x.blk t k))) 8 (ns,is) else none):=rfl;have ll:=m8.Z k (by omega);obtain⟨B,hB⟩:=aa (x.blk t k);rw[<-hB] at ll Ut ⊢;clear ST hb1 hB;obtain⟨c1,hc1⟩:=aa (((B:Int) !=0));have jk:=ah hc1;clear hc1;go_wp2_with fail;refine(bJ 9 ((B:Int) !=0) _).mono ?_;rintro e w2 ⟨hS,rfl⟩;rcases hS with⟨hB0,rfl⟩|⟨hB0,rfl⟩
  rotate_left
  ·refine⟨rfl,bh.Z.bel,.inl ⟨cY.Z (by rw[Ut.Z,if_neg (λh=>by simp at hB0;omega)]),rfl⟩⟩
  have wF:B≠0:=by intro e;rw[e] at hB0;cases hB0
  have Xm:=ll wF;have RK:(B:Int)<(x.n:Int):=by omega
  have b0:(0:Int)<=(B:Int):=by omega
  have c0:=(gA.Z _ bh.Z.s.a).1;have hrg:=aM.range bh.Z.s.i B Xm;have jS:=ah wF;clear hB0 ll wF;go_wp2_with (first|(refine aH rfl 32 (.tmp 39) rfl b (off+B*256) (dR x.L B) _ rfl hrg Tryz.underlying32 rfl (by rw[aZ];exact aA) ?_))
  refine(F1 (x.L B) (HX.Z.jx B) _).mono ?_;rintro e w3 ⟨hb3,hl⟩;have fh:=ah (bh.Z.below hb3);have HML:=ah bh.Z.m.lt;clear bh c0 hrg hb3;rcases hl with⟨hd,rfl⟩|⟨hd,g,hg3,rfl,hA⟩
  ·have HD:=ah hd
   clear hd;go_wp2_with fail;refine(ir 9 _).mono ?_;rintro e w4 ⟨rfl,rfl⟩;exact⟨rfl,fh.Z.bel,.inl ⟨cY.Z (by rw[Ut.Z,if_neg (λh=>by rw[HD.Z] at h;cases h.2)]),rfl⟩⟩
  have HD:=ah hd;have jQ:Hd (x.jN t k (ns,is)=a8 (x.g7 (x.L B)) 8 (ns,is)):=by show _=_;rw[Ut.Z,if_pos ⟨jS.Z,HD.Z⟩]
  have hgB:w.heap.size<g:=Nat.lt_of_lt_of_le HML.Z hg3;have HA:Hd (At w3 g 172 (Sc (dI (x.L B)) (dM (x.L B)) 8).toArray):=hA;have HZ:=ah (HX.Z.jx B);obtain⟨z,hz⟩:=aa (x.L B);rw[<-hz] at HA jQ HZ;clear hd hA hz hg3;go_wp2_with fail;refine(gN 9 _).mono ?_;rintro e w4 ⟨rfl,rfl⟩;go_wp2_with fail;clear b0 RK;have hal:=lH;go_loopw [5,49] (λv u wr=>∃(j:Nat) (ns':List (List UInt8)) (fP:List Nat),j<=8/\u= .int .i64 (j:Int)/\a8 (x.g7 z) j (ns,is)=some (ns',fP)/\zR w p b off x cs q ns' fP (k*8+j) v wr/\At wr g 172 (Sc (dI z) (dM z) 8).toArray) (λ_ u _=>8-(intOf u).toNat)
  case atStart=>exact⟨0,ns,is,Nat.zero_le _,rfl,rfl,fh.Z,HA.Z⟩
  clear fh HA;obtain⟨j,ns',fP,hj,rfl,LQ,st,NX⟩:=hrel;have Ct:=ah LQ;have xd:=ah st.n1;have ST:=ah st;have EH:=ah NX;clear LQ st
  by_cases TD:j<8
  ·have hj':(j:Int)<8:=by omega
   have j0:(0:Int)<=(j:Int):=by omega
   have hr:=(At.tS NX).range j TD;rw[Nat.zero_add] at hr;have qp:=GX HZ.Z j;have hds:=Kq HZ.Z j;obtain⟨nm,xj⟩:=aa (dM z j);obtain⟨d,hd⟩:∃d:Nat,dI z j=(d:Int):=⟨(dI z j).toNat,by omega⟩;have zM:Hd (x.g7 z j (ns',fP)=if(d:Int)=0 then some (ns',fP) else if nm.data.toList∉ns'/\d<=x.ni/\(x.ino d).kind≠0 then some (ns'++[nm.data.toList],fP++[d]) else none):=by
    show _=_;unfold Im.g7;rw[hd,<-xj,Int.toNat_natCast]
   rw[hd,<-xj] at hr;rw[hd] at qp;rw[<-xj] at hds;have zv:Hd (x.g7 z j (ns',fP)=none->x.iu t=none):=λh=>cY.Z (by rw[jQ.Z];exact dp Ct.Z h TD)
   clear xj hd NX;have hA0:=At.new wr 90 #[.int .u32 0,.string ByteArray.empty];have Vk:=ST.Z.bel.size;go_wp2_with (first|(refine wpList_load_mid rfl 90 _ rfl _ _ rfl _ _ hr Tryz.underlying90 rfl (by kernel_rfl) ?_)|(refine aD rfl 90 _ _ rfl _ #[.int .u32 (d:Int),.string nm] _ rfl rfl hA0 (ew _ _) rfl (fU _ _) ?_))
   intro w5 LZ wh;have om:Below wr.heap.size wr w5:=(ag.alloc af _).trans (wh.below af);have ed:=ah (ST.Z.below om);have Uu:=ah (EH.Z.below om EH.Z.lt);obtain⟨G,hG⟩:=aa wr.heap.size;have hGw:w.heap.size<G:=by rw[hG];exact ST.Z.m.lt
   rw[<-hG] at LZ ⊢;have Uw:=ah LZ;have c0:w5.cell? ⟨G,0,none⟩=some (.int .u32 (d:Int)):=LZ.cell (i:=0) rfl;have c1:w5.cell? ⟨G,1,none⟩=some (.string nm):=LZ.cell (i:=1) rfl;clear hr hA0 wh om ST EH hG Vk LZ
   by_cases hd0:d=0
   ·subst hd0
    have HN:Hd (a8 (x.g7 z) (j+1) (ns,is)=some (ns',fP)):=bK Ct.Z (by rw[zM.Z];rfl);clear c1;go_wp2_with fail;go_roundw
    case rel=>(try((repeat apply Exists.intro);refine⟨?_,rfl⟩));exact⟨j+1,ns',fP,by omega,by first|rfl|go_num,HN.Z,ed.Z.more (by omega),Uu.Z⟩
    simp[intOf]<;>omega
   have q0:((d:Int)==0)=false:=by simp;omega
   have ko:Hd (x.g7 z j (ns',fP)=if nm.data.toList∉ns'/\d<=x.ni/\(x.ino d).kind≠0 then some (ns'++[nm.data.toList],fP++[d]) else none):=by show _=_;rw[zM.Z,if_neg (by omega)]
   have hkey:keyOf Tryz.prog 9 (.string nm)=some (.string nm.data.toList):=keyOf_string_mk Tryz.underlying9 (by unfold maxLen;omega);have hown:=ed.Z.m;obtain⟨c,hrun,hat,_⟩:=hown.lookup_int nQ Tryz.underlying220 Tryz.underlying3 (qC _) hkey;have Zp:k*8+j<600000:=by omega
   by_cases hin:nm.data.toList∈ns'
   ·rw[(FQ ns' _).1 hin] at hat
    obtain rfl:c=1:=by injection hat with hat;injection hat with _ hat;exact hat.symm
    have xe:=ah hin;clear hat hin hd0 zM;go_wp2_with (first|(at_mapUpdate;refine wpList_mapUpdate_own _ rfl _ _ _ 220 rfl 9 3 nQ Tryz.underlying220 _ w.heap.size (k*8+j) _ rfl hown (by unfold maxLen;omega) _ _ _ rfl rfl hkey _ [] (plainElem_int Tryz.underlying3 (by decide)) ?_))
    intro w6 uo wy;have c1':w6.cell? ⟨G,1,none⟩=some (.string nm):=(World.cell?_of_block (w:=w5) (wy.block G Uw.Z.lt (λe=>by injection e with e;omega))).trans c1;obtain⟨c',hrun',hat',_⟩:=uo.lookup_int nQ Tryz.underlying220 Tryz.underlying3 (qC _) hkey;rw[atKey_put_same (k:=.string nm.data.toList) (uf ns') (show WideAt.IsKeyLit (.string nm.data.toList) from trivial)] at hat';obtain rfl:c'=2:=by injection hat' with hat';injection hat' with _ hat';exact hat'.symm
    have gr6:w.grownBy w6 (some p):=(ed.Z.s.new hpw r6 AN wy (λr e=>by injection e with e;omega)).gr;have bl6:Below w.heap.size w w6:=ed.Z.bel.grown wy ed.Z.bel.size (λr e=>by injection e with e;omega);clear hat' uo wy hrun;go_wp2_with fail;refine(ir 9 _).mono ?_;rintro e w7 ⟨rfl,rfl⟩;exact⟨rfl,bl6,.inl ⟨zv.Z (by rw[ko.Z,if_neg (λh=>h.1 xe.Z)]),rfl⟩⟩
   rw[(FQ ns' _).2 hin] at hat;obtain rfl:c=0:=by injection hat with hat;injection hat with _ hat;exact hat.symm
   have xe:=ah hin;clear hat hin hd0 zM;go_wp2_with (first|(at_mapUpdate;refine wpList_mapUpdate_own _ rfl _ _ _ 220 rfl 9 3 nQ Tryz.underlying220 _ w.heap.size (k*8+j) _ rfl hown (by unfold maxLen;omega) _ _ _ rfl rfl hkey _ [] (plainElem_int Tryz.underlying3 (by decide)) ?_))
   intro w6 uo wy;have c1':w6.cell? ⟨G,1,none⟩=some (.string nm):=(World.cell?_of_block (w:=w5) (wy.block G Uw.Z.lt (λe=>by injection e with e;omega))).trans c1;obtain⟨c',hrun',hat',_⟩:=uo.lookup_int nQ Tryz.underlying220 Tryz.underlying3 (qC _) hkey;rw[atKey_put_same (k:=.string nm.data.toList) (uf ns') (show WideAt.IsKeyLit (.string nm.data.toList) from trivial)] at hat';obtain rfl:c'=1:=by injection hat' with hat';injection hat' with _ hat';exact hat'.symm
   have jj:=ah (ed.Z.name hpw r6 AN wy (by rw[FP];exact uo));have HA6:Hd (At w6 G 90 #[.int .u32 (d:Int),.string nm]):=dE Uw.Z wy (λe=>by injection e with e;omega);have Mt:Hd (At w6 g 172 (Sc (dI z) (dM z) 8).toArray):=dE Uu.Z wy (λe=>by injection e with e;omega);clear hat' uo wy hrun ed Uw Uu c0 c1 hown;go_wp2_with fail;refine(gN 9 _).mono ?_;rintro e w7 ⟨rfl,rfl⟩;clear c1' hrun' hkey;have Il:(d:Int)<4294967296:=qp.2;have d0:(0:Int)<=(d:Int):=by omega
   go_wp2_with fail;refine aG (Hu w p b off x cs q (ns'++[nm.data.toList]) fP (k*8+j+1) u5 g (Sc (dI z) (dM z) 8).toArray G d nm) 10 (by kernel_rfl) (by kernel_rfl) (by kernel_rfl) (by kernel_rfl) (by kernel_rfl) (by decide) (Hu.below ⟨jj.Z,HA6.Z,Mt.Z⟩ ag.drew) ?_;clear jj HA6 Mt;simp only[List.take,List.drop];intro hne;have nV:∀y:a9 (Hu w p b off x cs q (ns'++[nm.data.toList]) fP (k*8+j+1) u5 g (Sc (dI z) (dM z) 8).toArray G d nm),y.W.cell? ⟨G,0,none⟩=some (.int .u32 (d:Int)):=λy=>y.h.a.cell (i:=0) rfl
   have wA:∀y:a9 (Hu w p b off x cs q (ns'++[nm.data.toList]) fP (k*8+j+1) u5 g (Sc (dI z) (dM z) 8).toArray G d nm),y.W.cell? ⟨p,11,none⟩=some (.slice (some ⟨q,0,none⟩) (x.ni+1) (x.ni+1)):=λy=>(gA.Z _ y.h.s.s.a).2
   repeat go_big_quiet_step (fail)
   refine wpQuiet_nil ?_;intro w8 h8;have tD:=ah h8.Z;clear h8 hne nV wA;go_wp2_with fail;refine(bJ 9 (decide ((d:Int)<(x.ni:Int)+1)) _).mono ?_;rintro e w9 ⟨hS,rfl⟩;rcases hS with⟨mo,rfl⟩|⟨mo,rfl⟩
   rotate_left
   ·refine⟨rfl,tD.Z.s.bel,.inl ⟨zv.Z (by rw[ko.Z,if_neg (λh=>by have:=of_decide_eq_false mo;omega)]),rfl⟩⟩
   have adN:(d:Int)<(x.ni:Int)+1:=of_decide_eq_true mo;have DR:d<x.ni+1:=by omega
   clear mo;go_wp2_with fail;refine aG (Hu w p b off x cs q (ns'++[nm.data.toList]) fP (k*8+j+1) u5 g (Sc (dI z) (dM z) 8).toArray G d nm) 10 (by kernel_rfl) (by kernel_rfl) (by kernel_rfl) (by kernel_rfl) (by kernel_rfl) (by decide) (tD.Z.below ag.drew) ?_;clear tD;simp only[List.take,List.drop];intro hne;have nV:∀y:a9 (Hu w p b off x cs q (ns'++[nm.data.toList]) fP (k*8+j+1) u5 g (Sc (dI z) (dM z) 8).toArray G d nm),y.W.cell? ⟨G,0,none⟩=some (.int .u32 (d:Int)):=λy=>y.h.a.cell (i:=0) rfl
   have wA:∀y:a9 (Hu w p b off x cs q (ns'++[nm.data.toList]) fP (k*8+j+1) u5 g (Sc (dI z) (dM z) 8).toArray G d nm),y.W.cell? ⟨p,11,none⟩=some (.slice (some ⟨q,0,none⟩) (x.ni+1) (x.ni+1)):=λy=>(gA.Z _ y.h.s.s.a).2
   have mO:∀y:a9 (Hu w p b off x cs q (ns'++[nm.data.toList]) fP (k*8+j+1) u5 g (Sc (dI z) (dM z) 8).toArray G d nm),y.W.cell? ⟨q,d*16,none⟩=some (.int .u8 (x.ino d).kind):=λy=>y.h.s.s.ino (t:=d) DR 0 rfl
   repeat go_big_quiet_step (fail)
   refine wpQuiet_nil ?_;intro pL h10;have tE:=ah h10.Z;clear h10 hne nV wA mO;go_wp2_with fail;refine(bJ 9 ((x.ino d).kind !=0) _).mono ?_;rintro e H7 ⟨hS,rfl⟩;rcases hS with⟨fV,rfl⟩|⟨fV,rfl⟩
   rotate_left
   ·refine⟨rfl,tE.Z.s.bel,.inl ⟨zv.Z (by rw[ko.Z,if_neg (λh=>h.2.2 (by simpa using fV))]),rfl⟩⟩
   have gz:Hd (x.g7 z j (ns',fP)=some (ns'++[nm.data.toList],fP++[d])):=by
    show _=_;rw[ko.Z,if_pos ⟨xe.Z,by omega,by simpa using fV⟩]
   have nV:=tE.Z.a.cell (i:=0) (v:=.int .u32 (d:Int)) rfl;have uq:=tE.Z.s.n1;have hown:=tE.Z.s.o;obtain⟨va,vc,rfl⟩:=au.form hown;obtain⟨i0,hi0,hz0,hz1,hz2⟩:=oO;have hown2:World.ownsRow (pL.alloc (.cells #[.int .i64 (d:Int)] 3)) (w.heap.size+1) 3 1 (.slice va fP.length vc) fP.length (Cs (iA fP) fP.length):=World.ownsRow.alloc hown _;have hnews:∀i u,([.int .i64 (d:Int)]:List Value)[i]? =some u->(pL.alloc (.cells #[.int .i64 (d:Int)] 3)).cell? ((⟨pL.heap.size,0,none⟩:Addr).add i)=some u:=λi u hu=>by
    cases i with
    |zero=>
     injection hu with hu
     subst hu;exact(At.new pL 3 #[.int .i64 (d:Int)]).cell (i:=0) rfl
    |succ i=>cases hu
   have h1c:∀u∈([.int .i64 (d:Int)]:List Value),u.oneCell'=true:=λu hu=>by simp at hu;subst hu;rfl
   have hil:fP.length<=600000:=by have:=xd.Z;omega
   have hbase:w.heap.size+1<=(pL.alloc (.cells #[.int .i64 (d:Int)] 3)).heap.size:=by simp;have:=tE.Z.s.m.lt;omega
   have wE:Below pL.heap.size pL (pL.alloc (.cells #[.int .i64 (d:Int)] 3)):=ag.alloc af _;have KU:=ah (tE.Z.below wE);have HN:=ah (bK Ct.Z gz.Z);clear tE hown wE qp zv ko;go_wp2_with (first|(refine er rfl 37 1 0 (.tmp 92) rfl (.int .i64 (d:Int)) rfl _ _ (lJ (d:Int) _) ?_)|(refine wpList_append_own _ rfl (.tmp 89) (.tmp 93) 37 rfl (w.heap.size+1) 3 i0 (.int .i64 0) 1 8 Tryz.underlying37 hi0 hz0 hz1 hz2 rfl (by decide) (.slice va fP.length vc) fP.length _ rfl hown2 ⟨pL.heap.size,0,none⟩ 1 1 [.int .i64 (d:Int)] rfl rfl hnews h1c (by unfold maxLen;omega) (by omega) hbase ?_))
   intro v' Qa rY DP _;have fK:=ah (KU.Z.s.app hpw r6 AN (d:=d) (by have:=xd.Z;omega) DP rY);have GN:=ah (dE KU.Z.g DP (dJ KU.Z.g hown2 (by decide)));obtain⟨ga,gc,rfl⟩:=rC rY;clear KU hown2 hnews h1c hbase rY DP uq nV;go_wp2_with fail;go_roundw
   case rel=>(try((repeat apply Exists.intro);refine⟨?_,rfl⟩));exact⟨j+1,_,_,by omega,by first|rfl|go_num,HN.Z,fK.Z,GN.Z⟩
   simp[intOf]<;>omega
  obtain rfl:j=8:=by omega
  have HN:Hd (a8 (x.jN t) (k+1) ([],[])=some (ns',fP)):=bK sM.Z (jQ.Z.trans Ct.Z);go_wp2_with fail;go_roundw
  case rel=>(try((repeat apply Exists.intro);refine⟨?_,rfl⟩));exact⟨k+1,ns',fP,by omega,by first|rfl|go_num,HN.Z,by rw[Nat.succ_mul];exact ST.Z⟩
  simp[intOf]<;>omega
 obtain rfl:k=N:=by omega
 go_wp2_with fail;go_ret;exact⟨ST.Z.bel,.inr ⟨(ns,is),_,by rw[Tg.Z];exact sM.Z,rfl,au.low ST.Z.o (by omega)⟩⟩
end
def sU(W:World)(base ug n:Nat)(u:Nat->List Nat):Prop:=
 ∃(a:Nat->Option Addr) (c:Nat->Nat),aE W ug 37 1 n (λt=>[.slice (a t) (u t).length (c t)])/\∀t,t<n->au W base 3 1 (.slice (a t) (u t).length (c t)) (u t).length (iA (u t))
theorem sU.below{W:World}{n:Nat}{u:Nat->List Nat}(h:sU W base ug n u)(hb:Below W.heap.size W W'):sU W' base ug n u:=by
 obtain⟨a,c,h1,h2⟩:=h;exact⟨a,c,h1.below hb,λt ht=>au.below (h2 t ht) hb⟩
theorem sU.lt{W:World}{n:Nat}{u:Nat->List Nat}(h:sU W base ug n u):ug<W.heap.size:=by obtain⟨a,c,h1,h2⟩:=h;exact h1.lt
theorem sF{W:World}{T e:TypeId}{m n:Nat}{f:Nat->List Value}(h:aE W g T m n f){size:Nat}{xs:List Value}(ho:W.ownsRow base e size v k xs)(hT:T≠e):v.ownBlock≠some g:=by
 obtain⟨cs,hc,_⟩:=h.blk;exact dJ (show At W g T cs from hc) ho (λe=>hT e.symm)
theorem sU.set{W:World}{n:Nat}{u:Nat->List Nat}(h:sU W base ug n u){t:Nat}(ht:t<n){l:List Nat}{va:Option Addr}{vc:Nat}(hv:au W base 3 1 (.slice va l.length vc) l.length (iA l)):sU (W.setCell ⟨ug,t,none⟩ (.slice va l.length vc)) base ug n (ak u t l):=by
 obtain⟨a,c,h1,h2⟩:=h;have ho:az ug W (W.setCell ⟨ug,t,none⟩ (.slice va l.length vc)):=az.setCell W ⟨ug,t,none⟩ _;refine⟨λi=>if i=t then va else a i,λi=>if i=t then vc else c i,?_,λi hi=> ?_⟩
 ·have:=h1.dO (k:=t) (j:=0) ht (by decide) (λ_=>rfl) (.slice va l.length vc)
  rw[Nat.mul_one,Nat.add_zero] at this;refine this.congr λi hi=> ?_
  unfold ak
  by_cases e:i=t
  ·simp only[e,if_true];rfl
  simp only[e,if_false]
 have key:∀{v k xs},W.ownsRow base 3 1 v k xs->(W.setCell ⟨ug,t,none⟩ (.slice va l.length vc)).ownsRow base 3 1 v k xs:=λ{v k xs} hx=>fm hx ho (sF h1 hx (by decide))
 unfold ak
 by_cases e:i=t
 ·simp only[e,if_true];exact key hv
 simp only[e,if_false];exact key (h2 i hi)
structure O4(w:World)(p b off:Nat)(x:Im)(cs:Array Value)(q ug:Nat)(u:Nat->List Nat)(W:World):Prop where
 s:jz w p b off x cs q W
 u:sU W w.heap.size ug (x.ni+1) u
theorem O4.below{b:Nat}{cs:Array Value}{u:Nat->List Nat}{W:World}(h:O4 w p b off x cs q ug u W)(hb:Below W.heap.size W W'):O4 w p b off x cs q ug u W':=⟨h.s.below hb,h.u.below hb⟩
def Hv(w:World)(p b off cap:Nat)(x:Im)(ds ay own sl:Value)(q:Nat)(e:Ending)(w':World):Prop:=
 w.grownBy w' (some p)/\((x.mR=none/\e= .panicked (sB 9))\/∃u g,x.mR=some u/\e= .returned (.tuple #[])/\w.heap.size<=g/\
  At w' p 105 (XC b off cap x ds (.slice (some ⟨q,0,none⟩) (x.ni+1) (x.ni+1)) ay own sl (.slice (some ⟨g,0,none⟩) (x.ni+1) (x.ni+1)))/\sU w' w.heap.size g (x.ni+1) u)
theorem Dw:(Tryz.prog.info? 37).map (λi=>(i.zero,i.size,i.bytes))=some (some (.slice none 0 0),1,24):=by kernel_rfl
theorem vt(n:Nat)(hn:n<=2048)(W:World):(Instr.makeSlice 103 (.int .i64 (n:Int)) (.int .i64 (n:Int))).run Tryz.prog W= .ok (.slice (some ⟨W.heap.size,0,none⟩) n n) (W.alloc (.cells (madeCells #[.slice none 0 0] (n*1)) 37)):=
 dx (P:=Tryz.prog) 103 37 (.slice none 0 0) 1 24 Tryz.underlying103 Dw .i64 .i64 n (by omega) (by omega) W
def V5(x:Im)(B ug k:Nat)(i:Nat)(v:Value)(W:World):Prop:=
 if i=7 then∃r a c,x.iu k=some r/\v= .slice a r.2.length c/\au W B 3 1 (.slice a r.2.length c) r.2.length (iA r.2)
 else if i=8 then v= .pointer (some ⟨ug,0+k*1,none⟩) else True
theorem V5.below{B:Nat}{W:World}(h:V5 x B ug k i v W)(hb:Below W.heap.size W W'):V5 x B ug k i v W':=by
 unfold V5 at h ⊢
 by_cases h7:i=7
 ·rw[if_pos h7] at h ⊢
  obtain⟨r,a,c,e1,e2,h⟩:=h;exact⟨r,a,c,e1,e2,au.below h hb⟩
 rw[if_neg h7] at h ⊢;exact h
structure S5(w:World)(p b off:Nat)(x:Im)(cs:Array Value)(q ug k:Nat)(u:Nat->List Nat)(l:Nat->Bool)(W:World):Prop where
 n:l 9=false->O4 w p b off x cs q ug u W
 y:l 9=true->∃r,x.iu k=some r/\O4 w p b off x cs q ug (ak u k r.2) W
 o:l 9=true->l 7=true
theorem S5.c{b:Nat}{cs:Array Value}{u:Nat->List Nat}{W:World}(h:S5 w p b off x cs q ug k u l W):jz w p b off x cs q W:=by
 cases e:l 9 with
 |false=>exact(h.n e).s
 |true=>obtain⟨r,_,h⟩:=h.y e;exact h.s
theorem S5.below{b:Nat}{cs:Array Value}{u:Nat->List Nat}{l':Nat->Bool}{W:World}(h:S5 w p b off x cs q ug k u l W)(hl:l' 9=l 9)(h7:l 7=true->l' 7=true)(hb:Below W.heap.size W W'):S5 w p b off x cs q ug k u l' W':=
 ⟨λe=>(h.n (hl▸e)).below hb,λe=>by obtain⟨r,e1,h⟩:=h.y (hl▸e);exact⟨r,e1,h.below hb⟩,λe=>h7 (h.o (hl▸e))⟩
theorem A7(p b off cap:Nat)(x:Im)(hx:x.Ok)(hM:∀t,1<=t->t<=x.ni->(x.ino t).kz)(hT:∀t,1<=t->t<=x.ni->(x.ino t).kind≠0->x.Tree t)(ds ay own sl:Value)(q:Nat)(w:World)(mZ:b≠p)(NF:q≠p)(h:jz w p b off x (XC b off cap x ds (.slice (some ⟨q,0,none⟩) (x.ni+1) (x.ni+1)) ay own sl (.slice none 0 0)) q w):
  Calls Tryz.prog 83 #[.pointer (some ⟨p,0,none⟩)] w λe w'=>Hv w p b off cap x ds ay own sl q e w':=by
 have HX:=ah hx;have hni:x.ni<=256:=eX hx.may;have c11:w.cell? ⟨p,11,none⟩=some (.slice (some ⟨q,0,none⟩) (x.ni+1) (x.ni+1)):=h.a.cell (i:=11) rfl;obtain⟨g,hg⟩:=aa w.heap.size;have hpw:=h.a.lt;have r6:=h.bl;have AN:=h.r.lt;have hmk:(Instr.makeSlice 103 (.int .i64 ((x.ni:Int)+1)) (.int .i64 ((x.ni:Int)+1))).run Tryz.prog w= .ok (.slice (some ⟨g,0,none⟩) (x.ni+1) (x.ni+1)) (w.alloc (.cells (madeCells #[.slice none 0 0] ((x.ni+1)*1)) 37)):=by
  rw[hg];exact vt (x.ni+1) (by omega) w
 obtain⟨W1,hW1⟩:=aa (w.alloc (.cells (madeCells #[.slice none 0 0] ((x.ni+1)*1)) 37));have hb1:Below w.heap.size w W1:=by rw[hW1];exact ag.alloc af _
 have hr1:sU W1 w.heap.size g (x.ni+1) (λ_=>[]):=by
  refine⟨λ_=>none,λ_=>0,?_,λt _=>au.nil _ _ _ _ _⟩;rw[hW1,hg];exact(aE.made (m:=1) w #[.slice none 0 0] rfl (by omega) (x.ni+1) _)
 have h1:=h.below hb1;have Po:g≠p:=by omega
 have hr2:sU (W1.setCell ⟨p,15,none⟩ (.slice (some ⟨g,0,none⟩) (x.ni+1) (x.ni+1))) w.heap.size g (x.ni+1) (λ_=>[]):=by
  obtain⟨a,c,k1,k2⟩:=hr1;exact⟨a,c,k1.only (az.setCell W1 ⟨p,15,none⟩ _) Po,λt ht=>fm (k2 t ht) (az.setCell W1 ⟨p,15,none⟩ _) (λe=>by have:=(World.ownsRow.lt (k2 t ht) p e).1;omega)⟩
 have bh:Hd (O4 w p b off x (XC b off cap x ds (.slice (some ⟨q,0,none⟩) (x.ni+1) (x.ni+1)) ay own sl (.slice (some ⟨g,0,none⟩) (x.ni+1) (x.ni+1))) q g (λ_=>[]) (W1.setCell ⟨p,15,none⟩ (.slice (some ⟨g,0,none⟩) (x.ni+1) (x.ni+1)))):=
  ⟨h1.I9 15 _ mZ NF,hr2⟩
 have c15:W1.cell? ⟨p,15,none⟩=some (.slice none 0 0):=h1.a.cell (i:=15) rfl;have f15:W1.frozen? ⟨p,15,none⟩=false:=an h1.a 15;have kv:w.heap.size<=g:=by omega
 rw[<-hW1] at hmk;have HDC:Hd (∀(t:Nat) (W:World),1<=t->t<=x.ni->(x.ino t).kind=2->jz w p b off x (XC b off cap x ds (.slice (some ⟨q,0,none⟩) (x.ni+1) (x.ni+1)) ay own sl (.slice (some ⟨g,0,none⟩) (x.ni+1) (x.ni+1))) q W->w.heap.size<=W.heap.size->
  Calls Tryz.prog 133 #[.pointer (some ⟨p,0,none⟩),.int .i64 (t:Int)] W λe w'=>Cw W x t e w'):=
  λt W ht1 ht2 hk hW hs=>D2 p b off cap x hx ds ay own sl _ q t ht1 ht2 (hM t ht1 ht2) (hT t ht1 ht2 (by rw[hk];decide)) W (by omega) (by omega) (by omega) hW.self
 obtain⟨cs,hcs⟩:=aa (XC b off cap x ds (.slice (some ⟨q,0,none⟩) (x.ni+1) (x.ni+1)) ay own sl (.slice (some ⟨g,0,none⟩) (x.ni+1) (x.ni+1)));have gA:Hd (∀W,At W p 105 cs->W.cell? ⟨p,11,none⟩=some (.slice (some ⟨q,0,none⟩) (x.ni+1) (x.ni+1))/\W.cell? ⟨p,15,none⟩=some (.slice (some ⟨g,0,none⟩) (x.ni+1) (x.ni+1))/\At W p 105 (XC b off cap x ds (.slice (some ⟨q,0,none⟩) (x.ni+1) (x.ni+1)) ay own sl (.slice (some ⟨g,0,none⟩) (x.ni+1) (x.ni+1)))):=λW h=>by
  rw[hcs] at h;exact⟨h.cell (i:=11) rfl,h.cell (i:=15) rfl,h⟩
 rw[<-hcs] at bh HDC;have sV:=ah kv;clear h h1 hb1 hr1 hr2 hW1 hx kv hcs hM hT hg;go_enter Tryz.func83,Tryz.ntmps83;go_wp2_with fail;clear c11 hmk c15 f15;go_loopw [2] (λv wr=>∃(k:Nat) (u:Nat->List Nat),k<=x.ni/\v= .int .i64 ((k:Int)+1)/\a8 (λt u=>if(x.ino (t+1)).kind=2 then(x.iu (t+1)).map (λr=>ak u (t+1) r.2) else some u) k (λ_=>[])=some u/\O4 w p b off x cs q g u wr) (λv _=>x.ni+1-(intOf v).toNat)
 case atStart=>exact⟨0,λ_=>[],Nat.zero_le _,rfl,rfl,bh.Z⟩
 clear bh;obtain⟨k,u,hk,rfl,hfo,st⟩:=hrel;have sM:=ah hfo;have ST:=ah st;clear hfo st;obtain⟨c11,_,_⟩:=gA.Z _ ST.Z.s.a
 by_cases hlt:k<x.ni
 ·have hlt':(k:Int)+1<(x.ni:Int)+1:=by omega
  have k0:(0:Int)<=(k:Int)+1:=by omega
  have cK:wr.cell? ⟨q,(k+1)*16,none⟩=some (.int .u8 (x.ino (k+1)).kind):=ST.Z.s.ino (t:=k+1) (by omega) 0 rfl;obtain⟨kd,fV⟩:=aa ((x.ino (k+1)).kind);have Cr:=ah fV;rw[<-fV] at cK;clear fV
  by_cases hk2:kd=2
  rotate_left
  ·have q0:(kd==2)=false:=by simp[hk2]
   have HN:Hd (a8 (λt u=>if(x.ino (t+1)).kind=2 then(x.iu (t+1)).map (λr=>ak u (t+1) r.2) else some u) (k+1) (λ_=>[])=some u):=bK sM.Z (by rw[if_neg (by rw[<-Cr.Z];exact hk2)]);clear hk2;go_wp2_with fail;go_roundw
   case rel=>(try((repeat apply Exists.intro);refine⟨?_,rfl⟩));exact⟨k+1,u,by omega,by first|rfl|go_num,HN.Z,ST.Z⟩
   simp[intOf]<;>omega
  have q0:(kd==2)=true:=by simp[hk2]
  have Yh:=ah hk2;have cY:Hd (x.iu (k+1)=none->x.mR=none):=λh=>dp sM.Z (by rw[if_pos (by rw[<-Cr.Z];exact hk2),h];rfl) hlt
  clear hk2;go_wp2_with fail;apply Vp.bG 7 (λl i v W=>V5 x w.heap.size g (k+1) i v W) (S5 w p b off x cs q g (k+1) u) (λW=>jz w p b off x cs q W)
  case hm=>kernel_rfl
  case hd=>kernel_rfl
  case hpre=>kernel_rfl
  case hB=>kernel_rfl
  case hVl=>exactλl l' he i v W h=>h
  case hS=>exactλl l' W he h=>h.below (he 9 (by decide) (by decide)).symm (λe=>by rw[<-he 7 (by decide) (by decide)];exact e) ag
  case hSC=>exactλl W h=>h.c
  case hVb=>exactλl i v W W' h hb=>h.below hb
  case hSb=>exactλl W W' h hb _=>h.below rfl (λe=>e) hb
  case h0=>exact⟨λ_=>ST.Z.below ⟨rfl,rfl,rfl,Nat.le_refl _,λ_ _=>rfl⟩,(λe=>by cases e),(λe=>by cases e)⟩
  case hwalk=>
   simp only[List.take];intro R hR hne;have d15:∀y:a9 (λW=>jz w p b off x cs q W/\R W),y.W.cell? ⟨p,15,none⟩=some (.slice (some ⟨g,0,none⟩) (x.ni+1) (x.ni+1)):=λy=>(gA.Z _ y.h.1.a).2.1
   repeat go_big_quiet_step (fail)
   exact wpQuiet_nil rfl
  case hst=>
   simp only[List.drop];refine⟨?_,?_,?_,trivial⟩
   ·intro l a W hl hu h
    have e1:a.tmps.getD 35 undef= .pointer (some ⟨p,0,none⟩):=(h.vals 5 35 (aq hu 5) rfl).pre (by decide) rfl;have e2:a.tmps.getD 36 undef= .int .i64 ((k:Int)+1):=(h.vals 6 36 (aq hu 6) rfl).pre (by decide) rfl;refine Vm.step h (by kernel_rfl) rfl rfl rfl hl (Vl.FJ 133 #[.pointer (some ⟨p,0,none⟩),.int .i64 ((k:Int)+1)] (Vl.nI 133 (.tmp 35) (.tmp 36) _ _ _ rfl e1 e2 (by kernel_rfl)) ?_);refine(HDC.Z (k+1) W (by omega) (by omega) (by rw[<-Cr.Z];exact Yh.Z) h.st.c (h.st.c.gr.size)).mono ?_;rintro e W' ⟨hb,hp⟩;rcases hp with⟨hn,rfl⟩|⟨r,v,hr,rfl,hv⟩
    ·refine .inr ⟨_,rfl,?_⟩
     exact⟨h.defers,dC h.st.c.gr (bB hb),.inl ⟨cY.Z hn,rfl⟩⟩
    have hsz:=h.st.c.gr.size;obtain⟨va,vc,rfl⟩:=au.form hv;exact .inl ⟨_,rfl,_,rfl,λi d _ _ hv=>hv.up λ_ hv=>hv.below hb,Vp.W.mk ⟨r,va,vc,hr,rfl,au.low hv hsz⟩,h.st.below rfl (λ_=>rfl) hb⟩
   ·intro l a W hl hu h
    have e1:a.tmps.getD 33 undef= .slice (some ⟨g,0,none⟩) (x.ni+1) (x.ni+1):=(h.vals 3 33 (aq hu 3) rfl).pre (by decide) rfl;have e2:a.tmps.getD 34 undef= .int .i64 (((k+1:Nat):Int)):=(h.vals 4 34 (aq hu 4) rfl).pre (by decide) rfl;exact Vm.aJ h (by kernel_rfl) rfl rfl rfl hl _ (Vl.gK 103 37 (.tmp 33) (.tmp 34) rfl Tryz.underlying103 1 vY g 0 (x.ni+1) (x.ni+1) (k+1) e1 e2 (by omega)) (λ_ _ hv=>hv.up λ_ hv=>hv.below ag) (Vp.W.mk rfl) (λs=>s.below rfl (λe=>e) ag)
   intro l a W hl hu h;obtain⟨r,va,vc,hr,RZ,hv⟩:=(h.vals 7 37 (aq hu 7) rfl).post;have e38:a.tmps.getD 38 undef= .pointer (some ⟨g,0+(k+1)*1,none⟩):=(h.vals 8 38 (aq hu 8) rfl).post;have hs:=h.st.n hl;obtain⟨ua,uc,hu1,hu2⟩:=hs.u;have hcell:W.cell? ⟨g,0+(k+1)*1,none⟩=some (.slice (ua (k+1)) (u (k+1)).length (uc (k+1))):=by
    rw[Nat.zero_add,Nat.mul_one];exact hu1.j8 (by omega) rfl
   have v8:sU (W.setCell ⟨g,k+1,none⟩ (.slice va r.2.length vc)) w.heap.size g (x.ni+1) (ak u (k+1) r.2):=sU.set hs.u (by omega) hv;have QS:sU (W.setCell ⟨g,0+(k+1)*1,none⟩ (.slice va r.2.length vc)) w.heap.size g (x.ni+1) (ak u (k+1) r.2):=by rw[Nat.zero_add,Nat.mul_one];exact v8
   have ho:az g W (W.setCell ⟨g,0+(k+1)*1,none⟩ (.slice va r.2.length vc)):=az.setCell W ⟨g,0+(k+1)*1,none⟩ _;have mO:=hs.s.only ho (λe=>Po e.symm) (by have:=sV.Z;omega) (by have:=sV.Z;omega) sV.Z;have hvk:au (W.setCell ⟨g,0+(k+1)*1,none⟩ (.slice va r.2.length vc)) w.heap.size 3 1 (.slice va r.2.length vc) r.2.length (iA r.2):=fm hv ho (sF hu1 hv (by decide));refine Vm.step h (by kernel_rfl) rfl rfl rfl hl (Vl.rG 37 (.tmp 38) (.tmp 37) rfl g (0+(k+1)*1) (.slice va r.2.length vc) _ e38 RZ hcell (hu1.soft _) vY rfl ?_);refine⟨_,rfl,λi d _ hd hv'=>hv'.up λhi hv'=> ?_,Vp.W.mk trivial,⟨(λe=>by have e:true=false:=e;cases e),λ_=>⟨r,hr,mO,QS⟩,λ_=>aq hu 7 (by kernel_rfl)⟩⟩
   by_cases h7:i=7
   ·subst h7
    have hd:some 37=some d:=hd;injection hd with hd
    subst hd;exact⟨r,va,vc,hr,RZ,hvk⟩
   unfold V5 at hv' ⊢;rw[if_neg h7] at hv' ⊢;exact hv'
  intro a' w8 h hall;have bX:=hall [37,38] (by kernel_rfl);clear hall;obtain⟨r7,va7,vc7,_,RZ,_⟩:=(h.vals 7 37 rfl rfl).post;have e38:a'.tmps.getD 38 undef= .pointer (some ⟨g,0+(k+1)*1,none⟩):=(h.vals 8 38 rfl rfl).post;obtain⟨r,hr,hds⟩:=h.st.y rfl;have HN:Hd (a8 (λt u=>if(x.ino (t+1)).kind=2 then(x.iu (t+1)).map (λr=>ak u (t+1) r.2) else some u) (k+1) (λ_=>[])=some (ak u (k+1) r.2)):=bK sM.Z (by rw[if_pos (by rw[<-Cr.Z];exact Yh.Z),hr];rfl);have tD:=ah hds;rw[List.foldl_cons,List.foldl_cons,List.foldl_nil,RZ,e38] at bX;simp only[Act.put,List.setIfInBounds_toArray,List.set_cons_succ,List.set_cons_zero] at bX;subst bX;clear h RZ e38 hr hds ST c11 cK;go_wp2_with fail;go_roundw
  case rel=>(try((repeat apply Exists.intro);refine⟨?_,rfl⟩));exact⟨k+1,_,by omega,by first|rfl|go_num,HN.Z,tD.Z⟩
  simp[intOf]<;>omega
 obtain rfl:k=x.ni:=by omega
 go_wp2_with fail;refine bodyPost_end (results_none rfl _ _ _) rfl ⟨ST.Z.s.gr,.inr ⟨u,g,sM.Z,rfl,sV.Z,(gA.Z _ ST.Z.s.a).2.2,ST.Z.u⟩⟩
namespace MS
theorem xG(x:Im):∀(f:Nat) (m:MS),(gl x f m).1=0\/(gl x f m).1<m.next+f
 |0,m=> .inl rfl
 |f+1,m=>by
  rw[gl];split
  ·right;show m.next<m.next+(f+1);omega
  rcases xG x f {m with next:=m.next+1} with h|h
  ·exact .inl h
  right
  have h:_<m.next+1+f:=h
  omega
theorem IY(x:Im)(m:MS):(m.take x).1<=x.n:=by
 rcases xG x (x.n-m.next) m with h|h
 ·show(gl x (x.n-m.next) m).1<=x.n;omega
 show(gl x (x.n-m.next) m).1<=x.n
 by_cases e:m.next<=x.n
 ·omega
 have:x.n-m.next=0:=by omega
 rw[this] at h ⊢;rw[gl];exact Nat.zero_le _
theorem BX(hn:x.n<=2048){y:aS}(hy:y.Ok)(i:Int)(m:MS):(fB x y i m).2.1.Ok/\(fB x y i m).2.1.kind=y.kind:=by
 unfold fB;split
 ·exact⟨hy,rfl⟩
 split
 ·refine⟨⟨hy.kind,hy.aQ,hy.gen,hy.size,λq=> ?_,hy.next⟩,rfl⟩
  dsimp only;split
  ·have:=IY x m;omega
  exact hy.p q
 exact⟨hy,rfl⟩
end MS
namespace PlanD
theorem qo{α:Type}(Q:α->Prop){f:Nat->α->α}:∀(n:Nat) (a:α),Q a->(∀k b,k<n->Q b->Q (f k b))->Q (pk f n a)
 |0,_,h,_=>h
 |n+1,a,h,hs=>hs n _ (by omega) (qo Q n a h λk b hk hb=>hs k b (by omega) hb)
theorem JI(P:PlanD)(hn:x.n<=2048){l:List sI}(hl:l.length<=4000)(i:Nat){h:HS}(hy:h.y.Ok):(P.F6 x l i h).y.Ok:=by
 unfold F6;split
 ·refine qo (λh:HS=>h.y.Ok) _ _ ?_ λk b hk hb=> ?_
  ·exact⟨hy.kind,hy.aQ,hy.gen,by dsimp only;omega,hy.p,hy.next⟩
  exact(MS.BX hn hb _ _).1
 split
 ·exact hy
 exact qo (λh:HS=>h.y.Ok) _ _ hy λk b hk hb=>(MS.BX hn hb _ _).1
theorem B2(P:PlanD)(hn:x.n<=2048){a:IS}{m:MS}(ha:∀t,(a.ino t).Ok)(hl:∀t,(a.sl t).length<=4000):∀k t,((P.fill x a m k).ino t).Ok
 |0,t=>ha t
 |k+1,t=>by
  have ih:=B2 P hn ha hl (m:=m) k;show((P.uA x a.sl k (P.fill x a m k)).ino t).Ok;unfold uA ak;dsimp only;split
  ·exact JI P hn (hl k) k (ih k)
  exact ih t
theorem rK(P:PlanD)(N i:Nat):∀(s:Nat) (a:IS) (t:Nat),((pk (P.iJ N i) s a).sl t).length<=(a.sl t).length+s/\∀e,e∈(pk (P.iJ N i) s a).sl t->e∈a.sl t\/e.1=i+1
 |0,a,t=>⟨Nat.le_refl _,λe h=> .inl h⟩
 |s+1,a,t=>by
  obtain⟨h1,h2⟩:=rK P N i s a t;show((P.iJ N i s (pk (P.iJ N i) s a)).sl t).length<=_/\∀e,e∈(P.iJ N i s (pk (P.iJ N i) s a)).sl t->_;generalize pk (P.iJ N i) s a=b at h1 h2 ⊢;unfold iJ;split
  ·unfold ak
   dsimp only;split
   ·rename_i e
    subst e;refine⟨by rw[List.length_append];show _+1<=_;omega,λe he=> ?_⟩;rcases List.mem_append.1 he with h|h
    ·exact h2 e h
    right;rw[List.mem_singleton.1 h]
   exact⟨by omega,h2⟩
  exact⟨by omega,h2⟩
theorem vX(P:PlanD)(N:Nat):∀(k t:Nat),((P.lg N k).sl t).length<=P.cn k/\∀e,e∈(P.lg N k).sl t->e.1<=k+1
 |0,t=>⟨Nat.le_refl _,λe h=>absurd h (List.not_mem_nil)⟩
 |k+1,t=>by
  obtain⟨h1,h2⟩:=vX P N k t;obtain⟨g1,g2⟩:=rK P N (k+1) (P.f k).nn {P.lg N k with ino:=ak (P.lg N k).ino (k+1) ⟨(P.f k).kind,(P.f k).aQ,((k+1:Nat):Int),(P.f k).size,λ_=>0,0⟩} t;refine⟨?_,λe he=> ?_⟩
  ·refine Nat.le_trans g1 ?_
   rw[cn];show((P.lg N k).sl t).length+_<=_;omega
  rcases g2 e he with h|h
  ·have:=h2 e h;omega
  omega
theorem IU(v:Int):-9223372036854775808<=IntKind.i64.wrap v/\IntKind.i64.wrap v<=9223372036854775807:=by
 have e:IntKind.i64.wrap v=if v%18446744073709551616>=9223372036854775808 then v%18446744073709551616-18446744073709551616 else v%18446744073709551616:=by
  simp[IntKind.wrap,IntKind.bits,IntKind.signed]
 rw[e];split<;>omega
theorem CD(v:Int):wrap64 v=IntKind.i64.wrap v:=by
 have e:IntKind.i64.wrap v=if v%18446744073709551616>=9223372036854775808 then v%18446744073709551616-18446744073709551616 else v%18446744073709551616:=by
  simp[IntKind.wrap,IntKind.bits,IntKind.signed]
 rw[e];unfold wrap64;split<;>omega
theorem Ju(P:PlanD)(N i:Nat)(s:Nat)(a:IS)(ha:∀t,(a.ino t).Ok/\∀q,(a.ino t).p q=0):∀t,((pk (P.iJ N i) s a).ino t).Ok/\∀q,((pk (P.iJ N i) s a).ino t).p q=0:=by
 refine qo (λa:IS=>∀t,(a.ino t).Ok/\∀q,(a.ino t).p q=0) s a ha λk b hk hb t=> ?_
 unfold iJ;split
 ·unfold ak
  dsimp only;split
  ·exact⟨⟨(hb i).1.kind,IU _,(hb i).1.gen,(hb i).1.size,(hb i).1.p,(hb i).1.next⟩,(hb i).2⟩
  exact hb t
 exact hb t
theorem Az(P:PlanD)(hB:P.Bd)(N:Nat):∀k,k<=4096->∀t,((P.lg N k).ino t).Ok/\∀q,((P.lg N k).ino t).p q=0
 |0,_,t=>by
  show(Tv.ino t).Ok/\∀q,(Tv.ino t).p q=0;unfold Tv ak;dsimp only;split
  ·exact⟨⟨by decide,by decide,by decide,by decide,λi=>⟨Int.le_refl 0,(by decide:(0:Int)<4294967296)⟩,by decide⟩,λq=>rfl⟩
  exact⟨⟨by decide,by decide,by decide,by decide,λi=>⟨Int.le_refl 0,(by decide:(0:Int)<4294967296)⟩,by decide⟩,λq=>rfl⟩
 |k+1,hk,t=>by
  have ih:=Az P hB N k (by omega);refine Ju P N (k+1) (P.f k).nn {P.lg N k with ino:=ak (P.lg N k).ino (k+1) ⟨(P.f k).kind,(P.f k).aQ,((k+1:Nat):Int),(P.f k).size,λ_=>0,0⟩} (λt=> ?_) t;unfold ak;dsimp only;split
  ·exact⟨⟨hB.kind k,hB.aQ k,by dsimp only;omega,hB.size k,λi=>⟨Int.le_refl 0,(by decide:(0:Int)<4294967296)⟩,⟨Int.le_refl 0,(by decide:(0:Int)<4294967296)⟩⟩,λ_=>rfl⟩
  exact ih t
theorem Ca(P:PlanD){n:Nat}(h:k<n):P.cn (k+1)<=P.cn n:=by
 induction n with
 |zero=>omega
 |succ n ih=>
  by_cases e:k=n
  ·subst e;exact Nat.le_refl _
  have:=ih (by omega);rw[cn.eq_2 P n];omega
def Lp(P:PlanD)(N k t:Nat):IS:=pk (P.iJ N (k+1)) t {P.lg N k with ino:=ak (P.lg N k).ino (k+1) ⟨(P.f k).kind,(P.f k).aQ,((k+1:Nat):Int),(P.f k).size,λ_=>0,0⟩}
theorem FE(P:PlanD)(N k t r:Nat)(hS:P.cn (k+1)<=1000)(ht:t<=(P.f k).nn):((P.Lp N k t).sl r).length<=1000:=by
 refine Nat.le_trans (rK P N (k+1) t _ r).1 (Nat.le_trans (Nat.add_le_add (vX P N k r).1 ht) ?_);rw[cn] at hS;omega
theorem JK(P:PlanD)(x:Im):P.QI x=P.pQ x (P.fill x ⟨(P.lg (P.n x) (P.n x)).ino,(P.lg (P.n x) (P.n x)).sl⟩ ⟨iL x.g x.s x.i x.j,0⟩ (P.n x+1)).m.L (P.fill x ⟨(P.lg (P.n x) (P.n x)).ino,(P.lg (P.n x) (P.n x)).sl⟩ ⟨iL x.g x.s x.i x.j,0⟩ (P.n x+1)).ino (P.n x):=rfl
end PlanD
def vQ(a:Option Addr):Option Nat:=(Value.slice a 0 0).ownBlock
theorem mI(a:Option Addr)(n c:Nat):(Value.slice a n c).ownBlock=vQ a:=by cases a<;>rfl
theorem q9{P:Program}(w:World)(base:Nat)(t ty e:TypeId)(i:TypeInfo)(z:Value)(size bytes:Nat)(ht:P.underlying t=some (.slice e))(hi:P.info? e=some i)(hz:i.zero=some z)
  (hsize:i.size=size) (hby:i.bytes=bytes) (hzs:z.cells.size=size) (hsz:0<size) (v:Value) (n:Nat) (xs:List Value) (hown:w.ownsRow base e size v n xs)
  (a:Addr) (m c:Nat) (news:List Value) (hl:news.length=m*size) (hnews:∀j u,news[j]? =some u->w.cell? (a.add j)=some u) (h1:∀u∈news,u.oneCell'=true)
  (h63:n+m<=maxLen) (hbytes:(n+m)*bytes<=140737488355328) (hbase:base<=w.heap.size) (hm:0<m):
  ∃v' w',(Builtin.append_ #[t,t] ty #[v,.slice (some a) m c]).run P w= .ok v' w'/\w'.ownsRow base e size v' (n+m) (xs++news)/\w.grownBy w' v.ownBlock/\(v'.ownBlock=v.ownBlock\/v'.ownBlock=some w.heap.size):=by
 obtain⟨v',w',hr,h2,h3,_⟩:=run_append_own (P:=P) w base t ty e i z size bytes ht hi hz hsize hby hzs hsz v n xs hown a m c news hl hnews h1 h63 hbytes hbase;refine⟨v',w',hr,h2,h3,?_⟩;subst hsize hby;have h63':n+m<=9223372036854775807:=by simp only[maxLen] at h63;omega
 rcases hown.2 with⟨rfl,rfl⟩|⟨g,cap,cur,rfl,hbg,hg,hnc,hcm,hcs,htake⟩
 ·have hr2:=run_append_nil (P:=P) w t ty e i z ht hi hz a m c news hl hnews (by omega) (by omega) (by have hb:=hbytes;simp only[Nat.zero_add] at hb;omega)
  rw[hr] at hr2;injection hr2 with e1 e2
  right;rw[e1];rfl
 by_cases hroom:n+m<=cap
 ·have hfit:n*i.size+news.length<=cur.size:=by rw[hl,hcs,<-Nat.add_mul];exact Nat.mul_le_mul_right _ hroom
  have hr2:=run_append_room (P:=P) w t ty e i ht hi g n cap cur hg a m c news hl hnews h1 hroom hfit;rw[hr] at hr2;injection hr2 with e1 e2
  left;rw[e1];rfl
 have holds:∀j u,xs[j]? =some u->w.cell? ((⟨g,0,none⟩:Addr).add j)=some u:=hown.cells (g:=g) rfl;have hr2:=run_append_grow (P:=P) w t ty e i z ht hi hz ⟨g,0,none⟩ n cap xs hown.1 holds a m c news hl hnews (by omega) (by omega) (growslice_fits (by omega) hbytes);rw[hr] at hr2;injection hr2 with e1 e2
 right;rw[e1];rfl
structure Bf(W:World)(base sb n:Nat)(sl:Nat->List sI)(a:Nat->Option Addr)(c:Nat->Nat):Prop where
 u:aE W sb 88 1 n (λt=>[.slice (a t) (sl t).length (c t)])
 r:∀t,t<n->au W base 90 2 (.slice (a t) (sl t).length (c t)) (sl t).length (kC (sl t))
 ne:∀s t,s<n->t<n->s≠t->vQ (a s)=none\/vQ (a s)≠vQ (a t)
theorem Bf.below{W:World}{sb n:Nat}{sl:Nat->List sI}{a:Nat->Option Addr}{c:Nat->Nat}(h:Bf W base sb n sl a c)(hb:Below W.heap.size W W'):Bf W' base sb n sl a c:=
 ⟨h.u.below hb,λt ht=>(h.r t ht).below hb,h.ne⟩
structure m5(M q Y N p:Nat)(x:Im)(m:MS)(ys:Nat->aS)(d:dL)(P:PlanD)(w W:World):Prop where
 pm:jy M q x m W
 y:aE W Y 63 16 N (vZ ys)
 bx:At W p 27 (dK x.g x.s x.i x.j d P)
 r:iX w.heap.size d P W
 bel:Below w.heap.size w W
 le:w.heap.size<=M/\w.heap.size<=q/\w.heap.size<=Y/\w.heap.size<=p
section
variable {M q Y N p:Nat} {x:Im} {m:MS} {ys:Nat->aS} {d:dL} {P:PlanD} {w W W':World}
theorem m5.grown(h:m5 M q Y N p x m ys d P w W){row:Option Nat}(hg:W.grownBy W' row)(hr:∀r,row=some r->w.heap.size<=r/\r≠M/\r≠q/\r≠Y/\r≠p):m5 M q Y N p x m ys d P w W':=by
 obtain⟨f,hf⟩:=h.pm.k;have hb:Below w.heap.size W W':=ag.grown hg h.bel.size (λr e=>(hr r e).1);exact⟨⟨⟨f,dE hf hg λe=>(hr _ e).2.1 rfl⟩,h.pm.im.grown hg λe=>(hr _ e.symm).2.2.1 rfl⟩,h.y.grown hg λe=>(hr _ e.symm).2.2.2.1 rfl,dE h.bx hg λe=>(hr _ e).2.2.2.2 rfl,h.r.below hb,h.bel.trans hb,h.le⟩
theorem m5.below(h:m5 M q Y N p x m ys d P w W)(hb:Below W.heap.size W W'):m5 M q Y N p x m ys d P w W':=
 h.grown (row:=none) (bB hb) (λr e=>by cases e)
theorem m5.only(h:m5 M q Y N p x m ys d P w W)(hg:az g W W')(hr:w.heap.size<=g/\g≠M/\g≠q/\g≠Y/\g≠p):m5 M q Y N p x m ys d P w W':=
 h.grown (row:=some g) (fD hg) (λr e=>by injection e with e;exact e▸hr)
theorem m5.YN(h:m5 M q Y N p x m ys d P w W):M≠Y/\q≠Y/\p≠Y:=by
 obtain⟨f,hf⟩:=h.pm.k;obtain⟨c1,h1,_⟩:=h.pm.im.blk;obtain⟨cs,hc,_⟩:=h.y.blk;exact⟨At.dk hf hc (by decide),At.dk h1 hc (by decide),At.dk h.bx hc (by decide)⟩
theorem m5.Ji(h:m5 M q Y N p x m ys d P w W)(hi:i<N)(y:aS)(hW:W'=W.setCells Y (i*16) y.arr.toList):m5 M q Y N p x m (ak ys i y) d P w W'/\az Y W W':=by
 subst hW;obtain⟨h1,h2⟩:=h.y.set hi (vs:=y.arr.toList) rfl (λ_=>rfl);obtain⟨n1,n2,n3⟩:=h.YN;obtain⟨f,hf⟩:=h.pm.k;have hb:Below w.heap.size W (W.setCells Y (i*16) y.arr.toList):=h2.below h.le.2.2.1;refine⟨⟨⟨⟨f,hf.only h2 n1⟩,h.pm.im.only h2 n2⟩,h1.congr λj _=> ?_,h.bx.only h2 n3,h.r.below hb,h.bel.trans hb,h.le⟩,h2⟩;unfold vZ ak;split<;>rfl
theorem m5.M5(h:m5 M q Y N p x m ys d P w W)(hi:i<N)(v:Int):m5 M q Y N p x m (ak ys i {ys i with aQ:=v}) d P w (W.setCell ⟨Y,i*16+1,none⟩ (.int .i64 v))/\az Y W (W.setCell ⟨Y,i*16+1,none⟩ (.int .i64 v)):=by
 have ho:az Y W (W.setCell ⟨Y,i*16+1,none⟩ (.int .i64 v)):=az.setCell W ⟨Y,i*16+1,none⟩ (.int .i64 v);obtain⟨n1,n2,n3⟩:=h.YN;obtain⟨f,hf⟩:=h.pm.k;have hb:Below w.heap.size W (W.setCell ⟨Y,i*16+1,none⟩ (.int .i64 v)):=ho.below h.le.2.2.1;refine⟨⟨⟨⟨f,hf.only ho n1⟩,h.pm.im.only ho n2⟩,?_,h.bx.only ho n3,h.r.below hb,h.bel.trans hb,h.le⟩,ho⟩;have:=h.y.dO (k:=i) (j:=1) hi (by omega) (λj=>nT ys j) (.int .i64 v);refine this.congr λj hj=> ?_
 unfold vZ ak
 by_cases e:j=i
 ·subst e;rw[if_pos rfl,if_pos rfl];rfl
 rw[if_neg e,if_neg e]
theorem m5.aQ(h:m5 M q Y N p x m ys d P w W)(hi:i<N):W.cell? ⟨Y,i*16+1,none⟩=some (.int .i64 (ys i).aQ):=by
 have:=h.y.bQ i hi 1 _ rfl;rwa[Nat.zero_add] at this
end
end Go.Proofs.YtphamecphmbipaaGreatDoor
