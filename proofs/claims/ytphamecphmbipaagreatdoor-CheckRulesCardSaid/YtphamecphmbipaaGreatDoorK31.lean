/- Texts of this claim, merged. -/
import Derived.Test.YtphamecphmbipaaGreatDoorK24
import Derived.Test.YtphamecphmbipaaGreatDoorK30
import Derived.Test.YtphamecphmbipaaGreatDoorK25
import Derived.Maps.Own
import Derived.Maps.OwnOps
import Derived.Maps.Views
set_option linter.unusedVariables false
set_option maxRecDepth 100000
set_option maxHeartbeats 16000000

namespace Go.Proofs.YtphamecphmbipaaGreatDoor
open Go.RowKit
open Lib (hid)
variable {z:Nat->Int} {w W':World} {p b off q d g base ug k i:Nat} {x:Im} {cs:Array Value} {v:Value} {l:Nat->Bool}
section
open Go.WideMaps Go.Maps
def I2(l:List (List UInt8)):DataW Unit:=setOf (.lit (.int .i64 1)) (l.map Lit.string)
theorem I1:I2 []= .map []:=rfl
theorem Ft(l:List (List UInt8))(s:List UInt8):I2 (l++[s])=(I2 l).put (.string s) (.lit (.int .i64 1)):=by
 unfold I2;rw[List.map_append,List.map_singleton,setOf_snoc]
theorem se(u z:DataW Unit)(k:Lit):∀(l:List Lit) (m:DataW Unit),IsMap m->(∀x∈l,WideAt.IsKeyLit x)->(k∈l->(l.foldl (λm x=>m.put x u) m).atKey k z=u)/\(k∉l->(l.foldl (λm x=>m.put x u) m).atKey k z=m.atKey k z)
 |[],m,_,_=>⟨(λh=>by cases h),λ_=>rfl⟩
 |x::l,m,hm,hl=>by
  have ih:=se u z k l (m.put x u) (hm.put x u) λy hy=>hl y (List.mem_cons_of_mem _ hy)
  rw[List.foldl_cons];refine⟨λh=> ?_,λh=> ?_⟩
  ·by_cases hk:k∈l
   ·exact ih.1 hk
   ·rcases List.mem_cons.1 h with rfl|h
    ·rw[ih.2 hk];exact atKey_put_same hm (hl k (List.mem_cons_self ..)) _ _
    ·exact absurd h hk
  ·rw[ih.2 λh2=>h (List.mem_cons_of_mem _ h2)]
   exact atKey_put_other (λe=>h (by rw[e];exact List.mem_cons_self ..)) _ _
theorem tO(l:List (List UInt8)):IsMap (I2 l):=(tidy_setOf _ _ λx hx=>by
 obtain⟨s,_,rfl⟩:=List.mem_map.1 hx;trivial).isMap
theorem Fu(l:List (List UInt8))(s:List UInt8):(s∈l->(I2 l).atKey (.string s) (.lit (.int .i64 0))= .lit (.int .i64 1))/\(s∉l->(I2 l).atKey (.string s) (.lit (.int .i64 0))= .lit (.int .i64 0)):=by
 obtain⟨h1,h2⟩:=se (.lit (.int .i64 1)) (.lit (.int .i64 0)) (.string s) (l.map Lit.string) (.map []) isMap_empty (λx hx=>by
  obtain⟨s,_,rfl⟩:=List.mem_map.1 hx;trivial)
 have hmem:Lit.string s∈l.map Lit.string↔s∈l:=by
  rw[List.mem_map];constructor
  ·rintro⟨y,hy,e⟩;injection e with e;exact e▸hy
  ·intro h;exact⟨s,h,rfl⟩
 exact⟨λh=>h1 (hmem.2 h),λh=>(h2 (λh3=>h (hmem.1 h3))).trans rfl⟩
theorem nD:Keyed Tryz.prog 9:=string_keyed Tryz.underlying9
theorem ql(w:World):(zeroValue 3).run Tryz.prog w= .ok (.int .i64 0) w:=by kernel_rfl
theorem J1(hz:bm z)(k:Nat):(dM z k).size<=255:=by
 unfold dM CC;split
 ·unfold sA strOfNums
  have:=hz (32*k+4);unfold dk sl;simp[ByteArray.size];omega
 ·exact Nat.zero_le _
theorem Gy(hz:bm z)(k:Nat):0<=dI z k/\dI z k<4294967296:=by
 unfold dI CD;split
 ·unfold bL;exact dA (λj=>hz _) 0
 ·decide
theorem ji.self{W:World}(h:ji w p b off x cs q W):ji W p b off x cs q W:=⟨h.a,h.i,h.r,h.bl,⟨rfl,rfl,rfl,Nat.le_refl _,λ_ _ _=>rfl⟩⟩
theorem ji.new{W:World}(h:ji w p b off x cs q W)(hp:p<w.heap.size)(hb:b<w.heap.size)(hq:q<w.heap.size){row:Option Nat}(hg:W.grownBy W' row)(hr:∀r,row=some r->w.heap.size<=r):ji w p b off x cs q W':=
 ⟨dq h.a hg (λe=>by have:=hr p e;omega),aF.fF h.i hg h.bl (λe=>by have:=hr b e.symm;omega),h.r.grown hg (λe=>by have:=hr q e.symm;omega),Nat.lt_of_lt_of_le h.bl hg.size,
  ⟨hg.os.trans h.gr.os,hg.tape.trans h.gr.tape,hg.output.trans h.gr.output,Nat.le_trans h.gr.size hg.size,λj hj hne=>(hg.block j (Nat.lt_of_lt_of_le hj h.gr.size) (λe=>by have:=hr j e.symm;omega)).trans (h.gr.block j hj hne)⟩⟩
structure zz(w:World)(p b off:Nat)(x:Im)(cs:Array Value)(q:Nat)(ns:List (List UInt8))(is:List Nat)(n:Nat)(v:Value)(W:World):Prop where
 s:ji w p b off x cs q W
 m:W.ownsMap Tryz.prog 9 (plainElem (H:=Unit) Tryz.prog 3) w.heap.size n (I2 ns)
 o:ah W (w.heap.size+1) 3 1 v is.length (gZ is)
 bel:Below w.heap.size w W
 n1:is.length<=n
section
variable {w:World} {p b off:Nat} {x:Im} {cs:Array Value} {q:Nat} {ns:List (List UInt8)} {is:List Nat} {n:Nat} {v:Value} {W W':World}
theorem zz.below(h:zz w p b off x cs q ns is n v W)(hb:Below W.heap.size W W'):zz w p b off x cs q ns is n v W':=
 ⟨h.s.below hb,h.m.kept (bq (row:=none) hb) (by simp),ah.below h.o hb,h.bel.trans (hb.mono h.bel.size),h.n1⟩
theorem zz.more(h:zz w p b off x cs q ns is n v W){n':Nat}(hn:n<=n'):zz w p b off x cs q ns is n' v W:=⟨h.s,h.m.mono hn,h.o,h.bel,Nat.le_trans h.n1 hn⟩
theorem zz.name(h:zz w p b off x cs q ns is n v W)(hp:p<w.heap.size)(hb:b<w.heap.size)(hq:q<w.heap.size){s:List UInt8}(hg:W.grownBy W' (some w.heap.size))(hm:W'.ownsMap Tryz.prog 9 (plainElem (H:=Unit) Tryz.prog 3) w.heap.size (n+1) (I2 (ns++[s]))):zz w p b off x cs q (ns++[s]) is (n+1) v W':=
 ⟨h.s.new hp hb hq hg (λr e=>by injection e with e;omega),hm,World.ownsRow.kept h.o hg (by
  cases h1:v.ownBlock with
  |none=>exact .inl rfl
  |some g=>exact .inr (λe=>by injection e with e;have:=(World.ownsRow.lt h.o g h1).1;omega)),h.bel.grown hg h.bel.size (λr e=>by injection e with e;omega),Nat.le_succ_of_le h.n1⟩
theorem zz.app(h:zz w p b off x cs q ns is n v W)(hp:p<w.heap.size)(hb:b<w.heap.size)(hq:q<w.heap.size){v':Value}(hd:is.length+1<=n)(hg:W.grownBy W' v.ownBlock)(ho:W'.ownsRow (w.heap.size+1) 3 1 v' (is.length+1) (Cs (gZ is) is.length++[.int .i64 (d:Int)])):zz w p b off x cs q ns (is++[d]) n v' W':=by
 have lG:∀r,v.ownBlock=some r->w.heap.size+1<=r:=λr e=>(World.ownsRow.lt h.o r e).1
 refine⟨h.s.new hp hb hq hg (λr e=>by have:=lG r e;omega),h.m.kept hg (λe=>by have:=lG _ e.symm;omega),?_,h.bel.grown hg h.bel.size (λr e=>by have:=lG r e;omega),by rw[List.length_append];exact hd⟩;rw[List.length_append];show ah W' (w.heap.size+1) 3 1 v' (is.length+1) (gZ (is++[d]));refine ah.append (f:=gZ (is++[d])) (news:=[.int .i64 (d:Int)]) ?_ ?_
 ·rw[<-gC λk hk=>pW is d k hk];exact ho
 ·show _=Cs _ 1
  rw[lN];show _=[]++gZ (is++[d]) (is.length+0);rw[Nat.add_zero,pU];rfl
end
structure G7(w:World)(p b off:Nat)(x:Im)(cs:Array Value)(q:Nat)(ns:List (List UInt8))(is:List Nat)(n:Nat)(v:Value)(g:Nat)(sc:Array Value)(G d:Nat)(nm:ByteArray)(W:World):Prop where
 s:zz w p b off x cs q ns is n v W
 a:At W G 90 #[.int .u32 (d:Int),.string nm]
 g:At W g 172 sc
theorem G7.below{ns:List (List UInt8)}{is:List Nat}{n:Nat}{sc:Array Value}{G:Nat}{nm:ByteArray}{W:World}(h:G7 w p b off x cs q ns is n v g sc G d nm W)(hb:Below W.heap.size W W'):G7 w p b off x cs q ns is n v g sc G d nm W':=
 ⟨h.s.below hb,h.a.below hb h.a.lt,h.g.below hb h.g.lt⟩
def Cg(w:World)(x:Im)(t:Nat)(e:Ending)(w':World):Prop:=
 Below w.heap.size w w'/\((x.gV t=none/\e= .panicked (r8 9))\/∃r v,x.gV t=some r/\e= .returned v/\ah w' w.heap.size 3 1 v r.2.length (gZ r.2))
theorem DN(p b off cap:Nat)(x:Im)(hx:x.Ok)(ds ak own sl un:Value)(q:Nat)(t:Nat)(ht1:1<=t)(ht:t<=x.ni)(hM:(x.ino t).ki)(hT:x.Tree t)(w:World)(hpw:p<w.heap.size)(rL:b<w.heap.size)(Av:q<w.heap.size)(h:ji w p b off x (XC b off cap x ds (.slice (some ⟨q,0,none⟩) (x.ni+1) (x.ni+1)) ak own sl un) q w):
  Calls Tryz.prog 133 #[.pointer (some ⟨p,0,none⟩),.int .i64 (t:Int)] w λe w'=>Cg w x t e w':=by
 have HX:=hid hx;have fY:=hx.iu;have hni:x.ni<=256:=eK hx.may;have hsz:=(aK.mA hM).1;obtain⟨N,hN⟩:∃N,N=(x.ino t).size.toNat/256:=⟨_,rfl⟩;have hq:(x.ino t).size.tdiv 256=(N:Int):=by rw[Int.tdiv_eq_ediv_of_nonneg (by omega)];omega
 have O1:N<=65536:=by omega
 have SD:Hid (x.gV t=aS (x.jy t) N ([],[])):=by show _=_;unfold Im.gV;rw[hN]
 have ht':(t:Int)<(x.ni:Int)+1:=by omega
 have cS:w.cell? ⟨q,t*16+3,none⟩=some (.int .i64 (x.ino t).size):=h.ino (t:=t) (by omega) 3 rfl;have Lu:Hid (∀(i:Nat) (W:World),i<65536->ji w p b off x (XC b off cap x ds (.slice (some ⟨q,0,none⟩) (x.ni+1) (x.ni+1)) ak own sl un) q W->Calls Tryz.prog 158 #[.pointer (some ⟨p,0,none⟩),.int .i64 (t:Int),.int .i64 (i:Int)] W λe w'=>e= .returned (.int .i64 ((x.blk t i:Nat):Int))/\Below W.heap.size W w'):=
  λi W hi hW=>AP p b off cap x hx ds ak own sl un q t i ht1 ht hi hT W hW.self
 have mT:Hid (∀i:Nat,i<65536->x.blk t i≠0->x.blk t i<x.n):=λi hi h0=>Im.GG hT hi h0
 obtain⟨cs,hcs⟩:∃cs,cs=XC b off cap x ds (.slice (some ⟨q,0,none⟩) (x.ni+1) (x.ni+1)) ak own sl un:=⟨_,rfl⟩;have gj:Hid (∀W,At W p 105 cs->W.cell? ⟨p,0,none⟩=some (.slice (some ⟨b,off,none⟩) x.n cap)/\W.cell? ⟨p,11,none⟩=some (.slice (some ⟨q,0,none⟩) (x.ni+1) (x.ni+1))):=λW h=>by
  rw[hcs] at h;exact⟨h.cell (i:=0) rfl,h.cell (i:=11) rfl⟩
 rw[<-hcs] at h Lu;have hb0:Below w.heap.size w (w.alloc (.map #[] 0)):=(Below.refl _ _).alloc (Nat.le_refl _) _;have cX:Hid (zz w p b off x cs q [] [] 0 (.slice none 0 0) (w.alloc (.map #[] 0))):=⟨h.below hb0,by rw[I1];exact World.ownsMap_made _ _ _ _,ah.nil _ _ _ _ _,hb0,Nat.le_refl _⟩;have hmm:=@run_makeMap Tryz.prog;have c11:=(gj.out _ cX.out.s.a).2;have cS1:(w.alloc (.map #[] 0)).cell? ⟨q,t*16+3,none⟩=some (.int .i64 (x.ino t).size):=cX.out.s.ino (t:=t) (by omega) 3 rfl;clear h hcs hx hT hM hN hb0 cS;go_enter Tryz.func133,Tryz.ntmps133;go_wp2_with fail;clear c11 cS1 hq hsz;go_loopw [5,23] (λv u wr=>∃(k:Nat) (ns:List (List UInt8)) (is:List Nat),k<=N/\u= .int .i64 (k:Int)/\aS (x.jy t) k ([],[])=some (ns,is)/\zz w p b off x cs q ns is (k*8) v wr) (λ_ u _=>N-(intOf u).toNat)
 case atStart=>exact⟨0,[],[],Nat.zero_le _,rfl,rfl,cX.out⟩
 case round=>
  clear cX;obtain⟨k,ns,is,hk,rfl,hfo,st⟩:=hrel;have ss:=hid hfo;have ST:=hid st;clear hfo st
  by_cases hlt:k<N
  ·have hlt':(k:Int)<(N:Int):=by omega
   have ct:Hid (x.jy t k (ns,is)=none->x.gV t=none):=λh=>by rw[SD.out];exact cV ss.out h hlt
   go_wp2_with fail;refine(Lu.out k _ (by omega) ST.out.s).mono ?_;rintro e w1 ⟨rfl,hb1⟩;have aV:=hid (ST.out.below hb1);have T1:Hid (x.jy t k (ns,is)=if x.blk t k≠0/\iI (x.L (x.blk t k))=true then aS (x.gO (x.L (x.blk t k))) 8 (ns,is) else none):=rfl;have kU:=mT.out k (by omega);obtain⟨B,hB⟩:∃B,B=x.blk t k:=⟨_,rfl⟩;rw[<-hB] at kU T1 ⊢;clear ST hb1 hB;obtain⟨c1,hc1⟩:∃c,c=((B:Int) !=0):=⟨_,rfl⟩;have iX:=hid hc1;clear hc1;go_wp2_with fail;refine(bw 9 ((B:Int) !=0) _).mono ?_;rintro e w2 ⟨hS,rfl⟩;rcases hS with⟨hB0,rfl⟩|⟨hB0,rfl⟩
   rotate_left
   ·refine⟨rfl,aV.out.bel,.inl ⟨ct.out (by rw[T1.out,if_neg (λh=>by simp at hB0;omega)]),rfl⟩⟩
   have vY:B≠0:=by intro e;rw[e] at hB0;cases hB0
   have WG:=kU vY;have Rf:(B:Int)<(x.n:Int):=by omega
   have b0:(0:Int)<=(B:Int):=by omega
   have c0:=(gj.out _ aV.out.s.a).1;have hrg:=aF.range aV.out.s.i B WG;have jE:=hid vY;clear hB0 kU vY;go_wp2_with (first|(refine aB rfl 32 (.tmp 39) rfl b (off+B*256) (dW x.L B) _ rfl hrg Tryz.underlying32 rfl (by rw[aZ];exact au) ?_))
   refine(FF (x.L B) (HX.out.jg B) _).mono ?_;rintro e w3 ⟨hb3,hl⟩;have eP:=hid (aV.out.below hb3);have HML:=hid aV.out.m.lt;clear aV c0 hrg hb3;rcases hl with⟨hd,rfl⟩|⟨hd,g,hg3,rfl,hA⟩
   ·have HD:=hid hd
    clear hd;go_wp2_with fail;refine(gU 9 _).mono ?_;rintro e w4 ⟨rfl,rfl⟩;exact⟨rfl,eP.out.bel,.inl ⟨ct.out (by rw[T1.out,if_neg (λh=>by rw[HD.out] at h;cases h.2)]),rfl⟩⟩
   have HD:=hid hd;have j7:Hid (x.jy t k (ns,is)=aS (x.gO (x.L B)) 8 (ns,is)):=by show _=_;rw[T1.out,if_pos ⟨jE.out,HD.out⟩]
   have hgB:w.heap.size<g:=Nat.lt_of_lt_of_le HML.out hg3;have HA:Hid (At w3 g 172 (Sc (dI (x.L B)) (dM (x.L B)) 8).toArray):=hA;have HZ:=hid (HX.out.jg B);obtain⟨z,hz⟩:∃z,z=x.L B:=⟨_,rfl⟩;rw[<-hz] at HA j7 HZ;clear hd hA hz hg3;go_wp2_with fail;refine(gy 9 _).mono ?_;rintro e w4 ⟨rfl,rfl⟩;go_wp2_with fail;clear b0 Rf;have hal:=lu;go_loopw [5,49] (λv u wr=>∃(j:Nat) (ns':List (List UInt8)) (fx:List Nat),j<=8/\u= .int .i64 (j:Int)/\aS (x.gO z) j (ns,is)=some (ns',fx)/\zz w p b off x cs q ns' fx (k*8+j) v wr/\At wr g 172 (Sc (dI z) (dM z) 8).toArray) (λ_ u _=>8-(intOf u).toNat)
   case atStart=>exact⟨0,ns,is,Nat.zero_le _,rfl,rfl,eP.out,HA.out⟩
   case round=>
    clear eP HA;obtain⟨j,ns',fx,hj,rfl,Lo,st,Nv⟩:=hrel;have Cb:=hid Lo;have wJ:=hid st.n1;have ST:=hid st;have uJ:=hid Nv;clear Lo st
    by_cases SZ:j<8
    ·have hj':(j:Int)<8:=by omega
     have j0:(0:Int)<=(j:Int):=by omega
     have hr:=(At.tE Nv).range j SZ;rw[Nat.zero_add] at hr;have pZ:=Gy HZ.out j;have hds:=J1 HZ.out j;obtain⟨nm,wO⟩:∃nm,nm=dM z j:=⟨_,rfl⟩;obtain⟨d,hd⟩:∃d:Nat,dI z j=(d:Int):=⟨(dI z j).toNat,by omega⟩;have zt:Hid (x.gO z j (ns',fx)=if(d:Int)=0 then some (ns',fx) else if nm.data.toList∉ns'/\d<=x.ni/\(x.ino d).kind≠0 then some (ns'++[nm.data.toList],fx++[d]) else none):=by
      show _=_;unfold Im.gO;rw[hd,<-wO,Int.toNat_natCast]
     rw[hd,<-wO] at hr;rw[hd] at pZ;rw[<-wO] at hds;have zc:Hid (x.gO z j (ns',fx)=none->x.gV t=none):=λh=>ct.out (by rw[j7.out];exact cV Cb.out h SZ)
     clear wO hd Nv;have hA0:=At.new wr 90 #[.int .u32 0,.string ByteArray.empty];have UM:=ST.out.bel.size;go_wp2_with (first|(refine wpList_load_mid rfl 90 _ rfl _ _ rfl _ _ hr Tryz.underlying90 rfl (by kernel_rfl) ?_)|(refine ax rfl 90 _ _ rfl _ #[.int .u32 (d:Int),.string nm] _ rfl rfl hA0 (dZ _ _) rfl (fD _ _) ?_))
     intro w5 Lv yn;have sB:Below wr.heap.size wr w5:=((Below.refl _ _).alloc (Nat.le_refl _) _).trans (yn.below (Nat.le_refl _));have ec:=hid (ST.out.below sB);have KI:=hid (uJ.out.below sB uJ.out.lt);obtain⟨G,hG⟩:∃G,G=wr.heap.size:=⟨_,rfl⟩;have hGw:w.heap.size<G:=by rw[hG];exact ST.out.m.lt
     rw[<-hG] at Lv ⊢;have T3:=hid Lv;have c0:w5.cell? ⟨G,0,none⟩=some (.int .u32 (d:Int)):=Lv.cell (i:=0) rfl;have c1:w5.cell? ⟨G,1,none⟩=some (.string nm):=Lv.cell (i:=1) rfl;clear hr hA0 yn sB ST uJ hG UM Lv
     by_cases hd0:d=0
     ·subst hd0
      have HN:Hid (aS (x.gO z) (j+1) (ns,is)=some (ns',fx)):=bA Cb.out (by rw[zt.out];rfl);clear c1;go_wp2_with fail;go_roundw
      case rel=>(try((repeat apply Exists.intro);refine⟨?_,rfl⟩));exact⟨j+1,ns',fx,by omega,by first|rfl|go_num,HN.out,ec.out.more (by omega),KI.out⟩
      case measure=>simp[intOf]<;>omega
     have q0:((d:Int)==0)=false:=by simp;omega
     have jA:Hid (x.gO z j (ns',fx)=if nm.data.toList∉ns'/\d<=x.ni/\(x.ino d).kind≠0 then some (ns'++[nm.data.toList],fx++[d]) else none):=by show _=_;rw[zt.out,if_neg (by omega)]
     have hkey:keyOf Tryz.prog 9 (.string nm)=some (.string nm.data.toList):=keyOf_string_mk Tryz.underlying9 (by unfold maxLen;omega);have hown:=ec.out.m;obtain⟨c,hrun,hat,_⟩:=hown.lookup_int nD Tryz.underlying220 Tryz.underlying3 (ql _) hkey;have YS:k*8+j<600000:=by omega
     by_cases hin:nm.data.toList∈ns'
     ·rw[(Fu ns' _).1 hin] at hat
      obtain rfl:c=1:=by injection hat with hat;injection hat with _ hat;exact hat.symm
      have wK:=hid hin;clear hat hin hd0 zt;go_wp2_with (first|(at_mapUpdate;refine wpList_mapUpdate_own _ rfl _ _ _ 220 rfl 9 3 nD Tryz.underlying220 _ w.heap.size (k*8+j) _ rfl hown (by unfold maxLen;omega) _ _ _ rfl rfl hkey _ [] (plainElem_int Tryz.underlying3 (by decide)) ?_))
      intro w6 tV vU;have c1':w6.cell? ⟨G,1,none⟩=some (.string nm):=(World.cell?_of_block (w:=w5) (vU.block G T3.out.lt (λe=>by injection e with e;omega))).trans c1;obtain⟨c',hrun',hat',_⟩:=tV.lookup_int nD Tryz.underlying220 Tryz.underlying3 (ql _) hkey;rw[atKey_put_same (k:=.string nm.data.toList) (tO ns') (show WideAt.IsKeyLit (.string nm.data.toList) from trivial)] at hat';obtain rfl:c'=2:=by injection hat' with hat';injection hat' with _ hat';exact hat'.symm
      have gr6:w.grownBy w6 (some p):=(ec.out.s.new hpw rL Av vU (λr e=>by injection e with e;omega)).gr;have bl6:Below w.heap.size w w6:=ec.out.bel.grown vU ec.out.bel.size (λr e=>by injection e with e;omega);clear hat' tV vU hrun;go_wp2_with fail;refine(gU 9 _).mono ?_;rintro e w7 ⟨rfl,rfl⟩;exact⟨rfl,bl6,.inl ⟨zc.out (by rw[jA.out,if_neg (λh=>h.1 wK.out)]),rfl⟩⟩
     ·rw[(Fu ns' _).2 hin] at hat
      obtain rfl:c=0:=by injection hat with hat;injection hat with _ hat;exact hat.symm
      have wK:=hid hin;clear hat hin hd0 zt;go_wp2_with (first|(at_mapUpdate;refine wpList_mapUpdate_own _ rfl _ _ _ 220 rfl 9 3 nD Tryz.underlying220 _ w.heap.size (k*8+j) _ rfl hown (by unfold maxLen;omega) _ _ _ rfl rfl hkey _ [] (plainElem_int Tryz.underlying3 (by decide)) ?_))
      intro w6 tV vU;have c1':w6.cell? ⟨G,1,none⟩=some (.string nm):=(World.cell?_of_block (w:=w5) (vU.block G T3.out.lt (λe=>by injection e with e;omega))).trans c1;obtain⟨c',hrun',hat',_⟩:=tV.lookup_int nD Tryz.underlying220 Tryz.underlying3 (ql _) hkey;rw[atKey_put_same (k:=.string nm.data.toList) (tO ns') (show WideAt.IsKeyLit (.string nm.data.toList) from trivial)] at hat';obtain rfl:c'=1:=by injection hat' with hat';injection hat' with _ hat';exact hat'.symm
      have iW:=hid (ec.out.name hpw rL Av vU (by rw[Ft];exact tV));have HA6:Hid (At w6 G 90 #[.int .u32 (d:Int),.string nm]):=dq T3.out vU (λe=>by injection e with e;omega);have Cd:Hid (At w6 g 172 (Sc (dI z) (dM z) 8).toArray):=dq KI.out vU (λe=>by injection e with e;omega);clear hat' tV vU hrun ec T3 KI c0 c1 hown;go_wp2_with fail;refine(gy 9 _).mono ?_;rintro e w7 ⟨rfl,rfl⟩;clear c1' hrun' hkey;have Hl:(d:Int)<4294967296:=pZ.2;have d0:(0:Int)<=(d:Int):=by omega
      go_wp2_with fail;refine aA (G7 w p b off x cs q (ns'++[nm.data.toList]) fx (k*8+j+1) u5 g (Sc (dI z) (dM z) 8).toArray G d nm) 10 (by kernel_rfl) (by kernel_rfl) (by kernel_rfl) (by kernel_rfl) (by kernel_rfl) (by decide) (G7.below ⟨iW.out,HA6.out,Cd.out⟩ (Below.refl _ _).drew) ?_;clear iW HA6 Cd;simp only[List.take,List.drop];intro hne;have rK:∀y:aT (G7 w p b off x cs q (ns'++[nm.data.toList]) fx (k*8+j+1) u5 g (Sc (dI z) (dM z) 8).toArray G d nm),y.W.cell? ⟨G,0,none⟩=some (.int .u32 (d:Int)):=λy=>y.h.a.cell (i:=0) rfl
      have AE:∀y:aT (G7 w p b off x cs q (ns'++[nm.data.toList]) fx (k*8+j+1) u5 g (Sc (dI z) (dM z) 8).toArray G d nm),y.W.cell? ⟨p,11,none⟩=some (.slice (some ⟨q,0,none⟩) (x.ni+1) (x.ni+1)):=λy=>(gj.out _ y.h.s.s.a).2
      repeat go_big_quiet_step (fail)
      refine wpQuiet_nil ?_;intro w8 h8;have tj:=hid h8.out;clear h8 hne rK AE;go_wp2_with fail;refine(bw 9 (decide ((d:Int)<(x.ni:Int)+1)) _).mono ?_;rintro e w9 ⟨hS,rfl⟩;rcases hS with⟨lY,rfl⟩|⟨lY,rfl⟩
      rotate_left
      ·refine⟨rfl,tj.out.s.bel,.inl ⟨zc.out (by rw[jA.out,if_neg (λh=>by have:=of_decide_eq_false lY;omega)]),rfl⟩⟩
      have adk:(d:Int)<(x.ni:Int)+1:=of_decide_eq_true lY;have DA:d<x.ni+1:=by omega
      clear lY;go_wp2_with fail;refine aA (G7 w p b off x cs q (ns'++[nm.data.toList]) fx (k*8+j+1) u5 g (Sc (dI z) (dM z) 8).toArray G d nm) 10 (by kernel_rfl) (by kernel_rfl) (by kernel_rfl) (by kernel_rfl) (by kernel_rfl) (by decide) (tj.out.below (Below.refl _ _).drew) ?_;clear tj;simp only[List.take,List.drop];intro hne;have rK:∀y:aT (G7 w p b off x cs q (ns'++[nm.data.toList]) fx (k*8+j+1) u5 g (Sc (dI z) (dM z) 8).toArray G d nm),y.W.cell? ⟨G,0,none⟩=some (.int .u32 (d:Int)):=λy=>y.h.a.cell (i:=0) rfl
      have AE:∀y:aT (G7 w p b off x cs q (ns'++[nm.data.toList]) fx (k*8+j+1) u5 g (Sc (dI z) (dM z) 8).toArray G d nm),y.W.cell? ⟨p,11,none⟩=some (.slice (some ⟨q,0,none⟩) (x.ni+1) (x.ni+1)):=λy=>(gj.out _ y.h.s.s.a).2
      have mE:∀y:aT (G7 w p b off x cs q (ns'++[nm.data.toList]) fx (k*8+j+1) u5 g (Sc (dI z) (dM z) 8).toArray G d nm),y.W.cell? ⟨q,d*16,none⟩=some (.int .u8 (x.ino d).kind):=λy=>y.h.s.s.ino (t:=d) DA 0 rfl
      repeat go_big_quiet_step (fail)
      refine wpQuiet_nil ?_;intro po h10;have tl:=hid h10.out;clear h10 hne rK AE mE;go_wp2_with fail;refine(bw 9 ((x.ino d).kind !=0) _).mono ?_;rintro e Hb ⟨hS,rfl⟩;rcases hS with⟨fE,rfl⟩|⟨fE,rfl⟩
      rotate_left
      ·refine⟨rfl,tl.out.s.bel,.inl ⟨zc.out (by rw[jA.out,if_neg (λh=>h.2.2 (by simpa using fE))]),rfl⟩⟩
      have gi:Hid (x.gO z j (ns',fx)=some (ns'++[nm.data.toList],fx++[d])):=by
       show _=_;rw[jA.out,if_pos ⟨wK.out,by omega,by simpa using fE⟩]
      have rK:=tl.out.a.cell (i:=0) (v:=.int .u32 (d:Int)) rfl;have tW:=tl.out.s.n1;have hown:=tl.out.s.o;obtain⟨va,vc,rfl⟩:=ah.form hown;obtain⟨i0,hi0,hz0,hz1,hz2⟩:=oz;have hown2:World.ownsRow (po.alloc (.cells #[.int .i64 (d:Int)] 3)) (w.heap.size+1) 3 1 (.slice va fx.length vc) fx.length (Cs (gZ fx) fx.length):=World.ownsRow.alloc hown _;have hnews:∀i u,([.int .i64 (d:Int)]:List Value)[i]? =some u->(po.alloc (.cells #[.int .i64 (d:Int)] 3)).cell? ((⟨po.heap.size,0,none⟩:Addr).add i)=some u:=λi u hu=>by
       cases i with
       |zero=>
        injection hu with hu
        subst hu;exact(At.new po 3 #[.int .i64 (d:Int)]).cell (i:=0) rfl
       |succ i=>cases hu
      have h1c:∀u∈([.int .i64 (d:Int)]:List Value),u.oneCell'=true:=λu hu=>by simp at hu;subst hu;rfl
      have hil:fx.length<=600000:=by have:=wJ.out;omega
      have hbase:w.heap.size+1<=(po.alloc (.cells #[.int .i64 (d:Int)] 3)).heap.size:=by simp;have:=tl.out.s.m.lt;omega
      have vX:Below po.heap.size po (po.alloc (.cells #[.int .i64 (d:Int)] 3)):=(Below.refl _ _).alloc (Nat.le_refl _) _;have Kv:=hid (tl.out.below vX);have HN:=hid (bA Cb.out gi.out);clear tl hown vX pZ zc jA;go_wp2_with (first|(refine dt rfl 37 1 0 (.tmp 92) rfl (.int .i64 (d:Int)) rfl _ _ (lz (d:Int) _) ?_)|(refine wpList_append_own _ rfl (.tmp 89) (.tmp 93) 37 rfl (w.heap.size+1) 3 i0 (.int .i64 0) 1 8 Tryz.underlying37 hi0 hz0 hz1 hz2 rfl (by decide) (.slice va fx.length vc) fx.length _ rfl hown2 ⟨po.heap.size,0,none⟩ 1 1 [.int .i64 (d:Int)] rfl rfl hnews h1c (by unfold maxLen;omega) (by omega) hbase ?_))
      intro v' PH rG Dy _;have fv:=hid (Kv.out.s.app hpw rL Av (d:=d) (by have:=wJ.out;omega) Dy rG);have GN:=hid (dq Kv.out.g Dy (dw Kv.out.g hown2 (by decide)));obtain⟨ga,gc,rfl⟩:=qY rG;clear Kv hown2 hnews h1c hbase rG Dy tW rK;go_wp2_with fail;go_roundw
      case rel=>(try((repeat apply Exists.intro);refine⟨?_,rfl⟩));exact⟨j+1,_,_,by omega,by first|rfl|go_num,HN.out,fv.out,GN.out⟩
      case measure=>simp[intOf]<;>omega
    ·obtain rfl:j=8:=by omega
     have HN:Hid (aS (x.jy t) (k+1) ([],[])=some (ns',fx)):=bA ss.out (j7.out.trans Cb.out);go_wp2_with fail;go_roundw
     case rel=>(try((repeat apply Exists.intro);refine⟨?_,rfl⟩));exact⟨k+1,ns',fx,by omega,by first|rfl|go_num,HN.out,by rw[Nat.succ_mul];exact ST.out⟩
     case measure=>simp[intOf]<;>omega
  ·obtain rfl:k=N:=by omega
   go_wp2_with fail;go_ret;exact⟨ST.out.bel,.inr ⟨(ns,is),_,by rw[SD.out];exact ss.out,rfl,ah.low ST.out.o (by omega)⟩⟩
end
def sG(W:World)(base ug n:Nat)(u:Nat->List Nat):Prop:=
 ∃(a:Nat->Option Addr) (c:Nat->Nat),az W ug 37 1 n (λt=>[.slice (a t) (u t).length (c t)])/\∀t,t<n->ah W base 3 1 (.slice (a t) (u t).length (c t)) (u t).length (gZ (u t))
theorem sG.below{W:World}{n:Nat}{u:Nat->List Nat}(h:sG W base ug n u)(hb:Below W.heap.size W W'):sG W' base ug n u:=by
 obtain⟨a,c,h1,h2⟩:=h;exact⟨a,c,h1.below hb,λt ht=>ah.below (h2 t ht) hb⟩
theorem sG.lt{W:World}{n:Nat}{u:Nat->List Nat}(h:sG W base ug n u):ug<W.heap.size:=by obtain⟨a,c,h1,h2⟩:=h;exact h1.lt
theorem sf{W:World}{T e:TypeId}{m n:Nat}{f:Nat->List Value}(h:az W g T m n f){size:Nat}{xs:List Value}(ho:W.ownsRow base e size v k xs)(hT:T≠e):v.ownBlock≠some g:=by
 obtain⟨cs,hc,_⟩:=h.blk;exact dw (show At W g T cs from hc) ho (λe=>hT e.symm)
theorem sG.set{W:World}{n:Nat}{u:Nat->List Nat}(h:sG W base ug n u){t:Nat}(ht:t<n){l:List Nat}{va:Option Addr}{vc:Nat}(hv:ah W base 3 1 (.slice va l.length vc) l.length (gZ l)):sG (W.setCell ⟨ug,t,none⟩ (.slice va l.length vc)) base ug n (af u t l):=by
 obtain⟨a,c,h1,h2⟩:=h;have ho:an ug W (W.setCell ⟨ug,t,none⟩ (.slice va l.length vc)):=an.setCell W ⟨ug,t,none⟩ _;refine⟨λi=>if i=t then va else a i,λi=>if i=t then vc else c i,?_,λi hi=> ?_⟩
 ·have:=h1.dz (k:=t) (j:=0) ht (by decide) (λ_=>rfl) (.slice va l.length vc)
  rw[Nat.mul_one,Nat.add_zero] at this;refine this.congr λi hi=> ?_
  unfold af
  by_cases e:i=t
  ·simp only[e,if_true];rfl
  ·simp only[e,if_false]
 ·have key:∀{v k xs},W.ownsRow base 3 1 v k xs->(W.setCell ⟨ug,t,none⟩ (.slice va l.length vc)).ownsRow base 3 1 v k xs:=λ{v k xs} hx=>eT hx ho (sf h1 hx (by decide))
  unfold af
  by_cases e:i=t
  ·simp only[e,if_true];exact key hv
  ·simp only[e,if_false];exact key (h2 i hi)
structure OA(w:World)(p b off:Nat)(x:Im)(cs:Array Value)(q ug:Nat)(u:Nat->List Nat)(W:World):Prop where
 s:ji w p b off x cs q W
 u:sG W w.heap.size ug (x.ni+1) u
theorem OA.below{u:Nat->List Nat}{W:World}(h:OA w p b off x cs q ug u W)(hb:Below W.heap.size W W'):OA w p b off x cs q ug u W':=⟨h.s.below hb,h.u.below hb⟩
def G8(w:World)(p b off cap:Nat)(x:Im)(ds ak own sl:Value)(q:Nat)(e:Ending)(w':World):Prop:=
 w.grownBy w' (some p)/\((x.mI=none/\e= .panicked (r8 9))\/∃u g,x.mI=some u/\e= .returned (.tuple #[])/\w.heap.size<=g/\
  At w' p 105 (XC b off cap x ds (.slice (some ⟨q,0,none⟩) (x.ni+1) (x.ni+1)) ak own sl (.slice (some ⟨g,0,none⟩) (x.ni+1) (x.ni+1)))/\sG w' w.heap.size g (x.ni+1) u)
theorem Dh:(Tryz.prog.info? 37).map (λi=>(i.zero,i.size,i.bytes))=some (some (.slice none 0 0),1,24):=by kernel_rfl
theorem vd(n:Nat)(hn:n<=2048)(W:World):(Instr.makeSlice 103 (.int .i64 (n:Int)) (.int .i64 (n:Int))).run Tryz.prog W= .ok (.slice (some ⟨W.heap.size,0,none⟩) n n) (W.alloc (.cells (madeCells #[.slice none 0 0] (n*1)) 37)):=
 dg (P:=Tryz.prog) 103 37 (.slice none 0 0) 1 24 Tryz.underlying103 Dh .i64 .i64 n (by omega) (by omega) W
def V5(x:Im)(B ug k:Nat)(i:Nat)(v:Value)(W:World):Prop:=
 if i=7 then∃r a c,x.gV k=some r/\v= .slice a r.2.length c/\ah W B 3 1 (.slice a r.2.length c) r.2.length (gZ r.2)
 else if i=8 then v= .pointer (some ⟨ug,0+k*1,none⟩) else True
theorem V5.below{B:Nat}{W:World}(h:V5 x B ug k i v W)(hb:Below W.heap.size W W'):V5 x B ug k i v W':=by
 unfold V5 at h ⊢
 by_cases h7:i=7
 ·rw[if_pos h7] at h ⊢
  obtain⟨r,a,c,e1,e2,h⟩:=h;exact⟨r,a,c,e1,e2,ah.below h hb⟩
 ·rw[if_neg h7] at h ⊢;exact h
structure S5(w:World)(p b off:Nat)(x:Im)(cs:Array Value)(q ug k:Nat)(u:Nat->List Nat)(l:Nat->Bool)(W:World):Prop where
 n:l 9=false->OA w p b off x cs q ug u W
 y:l 9=true->∃r,x.gV k=some r/\OA w p b off x cs q ug (af u k r.2) W
 o:l 9=true->l 7=true
theorem S5.c{u:Nat->List Nat}{W:World}(h:S5 w p b off x cs q ug k u l W):ji w p b off x cs q W:=by
 cases e:l 9 with
 |false=>exact(h.n e).s
 |true=>obtain⟨r,_,h⟩:=h.y e;exact h.s
theorem S5.below{u:Nat->List Nat}{l':Nat->Bool}{W:World}(h:S5 w p b off x cs q ug k u l W)(hl:l' 9=l 9)(h7:l 7=true->l' 7=true)(hb:Below W.heap.size W W'):S5 w p b off x cs q ug k u l' W':=
 ⟨λe=>(h.n (hl▸e)).below hb,λe=>by obtain⟨r,e1,h⟩:=h.y (hl▸e);exact⟨r,e1,h.below hb⟩,λe=>h7 (h.o (hl▸e))⟩
theorem AQ(p b off cap:Nat)(x:Im)(hx:x.Ok)(hM:∀t,1<=t->t<=x.ni->(x.ino t).ki)(hT:∀t,1<=t->t<=x.ni->(x.ino t).kind≠0->x.Tree t)(ds ak own sl:Value)(q:Nat)(w:World)(mP:b≠p)(Nb:q≠p)(h:ji w p b off x (XC b off cap x ds (.slice (some ⟨q,0,none⟩) (x.ni+1) (x.ni+1)) ak own sl (.slice none 0 0)) q w):
  Calls Tryz.prog 83 #[.pointer (some ⟨p,0,none⟩)] w λe w'=>G8 w p b off cap x ds ak own sl q e w':=by
 have HX:=hid hx;have hni:x.ni<=256:=eK hx.may;have c11:w.cell? ⟨p,11,none⟩=some (.slice (some ⟨q,0,none⟩) (x.ni+1) (x.ni+1)):=h.a.cell (i:=11) rfl;obtain⟨g,hg⟩:∃g,g=w.heap.size:=⟨_,rfl⟩;have hpw:=h.a.lt;have rL:=h.bl;have Av:=h.r.lt;have hmk:(Instr.makeSlice 103 (.int .i64 ((x.ni:Int)+1)) (.int .i64 ((x.ni:Int)+1))).run Tryz.prog w= .ok (.slice (some ⟨g,0,none⟩) (x.ni+1) (x.ni+1)) (w.alloc (.cells (madeCells #[.slice none 0 0] ((x.ni+1)*1)) 37)):=by
  rw[hg];exact vd (x.ni+1) (by omega) w
 obtain⟨W1,hW1⟩:∃W1,W1=w.alloc (.cells (madeCells #[.slice none 0 0] ((x.ni+1)*1)) 37):=⟨_,rfl⟩;have hb1:Below w.heap.size w W1:=by rw[hW1];exact(Below.refl _ _).alloc (Nat.le_refl _) _
 have hr1:sG W1 w.heap.size g (x.ni+1) (λ_=>[]):=by
  refine⟨λ_=>none,λ_=>0,?_,λt _=>ah.nil _ _ _ _ _⟩;rw[hW1,hg];exact(az.made (m:=1) w #[.slice none 0 0] rfl (by omega) (x.ni+1) _)
 have h1:=h.below hb1;have OT:g≠p:=by omega
 have hr2:sG (W1.setCell ⟨p,15,none⟩ (.slice (some ⟨g,0,none⟩) (x.ni+1) (x.ni+1))) w.heap.size g (x.ni+1) (λ_=>[]):=by
  obtain⟨a,c,k1,k2⟩:=hr1;exact⟨a,c,k1.only (an.setCell W1 ⟨p,15,none⟩ _) OT,λt ht=>eT (k2 t ht) (an.setCell W1 ⟨p,15,none⟩ _) (λe=>by have:=(World.ownsRow.lt (k2 t ht) p e).1;omega)⟩
 have aV:Hid (OA w p b off x (XC b off cap x ds (.slice (some ⟨q,0,none⟩) (x.ni+1) (x.ni+1)) ak own sl (.slice (some ⟨g,0,none⟩) (x.ni+1) (x.ni+1))) q g (λ_=>[]) (W1.setCell ⟨p,15,none⟩ (.slice (some ⟨g,0,none⟩) (x.ni+1) (x.ni+1)))):=
  ⟨h1.ID 15 _ mP Nb,hr2⟩
 have c15:W1.cell? ⟨p,15,none⟩=some (.slice none 0 0):=h1.a.cell (i:=15) rfl;have f15:W1.frozen? ⟨p,15,none⟩=false:=ag h1.a 15;have kf:w.heap.size<=g:=by omega
 rw[<-hW1] at hmk;have HDC:Hid (∀(t:Nat) (W:World),1<=t->t<=x.ni->(x.ino t).kind=2->ji w p b off x (XC b off cap x ds (.slice (some ⟨q,0,none⟩) (x.ni+1) (x.ni+1)) ak own sl (.slice (some ⟨g,0,none⟩) (x.ni+1) (x.ni+1))) q W->w.heap.size<=W.heap.size->
  Calls Tryz.prog 133 #[.pointer (some ⟨p,0,none⟩),.int .i64 (t:Int)] W λe w'=>Cg W x t e w'):=
  λt W ht1 ht2 hk hW hs=>DN p b off cap x hx ds ak own sl _ q t ht1 ht2 (hM t ht1 ht2) (hT t ht1 ht2 (by rw[hk];decide)) W (by omega) (by omega) (by omega) hW.self
 obtain⟨cs,hcs⟩:∃cs,cs=XC b off cap x ds (.slice (some ⟨q,0,none⟩) (x.ni+1) (x.ni+1)) ak own sl (.slice (some ⟨g,0,none⟩) (x.ni+1) (x.ni+1)):=⟨_,rfl⟩;have gj:Hid (∀W,At W p 105 cs->W.cell? ⟨p,11,none⟩=some (.slice (some ⟨q,0,none⟩) (x.ni+1) (x.ni+1))/\W.cell? ⟨p,15,none⟩=some (.slice (some ⟨g,0,none⟩) (x.ni+1) (x.ni+1))/\At W p 105 (XC b off cap x ds (.slice (some ⟨q,0,none⟩) (x.ni+1) (x.ni+1)) ak own sl (.slice (some ⟨g,0,none⟩) (x.ni+1) (x.ni+1)))):=λW h=>by
  rw[hcs] at h;exact⟨h.cell (i:=11) rfl,h.cell (i:=15) rfl,h⟩
 rw[<-hcs] at aV HDC;have sH:=hid kf;clear h h1 hb1 hr1 hr2 hW1 hx kf hcs hM hT hg;go_enter Tryz.func83,Tryz.ntmps83;go_wp2_with fail;clear c11 hmk c15 f15;go_loopw [2] (λv wr=>∃(k:Nat) (u:Nat->List Nat),k<=x.ni/\v= .int .i64 ((k:Int)+1)/\aS (λt u=>if(x.ino (t+1)).kind=2 then(x.gV (t+1)).map (λr=>af u (t+1) r.2) else some u) k (λ_=>[])=some u/\OA w p b off x cs q g u wr) (λv _=>x.ni+1-(intOf v).toNat)
 case atStart=>exact⟨0,λ_=>[],Nat.zero_le _,rfl,rfl,aV.out⟩
 case round=>
  clear aV;obtain⟨k,u,hk,rfl,hfo,st⟩:=hrel;have ss:=hid hfo;have ST:=hid st;clear hfo st;obtain⟨c11,_,_⟩:=gj.out _ ST.out.s.a
  by_cases hlt:k<x.ni
  ·have hlt':(k:Int)+1<(x.ni:Int)+1:=by omega
   have k0:(0:Int)<=(k:Int)+1:=by omega
   have cK:wr.cell? ⟨q,(k+1)*16,none⟩=some (.int .u8 (x.ino (k+1)).kind):=ST.out.s.ino (t:=k+1) (by omega) 0 rfl;obtain⟨kd,fE⟩:∃kd,kd=(x.ino (k+1)).kind:=⟨_,rfl⟩;have Ca:=hid fE;rw[<-fE] at cK;clear fE
   by_cases hk2:kd=2
   rotate_left
   ·have q0:(kd==2)=false:=by simp[hk2]
    have HN:Hid (aS (λt u=>if(x.ino (t+1)).kind=2 then(x.gV (t+1)).map (λr=>af u (t+1) r.2) else some u) (k+1) (λ_=>[])=some u):=bA ss.out (by rw[if_neg (by rw[<-Ca.out];exact hk2)]);clear hk2;go_wp2_with fail;go_roundw
    case rel=>(try((repeat apply Exists.intro);refine⟨?_,rfl⟩));exact⟨k+1,u,by omega,by first|rfl|go_num,HN.out,ST.out⟩
    case measure=>simp[intOf]<;>omega
   have q0:(kd==2)=true:=by simp[hk2]
   have XK:=hid hk2;have ct:Hid (x.gV (k+1)=none->x.mI=none):=λh=>cV ss.out (by rw[if_pos (by rw[<-Ca.out];exact hk2),h];rfl) hlt
   clear hk2;go_wp2_with fail;apply Vp.br 7 (λl i v W=>V5 x w.heap.size g (k+1) i v W) (S5 w p b off x cs q g (k+1) u) (λW=>ji w p b off x cs q W)
   case hm=>kernel_rfl
   case hd=>kernel_rfl
   case hpre=>kernel_rfl
   case hB=>kernel_rfl
   case hVl=>exactλl l' he i v W h=>h
   case hS=>exactλl l' W he h=>h.below (he 9 (by decide) (by decide)).symm (λe=>by rw[<-he 7 (by decide) (by decide)];exact e) (Below.refl _ _)
   case hSC=>exactλl W h=>h.c
   case hVb=>exactλl i v W W' h hb=>h.below hb
   case hSb=>exactλl W W' h hb _=>h.below rfl (λe=>e) hb
   case h0=>exact⟨λ_=>ST.out.below ⟨rfl,rfl,rfl,Nat.le_refl _,λ_ _=>rfl⟩,(λe=>by cases e),(λe=>by cases e)⟩
   case hwalk=>
    simp only[List.take];intro R hR hne;have d15:∀y:aT (λW=>ji w p b off x cs q W/\R W),y.W.cell? ⟨p,15,none⟩=some (.slice (some ⟨g,0,none⟩) (x.ni+1) (x.ni+1)):=λy=>(gj.out _ y.h.1.a).2.1
    repeat go_big_quiet_step (fail)
    exact wpQuiet_nil rfl
   case hst=>
    simp only[List.drop];refine⟨?_,?_,?_,trivial⟩
    ·intro l a W hl hu h
     have e1:a.tmps.getD 35 undef= .pointer (some ⟨p,0,none⟩):=(h.vals 5 35 (aq hu 5) rfl).pre (by decide) rfl;have e2:a.tmps.getD 36 undef= .int .i64 ((k:Int)+1):=(h.vals 6 36 (aq hu 6) rfl).pre (by decide) rfl;refine Vm.step h (by kernel_rfl) rfl rfl rfl hl (Vl.Fl 133 #[.pointer (some ⟨p,0,none⟩),.int .i64 ((k:Int)+1)] (Vl.nr 133 (.tmp 35) (.tmp 36) _ _ _ rfl e1 e2 (by kernel_rfl)) ?_);refine(HDC.out (k+1) W (by omega) (by omega) (by rw[<-Ca.out];exact XK.out) h.st.c (h.st.c.gr.size)).mono ?_;rintro e W' ⟨hb,hp⟩;rcases hp with⟨hn,rfl⟩|⟨r,v,hr,rfl,hv⟩
     ·refine .inr ⟨_,rfl,?_⟩
      exact⟨h.defers,dm h.st.c.gr (bq hb),.inl ⟨ct.out hn,rfl⟩⟩
     ·have hsz:=h.st.c.gr.size
      obtain⟨va,vc,rfl⟩:=ah.form hv;exact .inl ⟨_,rfl,_,rfl,λi d _ _ hv=>hv.up λ_ hv=>hv.below hb,Vp.W.mk (by decide) ⟨r,va,vc,hr,rfl,ah.low hv hsz⟩,h.st.below rfl (λ_=>rfl) hb⟩
    ·intro l a W hl hu h
     have e1:a.tmps.getD 33 undef= .slice (some ⟨g,0,none⟩) (x.ni+1) (x.ni+1):=(h.vals 3 33 (aq hu 3) rfl).pre (by decide) rfl;have e2:a.tmps.getD 34 undef= .int .i64 (((k+1:Nat):Int)):=(h.vals 4 34 (aq hu 4) rfl).pre (by decide) rfl;exact Vm.bB h (by kernel_rfl) rfl rfl rfl hl _ (Vl.xM 103 37 (.tmp 33) (.tmp 34) rfl Tryz.underlying103 1 vL g 0 (x.ni+1) (x.ni+1) (k+1) e1 e2 (by omega)) (λ_ _ hv=>hv.up λ_ hv=>hv.below (Below.refl _ _)) (Vp.W.mk (by decide) rfl) (λs=>s.below rfl (λe=>e) (Below.refl _ _))
    ·intro l a W hl hu h
     obtain⟨r,va,vc,hr,Rt,hv⟩:=(h.vals 7 37 (aq hu 7) rfl).post (by decide);have e38:a.tmps.getD 38 undef= .pointer (some ⟨g,0+(k+1)*1,none⟩):=(h.vals 8 38 (aq hu 8) rfl).post (by decide);have hs:=h.st.n hl;obtain⟨ua,uc,hu1,hu2⟩:=hs.u;have hcell:W.cell? ⟨g,0+(k+1)*1,none⟩=some (.slice (ua (k+1)) (u (k+1)).length (uc (k+1))):=by
      rw[Nat.zero_add,Nat.mul_one];exact hu1.jU (by omega) rfl
     have vO:sG (W.setCell ⟨g,k+1,none⟩ (.slice va r.2.length vc)) w.heap.size g (x.ni+1) (af u (k+1) r.2):=sG.set hs.u (by omega) hv;have Qq:sG (W.setCell ⟨g,0+(k+1)*1,none⟩ (.slice va r.2.length vc)) w.heap.size g (x.ni+1) (af u (k+1) r.2):=by rw[Nat.zero_add,Nat.mul_one];exact vO
     have ho:an g W (W.setCell ⟨g,0+(k+1)*1,none⟩ (.slice va r.2.length vc)):=an.setCell W ⟨g,0+(k+1)*1,none⟩ _;have mE:=hs.s.only ho (λe=>OT e.symm) (by have:=sH.out;omega) (by have:=sH.out;omega) sH.out;have hvk:ah (W.setCell ⟨g,0+(k+1)*1,none⟩ (.slice va r.2.length vc)) w.heap.size 3 1 (.slice va r.2.length vc) r.2.length (gZ r.2):=eT hv ho (sf hu1 hv (by decide));refine Vm.step h (by kernel_rfl) rfl rfl rfl hl (Vl.q9 37 (.tmp 38) (.tmp 37) rfl g (0+(k+1)*1) (.slice va r.2.length vc) _ e38 Rt hcell (hu1.soft _) vL rfl ?_);refine⟨_,rfl,λi d _ hd hv'=>hv'.up λhi hv'=> ?_,Vp.W.mk (by decide) trivial,⟨(λe=>by have e:true=false:=e;cases e),λ_=>⟨r,hr,mE,Qq⟩,λ_=>aq hu 7 (by kernel_rfl)⟩⟩
     by_cases h7:i=7
     ·subst h7
      have hd:some 37=some d:=hd;injection hd with hd
      subst hd;exact⟨r,va,vc,hr,Rt,hvk⟩
     ·unfold V5 at hv' ⊢
      rw[if_neg h7] at hv' ⊢;exact hv'
   intro a' w8 h hall;have bO:=hall [37,38] (by kernel_rfl);clear hall;obtain⟨r7,va7,vc7,_,Rt,_⟩:=(h.vals 7 37 rfl rfl).post (by decide);have e38:a'.tmps.getD 38 undef= .pointer (some ⟨g,0+(k+1)*1,none⟩):=(h.vals 8 38 rfl rfl).post (by decide);obtain⟨r,hr,hds⟩:=h.st.y rfl;have HN:Hid (aS (λt u=>if(x.ino (t+1)).kind=2 then(x.gV (t+1)).map (λr=>af u (t+1) r.2) else some u) (k+1) (λ_=>[])=some (af u (k+1) r.2)):=bA ss.out (by rw[if_pos (by rw[<-Ca.out];exact XK.out),hr];rfl);have tj:=hid hds;rw[List.foldl_cons,List.foldl_cons,List.foldl_nil,Rt,e38] at bO;simp only[Act.put,List.setIfInBounds_toArray,List.set_cons_succ,List.set_cons_zero] at bO;subst bO;clear h Rt e38 hr hds ST c11 cK;go_wp2_with fail;go_roundw
   case rel=>(try((repeat apply Exists.intro);refine⟨?_,rfl⟩));exact⟨k+1,_,by omega,by first|rfl|go_num,HN.out,tj.out⟩
   case measure=>simp[intOf]<;>omega
  ·obtain rfl:k=x.ni:=by omega
   go_wp2_with fail;refine bodyPost_end (results_none rfl _ _ _) rfl ⟨ST.out.s.gr,.inr ⟨u,g,ss.out,rfl,sH.out,(gj.out _ ST.out.s.a).2.2,ST.out.u⟩⟩
namespace MS
theorem xm(x:Im):∀(f:Nat) (m:MS),(fQ x f m).1=0\/(fQ x f m).1<m.next+f
 |0,m=> .inl rfl
 |f+1,m=>by
  rw[fQ];split
  ·right;show m.next<m.next+(f+1);omega
  ·rcases xm x f {m with next:=m.next+1} with h|h
   ·exact .inl h
   ·right
    have h:_<m.next+1+f:=h
    omega
theorem It(x:Im)(m:MS):(m.take x).1<=x.n:=by
 rcases xm x (x.n-m.next) m with h|h
 ·show(fQ x (x.n-m.next) m).1<=x.n;omega
 ·show(fQ x (x.n-m.next) m).1<=x.n
  by_cases e:m.next<=x.n
  ·omega
  ·have:x.n-m.next=0:=by omega
   rw[this] at h ⊢;rw[fQ];exact Nat.zero_le _
theorem BJ(hn:x.n<=2048){y:aK}(hy:y.Ok)(i:Int)(m:MS):(fm x y i m).2.1.Ok/\(fm x y i m).2.1.kind=y.kind:=by
 unfold fm;split
 ·exact⟨hy,rfl⟩
 ·split
  ·refine⟨⟨hy.kind,hy.aJ,hy.gen,hy.size,λq=> ?_,hy.next⟩,rfl⟩
   dsimp only;split
   ·have:=It x m;omega
   ·exact hy.p q
  ·exact⟨hy,rfl⟩
end MS
namespace PlanD
theorem pY{α:Type}(Q:α->Prop){f:Nat->α->α}:∀(n:Nat) (a:α),Q a->(∀k b,k<n->Q b->Q (f k b))->Q (oW f n a)
 |0,_,h,_=>h
 |n+1,a,h,hs=>hs n _ (by omega) (pY Q n a h λk b hk hb=>hs k b (by omega) hb)
theorem Jh(P:PlanD)(hn:x.n<=2048){l:List sn}(hl:l.length<=4000)(i:Nat){h:HS}(hy:h.y.Ok):(P.FK x l i h).y.Ok:=by
 unfold FK;split
 ·refine pY (λh:HS=>h.y.Ok) _ _ ?_ λk b hk hb=> ?_
  ·exact⟨hy.kind,hy.aJ,hy.gen,by dsimp only;omega,hy.p,hy.next⟩
  ·exact(MS.BJ hn hb _ _).1
 ·split
  ·exact hy
  ·exact pY (λh:HS=>h.y.Ok) _ _ hy λk b hk hb=>(MS.BJ hn hb _ _).1
theorem BM(P:PlanD)(hn:x.n<=2048){a:IS}{m:MS}(ha:∀t,(a.ino t).Ok)(hl:∀t,(a.sl t).length<=4000):∀k t,((P.fill x a m k).ino t).Ok
 |0,t=>ha t
 |k+1,t=>by
  have ih:=BM P hn ha hl (m:=m) k;show((P.uf x a.sl k (P.fill x a m k)).ino t).Ok;unfold uf af;dsimp only;split
  ·exact Jh P hn (hl k) k (ih k)
  ·exact ih t
theorem ri(P:PlanD)(N i:Nat):∀(s:Nat) (a:IS) (t:Nat),((oW (P.ir N i) s a).sl t).length<=(a.sl t).length+s/\∀e,e∈(oW (P.ir N i) s a).sl t->e∈a.sl t\/e.1=i+1
 |0,a,t=>⟨Nat.le_refl _,λe h=> .inl h⟩
 |s+1,a,t=>by
  obtain⟨h1,h2⟩:=ri P N i s a t;show((P.ir N i s (oW (P.ir N i) s a)).sl t).length<=_/\∀e,e∈(P.ir N i s (oW (P.ir N i) s a)).sl t->_;generalize oW (P.ir N i) s a=b at h1 h2 ⊢;unfold ir;split
  ·unfold af
   dsimp only;split
   ·rename_i e
    subst e;refine⟨by rw[List.length_append];show _+1<=_;omega,λe he=> ?_⟩;rcases List.mem_append.1 he with h|h
    ·exact h2 e h
    ·right;rw[List.mem_singleton.1 h]
   ·exact⟨by omega,h2⟩
  ·exact⟨by omega,h2⟩
theorem vK(P:PlanD)(N:Nat):∀(k t:Nat),((P.kR N k).sl t).length<=P.cn k/\∀e,e∈(P.kR N k).sl t->e.1<=k+1
 |0,t=>⟨Nat.le_refl _,λe h=>absurd h (List.not_mem_nil)⟩
 |k+1,t=>by
  obtain⟨h1,h2⟩:=vK P N k t;obtain⟨g1,g2⟩:=ri P N (k+1) (P.f k).nn {P.kR N k with ino:=af (P.kR N k).ino (k+1) ⟨(P.f k).kind,(P.f k).aJ,((k+1:Nat):Int),(P.f k).size,λ_=>0,0⟩} t;refine⟨?_,λe he=> ?_⟩
  ·refine Nat.le_trans g1 ?_
   rw[cn];show((P.kR N k).sl t).length+_<=_;omega
  ·rcases g2 e he with h|h
   ·have:=h2 e h;omega
   ·omega
theorem Ip(v:Int):-9223372036854775808<=IntKind.i64.wrap v/\IntKind.i64.wrap v<=9223372036854775807:=by
 have e:IntKind.i64.wrap v=if v%18446744073709551616>=9223372036854775808 then v%18446744073709551616-18446744073709551616 else v%18446744073709551616:=by
  simp[IntKind.wrap,IntKind.bits,IntKind.signed]
 rw[e];split<;>omega
theorem Co(v:Int):wrap64 v=IntKind.i64.wrap v:=by
 have e:IntKind.i64.wrap v=if v%18446744073709551616>=9223372036854775808 then v%18446744073709551616-18446744073709551616 else v%18446744073709551616:=by
  simp[IntKind.wrap,IntKind.bits,IntKind.signed]
 rw[e];unfold wrap64;split<;>omega
theorem I3(P:PlanD)(N i:Nat)(s:Nat)(a:IS)(ha:∀t,(a.ino t).Ok/\∀q,(a.ino t).p q=0):∀t,((oW (P.ir N i) s a).ino t).Ok/\∀q,((oW (P.ir N i) s a).ino t).p q=0:=by
 refine pY (λa:IS=>∀t,(a.ino t).Ok/\∀q,(a.ino t).p q=0) s a ha λk b hk hb t=> ?_
 unfold ir;split
 ·unfold af
  dsimp only;split
  ·exact⟨⟨(hb i).1.kind,Ip _,(hb i).1.gen,(hb i).1.size,(hb i).1.p,(hb i).1.next⟩,(hb i).2⟩
  ·exact hb t
 ·exact hb t
theorem Ah(P:PlanD)(hB:P.Bd)(N:Nat):∀k,k<=4096->∀t,((P.kR N k).ino t).Ok/\∀q,((P.kR N k).ino t).p q=0
 |0,_,t=>by
  show(SR.ino t).Ok/\∀q,(SR.ino t).p q=0;unfold SR af;dsimp only;split
  ·exact⟨⟨by decide,by decide,by decide,by decide,λi=>⟨Int.le_refl 0,(by decide:(0:Int)<4294967296)⟩,by decide⟩,λq=>rfl⟩
  ·exact⟨⟨by decide,by decide,by decide,by decide,λi=>⟨Int.le_refl 0,(by decide:(0:Int)<4294967296)⟩,by decide⟩,λq=>rfl⟩
 |k+1,hk,t=>by
  have ih:=Ah P hB N k (by omega);refine I3 P N (k+1) (P.f k).nn {P.kR N k with ino:=af (P.kR N k).ino (k+1) ⟨(P.f k).kind,(P.f k).aJ,((k+1:Nat):Int),(P.f k).size,λ_=>0,0⟩} (λt=> ?_) t;unfold af;dsimp only;split
  ·exact⟨⟨hB.kind k,hB.aJ k,by dsimp only;omega,hB.size k,λi=>⟨Int.le_refl 0,(by decide:(0:Int)<4294967296)⟩,⟨Int.le_refl 0,(by decide:(0:Int)<4294967296)⟩⟩,λ_=>rfl⟩
  ·exact ih t
theorem BU(P:PlanD){n:Nat}(h:k<n):P.cn (k+1)<=P.cn n:=by
 induction n with
 |zero=>omega
 |succ n ih=>
  by_cases e:k=n
  ·subst e;exact Nat.le_refl _
  ·have:=ih (by omega)
   rw[cn.eq_2 P n];omega
def KZ(P:PlanD)(N k t:Nat):IS:=oW (P.ir N (k+1)) t {P.kR N k with ino:=af (P.kR N k).ino (k+1) ⟨(P.f k).kind,(P.f k).aJ,((k+1:Nat):Int),(P.f k).size,λ_=>0,0⟩}
theorem Fh(P:PlanD)(N k t r:Nat)(hS:P.cn (k+1)<=1000)(ht:t<=(P.f k).nn):((P.KZ N k t).sl r).length<=1000:=by
 refine Nat.le_trans (ri P N (k+1) t _ r).1 (Nat.le_trans (Nat.add_le_add (vK P N k r).1 ht) ?_);rw[cn] at hS;omega
theorem Jj(P:PlanD)(x:Im):P.Qg x=P.pA x (P.fill x ⟨(P.kR (P.n x) (P.n x)).ino,(P.kR (P.n x) (P.n x)).sl⟩ ⟨iw x.g x.s x.i x.j,0⟩ (P.n x+1)).m.L (P.fill x ⟨(P.kR (P.n x) (P.n x)).ino,(P.kR (P.n x) (P.n x)).sl⟩ ⟨iw x.g x.s x.i x.j,0⟩ (P.n x+1)).ino (P.n x):=rfl
end PlanD
def vD(a:Option Addr):Option Nat:=(Value.slice a 0 0).ownBlock
theorem my(a:Option Addr)(n c:Nat):(Value.slice a n c).ownBlock=vD a:=by cases a<;>rfl
theorem qL{P:Program}(w:World)(base:Nat)(t ty e:TypeId)(i:TypeInfo)(z:Value)(size bytes:Nat)(ht:P.underlying t=some (.slice e))(hi:P.info? e=some i)(hz:i.zero=some z)
  (hsize:i.size=size) (hby:i.bytes=bytes) (hzs:z.cells.size=size) (hsz:0<size) (v:Value) (n:Nat) (xs:List Value) (hown:w.ownsRow base e size v n xs)
  (a:Addr) (m c:Nat) (news:List Value) (hl:news.length=m*size) (hnews:∀j u,news[j]? =some u->w.cell? (a.add j)=some u) (h1:∀u∈news,u.oneCell'=true)
  (h63:n+m<=maxLen) (hbytes:(n+m)*bytes<=140737488355328) (hbase:base<=w.heap.size) (hm:0<m):
  ∃v' w',(Builtin.append_ #[t,t] ty #[v,.slice (some a) m c]).run P w= .ok v' w'/\w'.ownsRow base e size v' (n+m) (xs++news)/\w.grownBy w' v.ownBlock/\(v'.ownBlock=v.ownBlock\/v'.ownBlock=some w.heap.size):=by
 obtain⟨v',w',hr,h2,h3,_⟩:=run_append_own (P:=P) w base t ty e i z size bytes ht hi hz hsize hby hzs hsz v n xs hown a m c news hl hnews h1 h63 hbytes hbase;refine⟨v',w',hr,h2,h3,?_⟩;subst hsize hby;have h63':n+m<=9223372036854775807:=by simp only[maxLen] at h63;omega
 rcases hown.2 with⟨rfl,rfl⟩|⟨g,cap,cur,rfl,hbg,hg,hnc,hcm,hcs,htake⟩
 ·have hr2:=run_append_nil (P:=P) w t ty e i z ht hi hz a m c news hl hnews (by omega) (by omega) (by have hb:=hbytes;simp only[Nat.zero_add] at hb;omega)
  rw[hr] at hr2;injection hr2 with e1 e2
  right;rw[e1];rfl
 ·by_cases hroom:n+m<=cap
  ·have hfit:n*i.size+news.length<=cur.size:=by rw[hl,hcs,<-Nat.add_mul];exact Nat.mul_le_mul_right _ hroom
   have hr2:=run_append_room (P:=P) w t ty e i ht hi g n cap cur hg a m c news hl hnews h1 hroom hfit;rw[hr] at hr2;injection hr2 with e1 e2
   left;rw[e1];rfl
  ·have holds:∀j u,xs[j]? =some u->w.cell? ((⟨g,0,none⟩:Addr).add j)=some u:=hown.cells (g:=g) rfl
   have hr2:=run_append_grow (P:=P) w t ty e i z ht hi hz ⟨g,0,none⟩ n cap xs hown.1 holds a m c news hl hnews (by omega) (by omega) (growslice_fits (by omega) hbytes);rw[hr] at hr2;injection hr2 with e1 e2
   right;rw[e1];rfl
structure AX(W:World)(base sb n:Nat)(sl:Nat->List sn)(a:Nat->Option Addr)(c:Nat->Nat):Prop where
 u:az W sb 88 1 n (λt=>[.slice (a t) (sl t).length (c t)])
 r:∀t,t<n->ah W base 90 2 (.slice (a t) (sl t).length (c t)) (sl t).length (kj (sl t))
 ne:∀s t,s<n->t<n->s≠t->vD (a s)=none\/vD (a s)≠vD (a t)
theorem AX.below{W:World}{sb n:Nat}{sl:Nat->List sn}{a:Nat->Option Addr}{c:Nat->Nat}(h:AX W base sb n sl a c)(hb:Below W.heap.size W W'):AX W' base sb n sl a c:=
 ⟨h.u.below hb,λt ht=>(h.r t ht).below hb,h.ne⟩
structure mQ(M q Y N p:Nat)(x:Im)(m:MS)(ys:Nat->aK)(d:dy)(P:PlanD)(w W:World):Prop where
 pm:jh M q x m W
 y:az W Y 63 16 N (vM ys)
 bx:At W p 27 (dx x.g x.s x.i x.j d P)
 r:iJ w.heap.size d P W
 bel:Below w.heap.size w W
 le:w.heap.size<=M/\w.heap.size<=q/\w.heap.size<=Y/\w.heap.size<=p
section
variable {M q Y N p:Nat} {x:Im} {m:MS} {ys:Nat->aK} {d:dy} {P:PlanD} {w W W':World}
theorem mQ.grown(h:mQ M q Y N p x m ys d P w W){row:Option Nat}(hg:W.grownBy W' row)(hr:∀r,row=some r->w.heap.size<=r/\r≠M/\r≠q/\r≠Y/\r≠p):mQ M q Y N p x m ys d P w W':=by
 obtain⟨f,hf⟩:=h.pm.k;have hb:Below w.heap.size W W':=(Below.refl _ _).grown hg h.bel.size (λr e=>(hr r e).1);exact⟨⟨⟨f,dq hf hg λe=>(hr _ e).2.1 rfl⟩,h.pm.im.grown hg λe=>(hr _ e.symm).2.2.1 rfl⟩,h.y.grown hg λe=>(hr _ e.symm).2.2.2.1 rfl,dq h.bx hg λe=>(hr _ e).2.2.2.2 rfl,h.r.below hb,h.bel.trans hb,h.le⟩
theorem mQ.below(h:mQ M q Y N p x m ys d P w W)(hb:Below W.heap.size W W'):mQ M q Y N p x m ys d P w W':=
 h.grown (row:=none) (bq hb) (λr e=>by cases e)
theorem mQ.only(h:mQ M q Y N p x m ys d P w W)(hg:an g W W')(hr:w.heap.size<=g/\g≠M/\g≠q/\g≠Y/\g≠p):mQ M q Y N p x m ys d P w W':=
 h.grown (row:=some g) (fp hg) (λr e=>by injection e with e;exact e▸hr)
theorem mQ.Yh(h:mQ M q Y N p x m ys d P w W):M≠Y/\q≠Y/\p≠Y:=by
 obtain⟨f,hf⟩:=h.pm.k;obtain⟨c1,h1,_⟩:=h.pm.im.blk;obtain⟨cs,hc,_⟩:=h.y.blk;exact⟨At.cR hf hc (by decide),At.cR h1 hc (by decide),At.cR h.bx hc (by decide)⟩
theorem mQ.IN(h:mQ M q Y N p x m ys d P w W)(hi:i<N)(y:aK)(hW:W'=W.setCells Y (i*16) y.arr.toList):mQ M q Y N p x m (af ys i y) d P w W'/\an Y W W':=by
 subst hW;obtain⟨h1,h2⟩:=h.y.set hi (vs:=y.arr.toList) rfl (λ_=>rfl);obtain⟨n1,n2,n3⟩:=h.Yh;obtain⟨f,hf⟩:=h.pm.k;have hb:Below w.heap.size W (W.setCells Y (i*16) y.arr.toList):=h2.below h.le.2.2.1;refine⟨⟨⟨⟨f,hf.only h2 n1⟩,h.pm.im.only h2 n2⟩,h1.congr λj _=> ?_,h.bx.only h2 n3,h.r.below hb,h.bel.trans hb,h.le⟩,h2⟩;unfold vM af;split<;>rfl
theorem mQ.My(h:mQ M q Y N p x m ys d P w W)(hi:i<N)(v:Int):mQ M q Y N p x m (af ys i {ys i with aJ:=v}) d P w (W.setCell ⟨Y,i*16+1,none⟩ (.int .i64 v))/\an Y W (W.setCell ⟨Y,i*16+1,none⟩ (.int .i64 v)):=by
 have ho:an Y W (W.setCell ⟨Y,i*16+1,none⟩ (.int .i64 v)):=an.setCell W ⟨Y,i*16+1,none⟩ (.int .i64 v);obtain⟨n1,n2,n3⟩:=h.Yh;obtain⟨f,hf⟩:=h.pm.k;have hb:Below w.heap.size W (W.setCell ⟨Y,i*16+1,none⟩ (.int .i64 v)):=ho.below h.le.2.2.1;refine⟨⟨⟨⟨f,hf.only ho n1⟩,h.pm.im.only ho n2⟩,?_,h.bx.only ho n3,h.r.below hb,h.bel.trans hb,h.le⟩,ho⟩;have:=h.y.dz (k:=i) (j:=1) hi (by omega) (λj=>nH ys j) (.int .i64 v);refine this.congr λj hj=> ?_
 unfold vM af
 by_cases e:j=i
 ·subst e;rw[if_pos rfl,if_pos rfl];rfl
 ·rw[if_neg e,if_neg e]
theorem mQ.aJ(h:mQ M q Y N p x m ys d P w W)(hi:i<N):W.cell? ⟨Y,i*16+1,none⟩=some (.int .i64 (ys i).aJ):=by
 have:=h.y.bI i hi 1 _ rfl;rwa[Nat.zero_add] at this
end
end Go.Proofs.YtphamecphmbipaaGreatDoor
