/- Texts of this claim, merged. -/
import Derived.Test.YtphamecphmbipaaGreatDoorK38
import Derived.Defers
import Derived.Recover
set_option linter.unusedVariables false
set_option maxRecDepth 100000
set_option maxHeartbeats 16000000

namespace Go.Proofs.YtphamecphmbipaaGreatDoor
open Go.RowKit
open Lib (hid)
variable {w W':World} {p b off G B k R:Nat} {L:Nat->Nat->Int} {cs sc tmps:Array Value} {g s i j:Int} {z:Nat->Int} {v im:Value} {o:Nat->Nat} {y:Bool} {x:Im} {Q:Ending->World->Prop} {m:Nat->Bool}
abbrev X0(im:Value):Array Value:=qn im 0 0 0 0 0 (.slice none 0 0) (.slice none 0 0) (.slice none 0 0) (.slice none 0 0) (.slice none 0 0) (.slice none 0 0)
def y9(w:World)(p b off n cap:Nat)(L:Nat->Nat->Int)(e:Ending)(w':World):Prop:=
 w.grownBy w' (some p)/\(((Im.of L n).sE=false/\e= .panicked (r8 1))\/((Im.of L n).sE=true/\(Im.of L n).BV=false/\e= .panicked (r8 2))\/
  ((Im.of L n).sE=true/\(Im.of L n).BV=true/\e= .returned (.tuple #[])/\∃db dc,w.heap.size<=db/\db<w'.heap.size/\
   At w' p 105 (XC b off cap (Im.of L n) (.slice (some ⟨db,0,none⟩) (Im.of L n).g dc) (.slice none 0 0) (.slice none 0 0) (.slice none 0 0) (.slice none 0 0) (.slice none 0 0))/\
   aF w' db 0 3 (Im.of L n).g (df (rB (L 1)) (rI (L 1)) (rD (L 1)))))
structure za(w:World)(p b off n:Nat)(L:Nat->Nat->Int)(cs:Array Value)(G:Nat)(sc:Array Value)(W:World):Prop where
 a:At W p 105 cs
 i:aF W b off 256 n (dW L)
 s:At W G 47 sc
 bl:b<W.heap.size
 gr:w.grownBy W (some p)
 lo:w.heap.size<=G
 t:Tab W
 pt:p≠0
theorem za.below{n:Nat}{W:World}(h:za w p b off n L cs G sc W)(hb:Below W.heap.size W W'):za w p b off n L cs G sc W':=
 ⟨h.a.below hb h.a.lt,aF.below h.i hb h.bl,h.s.below hb h.s.lt,Nat.lt_of_lt_of_le h.bl hb.size,dm h.gr (bq hb),h.lo,h.t.below hb (Nat.le_refl _),h.pt⟩
def RA(im:Value)(g s i j o:Int)(a c:Bool):Array Value:=
 let z:=Value.slice none 0 0
 if c then #[im,.int .i64 g,.int .i64 s,.int .i64 i,.int .i64 j,.int .u32 o,.int .i64 g,.int .i64 s,.int .i64 i,.int .i64 j,z,z,z,z,z,z]
 else if a then #[im,.int .i64 g,.int .i64 s,.int .i64 i,.int .i64 j,.int .u32 o,.int .i64 0,.int .i64 0,.int .i64 0,.int .i64 0,z,z,z,z,z,z]
 else X0 im
theorem za.put{n:Nat}{cs':Array Value}{W:World}(h:za w p b off n L cs G sc W)(mP:b≠p)(hpw:p<w.heap.size)(k:Nat)(vs:List Value)(he:m8 cs k vs=cs'):za w p b off n L cs' G sc (W.setCells p k vs):=by
 have ho:an p W (W.setCells p k vs):=eU p vs k W;have:=h.lo;exact⟨he▸h.a.Mm vs k,aF.only h.i ho mP,h.s.only ho (by omega),by rw[ho.size];exact h.bl,dm h.gr (fp ho),h.lo,h.t.only ho h.pt,h.pt⟩
def V3(p:Nat)(i:Nat)(v:Value):Prop:=if i=8 then v= .pointer (some ⟨p,0,none⟩) else if i=9 then v= .pointer (some ⟨p,6,none⟩) else True
def tp(g s i j:Int)(z:Nat->Int)(B:Nat)(v:Value)(W:World):Prop:=
 (il g s i j z=true/\ah W B 67 3 v g.toNat (df (rB z) (rI z) (rD z)))\/(il g s i j z=false/\v= .slice none 0 0)
theorem tp.below{W:World}(h:tp g s i j z B v W)(hb:Below W.heap.size W W'):tp g s i j z B v W':=by
 rcases h with⟨h1,h2⟩|h
 ·exact .inl ⟨h1,ah.below h2 hb⟩
 ·exact .inr h
theorem tp.form{W:World}(h:tp g s i j z B v W):v.oneCell'=true:=by
 rcases h with⟨_,h2⟩|⟨_,rfl⟩
 ·obtain⟨a,c,rfl⟩:=ah.form h2;rfl
 ·rfl
def jL(g s i j:Int)(z:Nat->Int):Int:=if il g s i j z then 0 else if aM g s i j then 60 else 50
theorem E8{e:Int}{W:World}(h:mM w g s i j z v e W)(hB:B<=w.heap.size):tp g s i j z B v W/\e=jL g s i j z:=by
 rcases h with⟨h1,h2,h3⟩|⟨h1,h2,h3⟩
 ·exact⟨.inl ⟨h1,ah.low h3 hB⟩,by rw[h2,jL,if_pos h1]⟩
 ·exact⟨.inr ⟨h1,h3⟩,by rw[h2];unfold jL;rw[h1];rfl⟩
theorem tJ(g s i j:Int)(z:Nat->Int):(jL g s i j z==0)=il g s i j z:=by
 unfold jL;cases il g s i j z with
 |true=>rfl
 |false=>rw[if_neg (by decide)];split<;>rfl
def V4(g s i j:Int)(z:Nat->Int)(B p:Nat)(k:Nat)(v:Value)(W:World):Prop:=
 if k=11\/k=12 then∃v',v= .tuple #[v',.int .i64 (jL g s i j z)]/\tp g s i j z B v' W
 else if k=13 then tp g s i j z B v W
 else if k=14 then v= .int .i64 (jL g s i j z)
 else if k=15 then v= .pointer (some ⟨p,0,none⟩)
 else if k=16 then v= .pointer (some ⟨p,10,none⟩) else if k=18 then v= .int .i64 (jL g s i j z) else True
theorem V4.below{W:World}(h:V4 g s i j z B p k v W)(hb:Below W.heap.size W W'):V4 g s i j z B p k v W':=by
 unfold V4 at h ⊢
 by_cases h1:k=11\/k=12
 ·rw[if_pos h1] at h ⊢
  obtain⟨v',e,h⟩:=h;exact⟨v',e,h.below hb⟩
 rw[if_neg h1] at h ⊢
 by_cases h2:k=13
 ·rw[if_pos h2] at h ⊢;exact h.below hb
 rw[if_neg h2] at h ⊢;exact h
theorem V4.map{W:World}(h:V4 g s i j z B p k v W)(hf:∀v,tp g s i j z B v W->tp g s i j z B v W'):V4 g s i j z B p k v W':=by
 unfold V4 at h ⊢
 by_cases h1:k=11\/k=12
 ·rw[if_pos h1] at h ⊢
  obtain⟨v',e,h⟩:=h;exact⟨v',e,hf _ h⟩
 rw[if_neg h1] at h ⊢
 by_cases h2:k=13
 ·rw[if_pos h2] at h ⊢;exact hf _ h
 rw[if_neg h2] at h ⊢;exact h
theorem tp.only{W:World}(h:tp g s i j z B v W)(ho:an p W W')(hp:p<B):tp g s i j z B v W':=by
 rcases h with⟨h1,h2⟩|h
 ·exact .inl ⟨h1,eT h2 ho (λe=>by have:=(World.ownsRow.lt h2 p e).1;omega)⟩
 ·exact .inr h
theorem za.lH{n:Nat}{W:World}(h:za w p b off n L cs G sc W)(h0:cs[6]? =some (.int .i64 g))(h1:cs[7]? =some (.int .i64 s))(h2:cs[8]? =some (.int .i64 i))(h3:cs[9]? =some (.int .i64 j)):W.rangeAt p 6 (aa g s i j).toList:=λk v hk=>by
 match k,hk with
 |0,hk=>injection hk with hk;subst hk;exact h.a.cell h0
 |1,hk=>injection hk with hk;subst hk;exact h.a.cell h1
 |2,hk=>injection hk with hk;subst hk;exact h.a.cell h2
 |3,hk=>injection hk with hk;subst hk;exact h.a.cell h3
 |k+4,hk=>cases hk
structure S4(w:World)(p b off n:Nat)(L:Nat->Nat->Int)(im:Value)(g s i j o:Int)(G:Nat)(y:Bool)(W:World):Prop where
 no:y=false->za w p b off n L (RA im g s i j o true true) G (aj g s i j o) W
 ye:y=true->∃v,tp g s i j (L 1) w.heap.size v W/\za w p b off n L ((RA im g s i j o true true).setIfInBounds 10 v) G (aj g s i j o) W
theorem S4.below{n:Nat}{o:Int}{W:World}(h:S4 w p b off n L im g s i j o G y W)(hb:Below W.heap.size W W'):S4 w p b off n L im g s i j o G y W':=
 ⟨λe=>(h.no e).below hb,λe=>let ⟨v,h1,h2⟩:=h.ye e;⟨v,h1.below hb,h2.below hb⟩⟩
theorem S4.c{n:Nat}{o:Int}{W:World}(h:S4 w p b off n L im g s i j o G y W):W.cell? ⟨p,0,none⟩=some im/\W.rangeAt p 6 (aa g s i j).toList/\aF W b off 256 n (dW L):=by
 cases y with
 |false=>have h:=h.no rfl;exact⟨h.a.cell (i:=0) rfl,h.lH rfl rfl rfl rfl,h.i⟩
 |true=>
  obtain⟨v,_,h⟩:=h.ye rfl;exact⟨h.a.cell (i:=0) rfl,h.lH rfl rfl rfl rfl,h.i⟩
theorem yi:(Tryz.prog.info? 51).map (·.size)=some 1:=by kernel_rfl
theorem oq(h:bM z=0):aM (hd z 4) (hd z 5) (hd z 6) (hd z 7)=true:=by
 unfold bM at h;split at h
 ·split at h
  ·assumption
  ·cases h
 ·cases h
theorem AO(p b off n cap:Nat)(L:Nat->Nat->Int)(hL:∀i,bm (L i))(hn:0<n)(fY:n<=4294967296)(w:World)(hT:Tab w)(rL:b<w.heap.size)(mP:b≠p)(hA:At w p 105 (X0 (.slice (some ⟨b,off,none⟩) n cap)))(hi:aF w b off 256 n (dW L)):
  Calls Tryz.prog 76 #[.pointer (some ⟨p,0,none⟩)] w λe w'=>y9 w p b off n cap L e w':=by
 have c0:w.cell? ⟨p,0,none⟩=some (.slice (some ⟨b,off,none⟩) n cap):=hA.cell (i:=0) rfl;have hn0:decide ((n:Int)>0)=true:=decide_eq_true (by omega);have tW:(0:Int)<(n:Int):=by omega
 have hgt:(0<n)=True:=by simp[hn]
 have hrg:w.rangeAt b off (dW L 0):=by have:=aF.range hi 0 hn;rwa[Nat.zero_mul,Nat.add_zero] at this
 have HA:=hid hA;have HI:=hid hi;have HT:=hid hT;have HL:=hid hL;have Pp:Hid (p<w.heap.size):=hA.lt;have XS:=hid mP;have hzs:=fe;clear hA hi hT hL;go_enter Tryz.func76,Tryz.ntmps76;go_wp2_with fail;refine(gy 1 _).mono ?_;rintro e w1 ⟨rfl,rfl⟩;go_wp2_with (first|(refine aB rfl 32 (.tmp 16) rfl b off (dW L 0) _ rfl hrg Tryz.underlying32 rfl (by rw[aZ];exact au) ?_))
 clear hrg c0 hn0 hgt;have Px:Hid ((Im.of L n).sE=(bM (L 0)==0&&((n:Int)==oV (hd (L 0) 4) (hd (L 0) 5) (hd (L 0) 6) (hd (L 0) 7)))):=by
  show(decide (0<n)&&_)=_;rw[decide_eq_true hn,Bool.true_and];rfl
 obtain⟨VG,VS,VI,VJ,VO,hV,Q8⟩:∃G S I J O,ka (L 0)=gu G S I J O/\(bM (L 0)=0->G=hd (L 0) 4/\S=hd (L 0) 5/\I=hd (L 0) 6/\J=hd (L 0) 7/\O=b9 (L 0) 16):=by
  unfold ka;split
  ·exact⟨_,_,_,_,_,rfl,λ_=>⟨rfl,rfl,rfl,rfl,rfl⟩⟩
  ·rename_i h;exact⟨_,_,_,_,_,rfl,λh2=>absurd h2 h⟩
 have rM:=sQ (L 0) (HL.out 0) w HT.out;rw[hV] at rM;refine rM.mono ?_;rintro e w2 ⟨rfl,hb2⟩;have TK:=hid Q8;obtain⟨E,hE⟩:∃E,E=bM (L 0):=⟨_,rfl⟩;have HE:=hid hE;rw[<-hE];clear hV Q8 rM hE;have hr:=At.new w2 47 (aj 0 0 0 0 0);have JE:Below w.heap.size w (w2.alloc (.cells (aj 0 0 0 0 0) 47)):=hb2.trans ((Below.refl _ _).alloc hb2.size _);have gI:=hb2.size;go_wp2_with (first|(refine ax rfl 47 (.tmp 2) (.tmp 19) rfl w2.heap.size (aj VG VS VI VJ VO) (aj 0 0 0 0 0) rfl rfl hr aR rfl (eL _ _ _ _ _) ?_))
 intro w3 NF nU;obtain⟨G,hG⟩:∃G,G=w2.heap.size:=⟨_,rfl⟩;rw[<-hG] at NF nU gI ⊢;have hb3:Below w.heap.size w w3:=JE.trans ((nU.below (Nat.le_refl _)).mono gI);have ST:Hid (za w p b off n L (X0 (.slice (some ⟨b,off,none⟩) n cap)) G (aj VG VS VI VJ VO) w3):=⟨HA.out.below hb3 HA.out.lt,aF.below HI.out hb3 rL,NF,Nat.lt_of_lt_of_le rL hb3.size,bq hb3,gI,HT.out.below hb3 (Nat.le_refl _),λe=>by
  have h1:=HT.out 0 (by decide);have h2:=HA.out.cell (i:=0) (v:=.slice (some ⟨b,off,none⟩) n cap) rfl;rw[e] at h2;have h3:=h1.symm.trans h2;injection h3 with h3;cases h3⟩
 have HT3:=hid (HT.out.below hb3 (Nat.le_refl _));clear hr JE hb2 NF nU hb3 hG gI HT HA HI hzs
 by_cases lZ:E=0
 rotate_left
 ·have q0:(E==0)=false:=by simp[lZ]
  have ct:Hid ((Im.of L n).sE=false):=by show _=_;rw[Px.out,<-HE.out,q0];rfl
  clear lZ;go_wp2_with fail;refine aA (za w p b off n L (X0 (.slice (some ⟨b,off,none⟩) n cap)) G (aj VG VS VI VJ VO)) 13 (by kernel_rfl) (by kernel_rfl) (by kernel_rfl) (by kernel_rfl) (by kernel_rfl) (by decide) (ST.out.below (Below.refl _ _).drew) ?_;clear ST;simp only[List.take,List.drop];intro hne
  repeat go_big_quiet_step (fail)
  refine wpQuiet_nil ?_;intro w4 h4;have eI:=hid h4.out;clear h4 hne;go_wp2_with fail;refine(gU 1 _).mono ?_;rintro e w5 ⟨rfl,rfl⟩;exact⟨rfl,eI.out.gr,.inl ⟨ct.out,rfl⟩⟩
 obtain⟨rfl,rfl,rfl,rfl,rfl⟩:=TK.out (HE.out.symm.trans lZ);subst lZ;have tq:Hid ((Im.of L n).sE=((n:Int)==oV (hd (L 0) 4) (hd (L 0) 5) (hd (L 0) 6) (hd (L 0) 7))):=by show _=_;rw[Px.out,<-HE.out];rfl
 obtain⟨g,hg⟩:∃g,g=hd (L 0) 4:=⟨_,rfl⟩;obtain⟨s,hs⟩:∃g,g=hd (L 0) 5:=⟨_,rfl⟩;obtain⟨i,hi⟩:∃g,g=hd (L 0) 6:=⟨_,rfl⟩;obtain⟨j,hj⟩:∃g,g=hd (L 0) 7:=⟨_,rfl⟩;obtain⟨o,ho⟩:∃g,g=b9 (L 0) 16:=⟨_,rfl⟩;rw[<-hg,<-hs,<-hi,<-hj] at tq;rw[<-hg,<-hs,<-hi,<-hj,<-ho] at ST;have zd:=hid (And.intro hg (And.intro hs (And.intro hi (And.intro hj ho))));clear hg hs hi hj ho;obtain⟨N,hN⟩:∃N,N=oV g s i j:=⟨_,rfl⟩;have HN:=hid hN;have mT:Hid (∀W,Calls Tryz.prog 126 #[bN g s i j] W λe w'=>e= .returned (.int .i64 N)/\Below W.heap.size W w'):=λW=>by rw[hN];exact s8 g s i j W
 rw[<-hN] at tq;clear hN;go_wp2_with fail;refine aA (za w p b off n L (X0 (.slice (some ⟨b,off,none⟩) n cap)) G (aj g s i j o)) 13 (by kernel_rfl) (by kernel_rfl) (by kernel_rfl) (by kernel_rfl) (by kernel_rfl) (by decide) (ST.out.below (Below.refl _ _).drew) ?_;clear ST;simp only[List.take,List.drop];intro hne;have hc0:∀z:aT (za w p b off n L (X0 (.slice (some ⟨b,off,none⟩) n cap)) G (aj g s i j o)),z.W.cell? ⟨p,0,none⟩=some (.slice (some ⟨b,off,none⟩) n cap):=λz=>z.h.a.cell (i:=0) rfl
 repeat go_big_quiet_step (fail)
 refine aH rfl 23 (.tmp 29) rfl G 0 rfl (aa g s i j).toList _ (λW h=>At.lH h.s) Tryz.underlying23 rfl (by kernel_rfl) ?_;refine ae ?_
 go_big_quiet_want
 go_big_quiet_op
 refine⟨_,λs=>aG s (λW hW=>(mT.out W).mono λe w' h=>⟨h.1,hW.below h.2⟩),?_⟩
 go_big_quiet_on
 repeat go_big_quiet_step (fail)
 refine wpQuiet_nil ?_;intro w4 h4;have ST:=hid h4.out;clear h4 hne hc0;go_wp2_with fail;refine(bw 1 ((n:Int)==N) _).mono ?_;rintro e w5 ⟨hS,rfl⟩;rcases hS with⟨hct,rfl⟩|⟨hct,rfl⟩
 rotate_left
 ·exact⟨rfl,ST.out.gr,.inl ⟨tq.out.trans hct,rfl⟩⟩
 have wV:=hid (tq.out.trans hct);have TH:Hid ((n:Int)=N):=by show _=_;simpa using hct
 clear hct;go_wp2_with fail;have hpw:p<w.heap.size:=Pp.out;apply Vp.br 7 (λl i v W=>V3 p i v) (λl W=>za w p b off n L (RA (.slice (some ⟨b,off,none⟩) n cap) g s i j o (l 7) (l 10)) G (aj g s i j o) W/\(l 10=true->l 7=true)) (λW=>At W G 47 (aj g s i j o))
 case hm=>kernel_rfl
 case hd=>kernel_rfl
 case hpre=>kernel_rfl
 case hB=>kernel_rfl
 case hVl=>exactλl l' he i v W h=>h
 case hS=>exactλl l' W he h=>by rw[<-he 7 (by decide) (by decide),<-he 10 (by decide) (by decide)];exact h
 case hSC=>exactλl W h=>h.1.s
 case hVb=>exactλl i v W W' h hb=>h
 case hSb=>exactλl W W' h hb _=>⟨h.1.below hb,h.2⟩
 case h0=>exact⟨ST.out.below ⟨rfl,rfl,rfl,Nat.le_refl _,λ_ _=>rfl⟩,λe=>by cases e⟩
 case hwalk=>
  simp only[List.take];intro R hR hne
  repeat go_big_quiet_step (fail)
  refine aH rfl 47 (.tmp 2) rfl G 0 rfl (aj g s i j o).toList _ (λW h=>h.1.range) Tryz.underlying47 rfl (by kernel_rfl) ?_;refine ae ?_
  repeat go_big_quiet_step (fail)
  refine aH rfl 23 (.tmp 38) rfl G 0 rfl (aa g s i j).toList _ (λW h=>At.lH h.1) Tryz.underlying23 rfl (by kernel_rfl) ?_;refine ae ?_
  repeat go_big_quiet_step (fail)
  exact wpQuiet_nil rfl
 case hst=>
  simp only[List.drop];refine⟨?_,?_,?_,?_,trivial⟩
  ·intro l a W hl hu h
   have e1:a.tmps.getD 41 undef= .pointer (some ⟨p,1,none⟩):=(h.vals 6 41 (aq hu 6) rfl).pre (by decide) rfl;have e2:a.tmps.getD 37 undef= .agg (aj g s i j o):=(h.vals 2 37 (aq hu 2) rfl).pre (by decide) rfl;have hs:=h.st.1;have F3:l 10=false:=by
    cases h10:l 10 with
    |false=>rfl
    |true=>have:=h.st.2 h10;rw[hl] at this;cases this
   rw[hl,F3] at hs;refine Vm.step h (by kernel_rfl) rfl rfl rfl hl (Vl.gw 47 (.tmp 41) (.tmp 37) rfl p 1 (aj g s i j o) e1 e2 (hs.a.there 1 5 (show(1:Nat)+5<=16 by decide)) aR (eL _ _ _ _ _) ?_);refine⟨_,rfl,λi d _ hd hv'=>hv'.up λhi hv'=>hv',Vp.W.mk (by decide) trivial,?_,λ_=>rfl⟩;show za w p b off n L (RA _ g s i j o (true||_) (l 10)) G _ _;rw[F3];exact hs.put XS.out Pp.out 1 _ rfl
  ·intro l a W hl hu h
   have e1:a.tmps.getD 36 undef= .pointer (some ⟨p,0,none⟩):=(h.vals 1 36 (aq hu 1) rfl).pre (by decide) rfl;exact Vm.bB h (by kernel_rfl) rfl rfl rfl hl _ (Vl.mq (.tmp 36) rfl ⟨p,0,none⟩ e1) (λ_ _ hv=>hv.up λ_ hv=>hv) (Vp.W.mk (by decide) rfl) (λs=>s)
  ·intro l a W hl hu h
   have e1:a.tmps.getD 42 undef= .pointer (some ⟨p,0,none⟩):=(h.vals 8 42 (aq hu 8) rfl).post (by decide);exact Vm.bB h (by kernel_rfl) rfl rfl rfl hl _ (Vl.jM 105 (.tmp 42) 2 rfl e1 (by kernel_rfl)) (λ_ _ hv=>hv.up λ_ hv=>hv) (Vp.W.mk (by decide) rfl) (λs=>s)
  ·intro l a W hl hu h
   have e1:a.tmps.getD 43 undef= .pointer (some ⟨p,6,none⟩):=(h.vals 9 43 (aq hu 9) rfl).post (by decide);have e2:a.tmps.getD 39 undef= .agg (aa g s i j):=(h.vals 4 39 (aq hu 4) rfl).pre (by decide) rfl;have h7:l 7=true:=aq hu 7 (by kernel_rfl);have hs:=h.st.1;rw[h7,hl] at hs;refine Vm.step h (by kernel_rfl) rfl rfl rfl hl (Vl.gw 23 (.tmp 43) (.tmp 39) rfl p 6 (aa g s i j) e1 e2 (hs.a.there 6 4 (show(6:Nat)+4<=16 by decide)) (by kernel_rfl) (by kernel_rfl) ?_);refine⟨_,rfl,λi d _ hd hv'=>hv'.up λhi hv'=>hv',Vp.W.mk (by decide) trivial,?_,λ_=>h7⟩;exact hs.put XS.out Pp.out 6 _ rfl
 intro a' w8 h hall;have bO:=hall [42,43] (by kernel_rfl);clear hall;have e42:a'.tmps.getD 42 undef= .pointer (some ⟨p,0,none⟩):=(h.vals 8 42 rfl rfl).post (by decide);have e43:a'.tmps.getD 43 undef= .pointer (some ⟨p,6,none⟩):=(h.vals 9 43 rfl rfl).post (by decide);have tj:Hid (za w p b off n L (RA (.slice (some ⟨b,off,none⟩) n cap) g s i j o true true) G (aj g s i j o) w8):=h.st.1;rw[List.foldl_cons,List.foldl_cons,List.foldl_nil,e42,e43] at bO;simp only[Act.put,List.setIfInBounds_toArray,List.set_cons_succ,List.set_cons_zero] at bO;subst bO;clear h e42 e43 ST;go_wp2_with fail;have eE:aM g s i j=true:=by
  obtain⟨h1,h2,h3,h4,_⟩:=zd.out;rw[h1,h2,h3,h4];exact oq HE.out.symm
 have Jr:1<n:=by
  have h1:=TH.out;rw[HN.out,oV,if_pos eE] at h1;unfold aM at eE;simp only[decide_eq_true_eq] at eE;have h2:0<=g*s:=Int.mul_nonneg (by omega) (by omega);omega
 have Vn:(1:Int)<(n:Int):=by omega
 have A5:=hid eE;clear eE;apply Vp.br 11 (λl k v W=>V4 g s i j (L 1) w.heap.size p k v W) (λl W=>S4 w p b off n L (.slice (some ⟨b,off,none⟩) n cap) g s i j o G (l 17) W) (λW=>W.cell? ⟨p,0,none⟩=some (.slice (some ⟨b,off,none⟩) n cap)/\W.rangeAt p 6 (aa g s i j).toList/\aF W b off 256 n (dW L))
 case hm=>kernel_rfl
 case hd=>kernel_rfl
 case hpre=>kernel_rfl
 case hB=>kernel_rfl
 case hVl=>exactλl l' he i v W h=>h
 case hS=>exactλl l' W he h=>by rw[<-he 17 (by decide) (by decide)];exact h
 case hSC=>exactλl W h=>h.c
 case hVb=>exactλl i v W W' h hb=>h.below hb
 case hSb=>exactλl W W' h hb _=>h.below hb
 case h0=>exact⟨λ_=>tj.out.below ⟨rfl,rfl,rfl,Nat.le_refl _,λ_ _=>rfl⟩,λe=>by cases e⟩
 case hwalk=>
  simp only[List.take];intro R hR hne;have hc0:∀z:aT (λW=>(W.cell? ⟨p,0,none⟩=some (.slice (some ⟨b,off,none⟩) n cap)/\W.rangeAt p 6 (aa g s i j).toList/\aF W b off 256 n (dW L))/\R W),z.W.cell? ⟨p,0,none⟩=some (.slice (some ⟨b,off,none⟩) n cap):=λz=>z.h.1.1
  repeat go_big_quiet_step (fail)
  refine aH rfl 23 (.tmp 48) rfl p 6 rfl (aa g s i j).toList _ (λW h=>h.1.2.1) Tryz.underlying23 rfl (by kernel_rfl) ?_;refine ae ?_
  repeat go_big_quiet_step (fail)
  refine aH rfl 32 (.tmp 54) rfl b (off+1*256) rfl (dW L 1) _ (λW h=>aF.range h.1.2.2 1 Jr) Tryz.underlying32 rfl (by rw[aZ];exact au) ?_;refine ae ?_;exact wpQuiet_nil rfl
 case hst=>
  simp only[List.drop];refine⟨?_,?_,?_,?_,?_,?_,?_,?_,trivial⟩
  ·intro l a W hl hu h
   have e1:a.tmps.getD 49 undef=bN g s i j:=(h.vals 4 49 (aq hu 4) rfl).pre (by decide) rfl;have e2:a.tmps.getD 55 undef=aL (L 1):=(h.vals 10 55 (aq hu 10) rfl).pre (by decide) rfl;have hst:Tab W/\w.heap.size<=W.heap.size:=by
    cases ZV:l 17 with
    |false=>have:=h.st.no ZV;exact⟨this.t,this.gr.size⟩
    |true=>obtain⟨v,_,this⟩:=h.st.ye ZV;exact⟨this.t,this.gr.size⟩
   refine Vm.step h (by kernel_rfl) rfl rfl rfl hl (Vl.iQ 16 #[bN g s i j,aL (L 1)] (Vl.nr 16 (.tmp 49) (.tmp 55) _ _ _ rfl e1 e2 (by kernel_rfl)) ?_);refine(mh g s i j (L 1) (HL.out 1) W hst.1).mono ?_;rintro e W' ⟨v,E,rfl,hp,hb⟩;obtain⟨hv,rfl⟩:=E8 hp hst.2;exact⟨_,rfl,_,rfl,λi d _ _ hv=>hv.up λ_ hv=>hv.below hb,Vp.W.mk (by decide) ⟨v,rfl,hv⟩,h.st.below hb⟩
  ·intro l a W hl hu h
   obtain⟨v,e1,hv⟩:=(h.vals 11 56 (aq hu 11) rfl).post (by decide);exact Vm.bB h (by kernel_rfl) rfl rfl rfl hl _ (Vl.ea (.tmp 56) rfl e1) (λ_ _ hv=>hv.up λ_ hv=>hv) (Vp.W.mk (by decide) ⟨v,rfl,hv⟩) (λs=>s)
  ·intro l a W hl hu h
   obtain⟨v,e1,hv⟩:=(h.vals 12 44 (aq hu 12) rfl).post (by decide);exact Vm.bB h (by kernel_rfl) rfl rfl rfl hl _ (Vl.fu (.tmp 44) 0 _ rfl e1 rfl) (λ_ _ hv=>hv.up λ_ hv=>hv) (Vp.W.mk (by decide) hv) (λs=>s)
  ·intro l a W hl hu h
   obtain⟨v,e1,hv⟩:=(h.vals 12 44 (aq hu 12) rfl).post (by decide);exact Vm.bB h (by kernel_rfl) rfl rfl rfl hl _ (Vl.fu (.tmp 44) 1 _ rfl e1 rfl) (λ_ _ hv=>hv.up λ_ hv=>hv) (Vp.W.mk (by decide) rfl) (λs=>s)
  ·intro l a W hl hu h
   have e1:a.tmps.getD 45 undef= .pointer (some ⟨p,0,none⟩):=(h.vals 0 45 (aq hu 0) rfl).pre (by decide) rfl;exact Vm.bB h (by kernel_rfl) rfl rfl rfl hl _ (Vl.mq (.tmp 45) rfl ⟨p,0,none⟩ e1) (λ_ _ hv=>hv.up λ_ hv=>hv) (Vp.W.mk (by decide) rfl) (λs=>s)
  ·intro l a W hl hu h
   have e1:a.tmps.getD 59 undef= .pointer (some ⟨p,0,none⟩):=(h.vals 15 59 (aq hu 15) rfl).post (by decide);exact Vm.bB h (by kernel_rfl) rfl rfl rfl hl _ (Vl.jM 105 (.tmp 59) 3 rfl e1 (by kernel_rfl)) (λ_ _ hv=>hv.up λ_ hv=>hv) (Vp.W.mk (by decide) rfl) (λs=>s)
  ·intro l a W hl hu h
   have e1:a.tmps.getD 60 undef= .pointer (some ⟨p,10,none⟩):=(h.vals 16 60 (aq hu 16) rfl).post (by decide);have hv:tp g s i j (L 1) w.heap.size (a.tmps.getD 57 undef) W:=(h.vals 13 57 (aq hu 13) rfl).post (by decide);have hs:=h.st.no hl;have ho:an p W (W.setCell ⟨p,10,none⟩ (a.tmps.getD 57 undef)):=an.setCell W ⟨p,10,none⟩ _;refine Vm.step h (by kernel_rfl) rfl rfl rfl hl (Vl.q9 51 (.tmp 60) (.tmp 57) rfl p 10 (a.tmps.getD 57 undef) (.slice none 0 0) e1 rfl (hs.a.cell (i:=10) rfl) (ag hs.a 10) yi hv.form ?_);refine⟨_,rfl,λi d _ hd hv'=>hv'.up λhi hv'=>V4.map hv' λv hv=>hv.only ho Pp.out,Vp.W.mk (by decide) trivial,⟨(λe=>by have e:true=false:=e;cases e),λ_=>⟨_,hv.only ho Pp.out,hs.put XS.out Pp.out 10 [_] rfl⟩⟩⟩
  ·intro l a W hl hu h
   have e1:a.tmps.getD 58 undef= .int .i64 (jL g s i j (L 1)):=(h.vals 14 58 (aq hu 14) rfl).post (by decide);exact Vm.bB h (by kernel_rfl) rfl rfl rfl hl _ (Vl.qS (.tmp 58) rfl e1) (λ_ _ hv=>hv.up λ_ hv=>hv) (Vp.W.mk (by decide) rfl) (λs=>s)
 intro a' w9 h hall;have bO:=hall [56,44,57,58,59,60,3] (by kernel_rfl);clear hall;obtain⟨v11,Z9,_⟩:=(h.vals 11 56 rfl rfl).post (by decide);obtain⟨v12,e44,_⟩:=(h.vals 12 44 rfl rfl).post (by decide);obtain⟨v13,Z8⟩:∃v,a'.tmps.getD 57 undef=v:=⟨_,rfl⟩;have Z7:a'.tmps.getD 58 undef= .int .i64 (jL g s i j (L 1)):=(h.vals 14 58 rfl rfl).post (by decide);have Z6:a'.tmps.getD 59 undef= .pointer (some ⟨p,0,none⟩):=(h.vals 15 59 rfl rfl).post (by decide);have Z5:a'.tmps.getD 60 undef= .pointer (some ⟨p,10,none⟩):=(h.vals 16 60 rfl rfl).post (by decide);have e3:a'.tmps.getD 3 undef= .int .i64 (jL g s i j (L 1)):=(h.vals 18 3 rfl rfl).post (by decide);obtain⟨v,hv,hs⟩:=h.st.ye rfl;have HV:=hid hv;have nW:=hid hs;rw[List.foldl_cons,List.foldl_cons,List.foldl_cons,List.foldl_cons,List.foldl_cons,List.foldl_cons,List.foldl_cons,List.foldl_nil,Z9,e44,Z8,Z7,Z6,Z5,e3] at bO;simp only[Act.put,List.setIfInBounds_toArray,List.set_cons_succ,List.set_cons_zero] at bO;subst bO;clear h Z9 e44 Z8 Z7 Z6 Z5 e3 hv hs tj;obtain⟨E,hE⟩:∃E,E=jL g s i j (L 1):=⟨_,rfl⟩;have Pw:Hid ((E==0)=il g s i j (L 1)):=by show _=_;rw[hE,tJ]
 rw[<-hE];clear hE;go_wp2_with fail;refine(bw 2 (E==0) _).mono ?_;rintro e po ⟨hS,rfl⟩;have eE:=A5.out;unfold aM at eE;simp only[decide_eq_true_eq] at eE;obtain⟨h1,h2,h3,h4,h5⟩:=zd.out;have o0:0<=o:=by rw[h5];exact(dA (HL.out 0) 16).1
 have eg:(Im.of L n).g=g.toNat:=by rw[h1];rfl
 have e1:(((Im.of L n).g:Nat):Int)=g:=by rw[eg];exact Int.toNat_of_nonneg (by omega)
 have e2:(((Im.of L n).s:Nat):Int)=s:=by rw[h2];exact Int.toNat_of_nonneg (by rw[<-h2];omega)
 have e3:(((Im.of L n).i:Nat):Int)=i:=by rw[h3];exact Int.toNat_of_nonneg (by rw[<-h3];omega)
 have e4:(((Im.of L n).j:Nat):Int)=j:=by rw[h4];exact Int.toNat_of_nonneg (by rw[<-h4];omega)
 have e5:(((Im.of L n).o:Nat):Int)=o:=by rw[h5];exact Int.toNat_of_nonneg (by rw[<-h5];omega)
 have DE:(Im.of L n).BV=il g s i j (L 1):=by
  show il (((Im.of L n).g:Nat):Int) (((Im.of L n).s:Nat):Int) (((Im.of L n).i:Nat):Int) (((Im.of L n).j:Nat):Int) (L 1)=_;rw[e1,e2,e3,e4]
 have D4:Hid ((Im.of L n).BV=(E==0)):=DE.trans Pw.out.symm;rcases hS with⟨hct,rfl⟩|⟨hct,rfl⟩
 rotate_left
 ·exact⟨rfl,nW.out.gr,.inr (.inl ⟨wV.out,D4.out.trans hct,rfl⟩)⟩
 have hP:y9 w p b off n cap L (.returned (.tuple #[])) w9:=by
  refine⟨nW.out.gr,.inr (.inr ⟨wV.out,D4.out.trans hct,rfl,?_⟩)⟩;have hok:il g s i j (L 1)=true:=Pw.out.symm.trans hct;rcases HV.out with⟨_,hm⟩|⟨hno,_⟩
  ·obtain⟨db,dc,rfl,hlo,hlt,_⟩:=ah.nM hm (by omega)
   refine⟨db,dc,hlo,hlt,?_,?_⟩
   ·have hA:=nW.out.a
    show At w9 p _ (qn _ (((Im.of L n).g:Nat):Int) (((Im.of L n).s:Nat):Int) (((Im.of L n).i:Nat):Int) (((Im.of L n).j:Nat):Int) (((Im.of L n).o:Nat):Int) _ _ _ _ _ _);rw[e1,e2,e3,e4,e5,eg];exact hA
   ·rw[eg];exact ah.bI hm (λ_=>rfl)
  ·rw[hno] at hok;cases hok
 clear nW HV hct e1 e2 e3 e4 e5 eg DE h1 h2 h3 h4 h5 eE o0;go_wp2_with fail;exact bodyPost_end (results_none rfl _ _ _) rfl hP
theorem Im.K0{n:Nat}(hL:∀i,bm (L i))(h:(Im.of L n).sE=true):(Im.of L n).Ok:=by
 unfold Im.sE at h;simp only[Bool.and_eq_true,decide_eq_true_eq,beq_iff_eq] at h;obtain⟨_,h1,h2⟩:=h;have hm:aM (hd (L 0) 4) (hd (L 0) 5) (hd (L 0) 6) (hd (L 0) 7)=true:=oq (z:=L 0) h1;have h2:(n:Int)=oV (hd (L 0) 4) (hd (L 0) 5) (hd (L 0) 6) (hd (L 0) 7):=h2;rw[oV,if_pos hm] at h2;have hm2:=hm;unfold aM at hm2;simp only[decide_eq_true_eq] at hm2;have e1:(((Im.of L n).g:Nat):Int)=hd (L 0) 4:=Int.toNat_of_nonneg (by omega);have e2:(((Im.of L n).s:Nat):Int)=hd (L 0) 5:=Int.toNat_of_nonneg (by omega);have e3:(((Im.of L n).i:Nat):Int)=hd (L 0) 6:=Int.toNat_of_nonneg (by omega);have e4:(((Im.of L n).j:Nat):Int)=hd (L 0) 7:=Int.toNat_of_nonneg (by omega);have ho:=dA (hL 0) 16;have e5:(((Im.of L n).o:Nat):Int)=b9 (L 0) 16:=Int.toNat_of_nonneg ho.1;refine⟨hL,?_,?_,by omega⟩
 ·rw[e1,e2,e3,e4];exact hm
 ·have:(n:Int)=((2+(Im.of L n).j+(Im.of L n).g*(Im.of L n).s:Nat):Int):=by
   rw[h2,<-e1,<-e2,<-e4,Int.natCast_add,Int.natCast_add,Int.natCast_mul];rfl
  exact Int.ofNat.inj this
theorem yS(p cap:Nat)(a:Option Addr)(L:Nat->Nat->Int)(w:World)(hA:At w p 105 (X0 (.slice a 0 cap))):
  Calls Tryz.prog 76 #[.pointer (some ⟨p,0,none⟩)] w λe w'=>(Im.of L 0).sE=false/\e= .panicked (r8 1)/\w=w':=by
 have c0:w.cell? ⟨p,0,none⟩=some (.slice a 0 cap):=hA.cell (i:=0) rfl;clear hA;go_enter Tryz.func76,Tryz.ntmps76;go_wp2_with fail;refine(gU 1 _).mono ?_;rintro e w1 ⟨rfl,rfl⟩;exact⟨rfl,rfl,rfl,rfl⟩
namespace Im
theorem J4{t:Nat}(h:x.j1 t=true)(h1:1<=t)(h2:t<=x.ni):(x.ino t).ki:=by
 unfold j1 at h;rw[Bool.and_eq_true,beq_iff_eq] at h;have h0:=h.1;unfold dQ at h0;unfold ino;rw[if_pos ⟨h1,h2⟩];unfold dP;split at h0
 ·rename_i hp
  split at h0
  ·rename_i hg
   rw[if_pos hp,if_pos hg];unfold dO at hg;simp only[Bool.and_eq_true,decide_eq_true_eq] at hg;exact hg.2.2
  ·cases h0
 ·cases h0
theorem B4(h:aD (λt=>x.j1 (t+1)) x.ni=true)(t:Nat)(h1:1<=t)(h2:t<=x.ni):(x.ino t).ki:=by
 have:=(aP _ _).1 h (t-1) (by omega);rw[show t-1+1=t by omega] at this;exact J4 this h1 h2
end Im
theorem pd(g:Nat)(x k:Int)(w:World)(hc:w.cell? ⟨g,0,none⟩=some (.int .i64 x))(hz:w.frozen? ⟨g,0,none⟩=false):
  CallsD Tryz.prog 75 #[.pointer (some ⟨g,0,none⟩)] (.panicking (r8 k)) w λe u' w'=>
   e= .returned (.tuple #[])/\u'= .panicking [{v:=.iface 158 (.int .i64 k),recovered:=true}]/\w'=w.setCell ⟨g,0,none⟩ (.int .i64 k):=by
 refine callsD_of_wpS Tryz.func75 rfl λc₀ cs hu=> ?_
 apply wpS_seq;apply wpS_region;simp[wpOpsS,go_sem,recoverD,hu,r8,Tryz.ntmps75,Exit.thenS];apply wpS_seq;apply wpS_region;simp[wpOpsS,go_sem,Exit.thenS];refine wpS_cond (t:=true) (by simp[Act.eval,Array.replicate]) ?_;simp only[if_true];refine wpS_of_wp ?_;simp only[Array.replicate,List.replicate,List.setIfInBounds_toArray,List.append_toArray,List.set_cons_succ,List.set_cons_zero,List.cons_append,List.nil_append];have Lg:∀W,(Instr.typeAssert (.iface 158 (.int .i64 k)) 20 158 true).run Tryz.prog W= .ok (.tuple #[.int .i64 k,.bool true]) W:=λW=>by kernel_rfl
 go_wp2_with fail;simp[bodyPostS,results,Tryz.results75]
theorem wv(g:Nat)(w:World):
  CallsD Tryz.prog 75 #[.pointer (some ⟨g,0,none⟩)] .returning w λe u' w'=>e= .returned (.tuple #[])/\u'= .returning/\w'=w:=by
 refine callsD_of_wpS Tryz.func75 rfl λc₀ cs hu=> ?_
 apply wpS_seq;apply wpS_region;simp[wpOpsS,go_sem,recoverD,hu,Tryz.ntmps75,Exit.thenS];apply wpS_seq;apply wpS_region;simp[wpOpsS,go_sem,Exit.thenS];refine wpS_cond (t:=false) (by simp[Act.eval,Array.replicate]) ?_;simp only[Bool.false_eq_true,if_false];refine wpS_of_wp (wp_skip ?_);cases c₀
 simp_all[bodyPostS,results,Tryz.results75]
theorem tt(W:World):(zeroValue 105).run Tryz.prog W= .ok (.agg (X0 (.slice none 0 0))) W:=by kernel_rfl
theorem rU{W:World}{k:Int}(h2:tmps[2]?.getD undef= .pointer (some ⟨p,0,none⟩))(h3:tmps[3]?.getD undef= .pointer (some ⟨R,0,none⟩))(hR:W.cell? ⟨R,0,none⟩=some (.int .i64 k)):
  (results Tryz.f37 tmps).run Tryz.prog W= .ok (.tuple #[.pointer (some ⟨p,0,none⟩),.int .i64 k]) W:=by
 simp[results,Tryz.results37,go_sem,h2,h3,hR]
theorem di{W:World}{k:Int}(h2:tmps[2]?.getD undef= .pointer (some ⟨p,0,none⟩))(h3:tmps[3]?.getD undef= .pointer (some ⟨R,0,none⟩))(hR:At W R 3 #[.int .i64 0])
  (hQ:Q (.returned (.tuple #[.pointer (some ⟨p,0,none⟩),.int .i64 k])) (W.setCell ⟨R,0,none⟩ (.int .i64 k))):
  Leaves Tryz.prog Tryz.f37 tmps Q [{target:=.fn (.func 75) #[.pointer (some ⟨R,0,none⟩)],args:=#[]}] (.panicking (r8 k)) W:=by
 refine leaves_cons (f:=75) (args:=#[.pointer (some ⟨R,0,none⟩)]) (by simp) (by simp[go_sem]) ?_;refine(pd R 0 k W (hR.cell (i:=0) rfl) (ag hR 0)).mono ?_;rintro e u' w'' ⟨rfl,rfl,rfl⟩;exact⟨_,rU h2 h3 ((hR.setCell 0 (.int .i64 k)).cell (i:=0) rfl),hQ⟩
theorem JT{W:World}{k:Int}(h2:tmps[2]?.getD undef= .pointer (some ⟨p,0,none⟩))(h3:tmps[3]?.getD undef= .pointer (some ⟨R,0,none⟩))(hR:W.cell? ⟨R,0,none⟩=some (.int .i64 k))
  (hQ:Q (.returned (.tuple #[.pointer (some ⟨p,0,none⟩),.int .i64 k])) W):
  Leaves Tryz.prog Tryz.f37 tmps Q [{target:=.fn (.func 75) #[.pointer (some ⟨R,0,none⟩)],args:=#[]}] .returning W:=by
 refine leaves_cons (f:=75) (args:=#[.pointer (some ⟨R,0,none⟩)]) (by simp) (by simp[go_sem]) ?_;refine(wv R W).mono ?_;rintro e u' w'' ⟨rfl,rfl,rfl⟩;exact⟨_,rU h2 h3 hR,hQ⟩
theorem rZ(a:Option Addr)(cap:Nat)(L:Nat->Nat->Int)(w:World):Calls Tryz.prog 37 #[.slice a 0 cap] w λe w'=>(∃p,e= .returned (.tuple #[.pointer (some ⟨p,0,none⟩),.int .i64 1]))/\Below w.heap.size w w':=by
 have YH:∀(fn:Fn) (first cap:Array Value) (w:World),(Instr.makeFunc fn first cap).run Tryz.prog w= .ok (.func fn first cap) w:=λ_ _ _ _=>rfl
 have hz:=tt;have hA:=At.new (w.alloc (.cells #[.int .i64 0] 3)) 105 (X0 (.slice a 0 cap));have hG:=(At.new w 3 #[.int .i64 0]).alloc (.cells (X0 (.slice a 0 cap)) 105);rw[World.size_alloc] at hA
 go_enter_defers Tryz.func37,Tryz.ntmps37
 go_wp2_with fail;refine(yS (w.heap.size+1) cap a L _ hA).mono ?_;rintro e w1 ⟨_,rfl,rfl⟩;refine leaves_cons (f:=75) (args:=#[.pointer (some ⟨w.heap.size,0,none⟩)]) (by simp) (by simp[go_sem]) ?_;refine(pd w.heap.size 0 1 _ (hG.cell (i:=0) rfl) (ag hG 0)).mono ?_;rintro e u' w'' ⟨rfl,rfl,rfl⟩;simp[Leaves,settle,results,Tryz.results37,go_sem];exact((Below.refl _ _).alloc (Nat.le_refl _) _).alloc (by simp) _
namespace Im
variable {x:Im}
theorem rT(h:x.sE=false):x.aN=(1,λ_=>0):=by unfold aN;rw[if_pos h]
theorem Gv(h1:x.sE=true)(h:x.BV=false):x.aN=(2,λ_=>0):=by unfold aN;rw[if_neg (by rw[h1];decide),if_pos h]
def O7(x:Im)(o:Nat->Nat)(u:Nat->List Nat):Nat×(Nat->Nat):=
 if aD (λt=>x.gL u (t+1)) x.ni=false then(10,λ_=>0) else if aD (x.jd (x.reach u)) (x.ni+1)=false then(11,λ_=>0)
    else if aD x.jc x.g=false then(12,λ_=>0) else(0,o)
def Rp(x:Im)(o:Nat->Nat):Nat×(Nat->Nat):=if aD (x.uw o) x.g=false then(8,λ_=>0) else match x.mI with
   |none=>(9,λ_=>0)
   |some u=>O7 x o u
def Tv(x:Im)(m:Nat->Bool):Nat×(Nat->Nat):=match x.trees m with
  |none=>(7,λ_=>0)
  |some o=>Rp x o
def Tw(x:Im):Nat×(Nat->Nat):=match x.mx with
 |none=>(6,λ_=>0)
 |some m=>if aD (λt=>x.th m (t+1)) x.ni=false then(6,λ_=>0) else Tv x m
theorem qe(h1:x.sE=true)(h2:x.BV=true):x.aN=if aD x.qi x.g=false then(3,λ_=>0)
 else if aD (λt=>x.j1 (t+1)) x.ni=false then(4,λ_=>0) else if(x.ino 1).kind≠2 then(5,λ_=>0) else Tw x:=by
 unfold aN;rw[if_neg (by rw[h1];decide),if_neg (by rw[h2];decide)];rfl
theorem Gu(h1:x.sE=true)(h2:x.BV=true)(h:aD x.qi x.g=false):x.aN=(3,λ_=>0):=by rw[qe h1 h2,if_pos h]
theorem Gt(h1:x.sE=true)(h2:x.BV=true)(h3:aD x.qi x.g=true)(h:aD (λt=>x.j1 (t+1)) x.ni=false):x.aN=(4,λ_=>0):=by
 rw[qe h1 h2,if_neg (by rw[h3];decide),if_pos h]
theorem Gs(h1:x.sE=true)(h2:x.BV=true)(h3:aD x.qi x.g=true)(h4:aD (λt=>x.j1 (t+1)) x.ni=true)(h:((x.ino 1).kind==2)=false):x.aN=(5,λ_=>0):=by
 rw[qe h1 h2,if_neg (by rw[h3];decide),if_neg (by rw[h4];decide),if_pos (λe=>by rw[e] at h;cases h)]
structure Ei(x:Im):Prop where
 h1:x.sE=true
 h2:x.BV=true
 h3:aD x.qi x.g=true
 h4:aD (λt=>x.j1 (t+1)) x.ni=true
 h5:((x.ino 1).kind==2)=true
theorem Ei.aN(h:Ei x):x.aN=Tw x:=by
 rw[qe h.h1 h.h2,if_neg (by rw[h.h3];decide),if_neg (by rw[h.h4];decide),if_neg (λe=>e (by have:=h.h5;rwa[beq_iff_eq] at this))]
theorem Ei.Ye(h:Ei x)(k:x.vC=false):x.aN=(6,λ_=>0):=by
 rw[h.aN];unfold vC at k;unfold Tw;cases ho:x.mx with
 |none=>rfl
 |some m=>rw[ho] at k;exact if_pos k
theorem Ei.X8(h:Ei x)(k:x.vC=true)(hm:x.mx=some m):x.aN=Tv x m:=by
 rw[h.aN];unfold Tw;rw[hm];unfold vC at k;rw[hm] at k
 replace k:aD (λt=>x.th m (t+1)) x.ni=true:=k
 show(if aD (λt=>x.th m (t+1)) x.ni=false then _ else _)=_;rw[if_neg (by rw[k];decide)]
structure LI(x:Im)(o:Nat->Nat):Prop where
 e:x.aN=Rp x o
theorem Ei.Yd(h:Ei x)(k:x.vC=true)(hm:x.mx=some m)(ht:x.trees m=none):x.aN=(7,λ_=>0):=by rw[h.X8 k hm];unfold Tv;rw[ht]
theorem Ei.X7(h:Ei x)(k:x.vC=true)(hm:x.mx=some m)(ht:x.trees m=some o):LI x o:=⟨by rw[h.X8 k hm];unfold Tv;rw[ht]⟩
theorem LI.Yc(h:LI x o)(k:aD (x.uw o) x.g=false):x.aN=(8,λ_=>0):=by rw[h.e];unfold Rp;rw[if_pos k]
theorem LI.Yb(h:LI x o)(k:aD (x.uw o) x.g=true)(hd:x.mI=none):x.aN=(9,λ_=>0):=by rw[h.e];unfold Rp;rw[if_neg (by rw[k];decide),hd]
structure Kr(x:Im)(o:Nat->Nat)(u:Nat->List Nat):Prop where
 e:x.aN=O7 x o u
theorem LI.X6(h:LI x o)(k:aD (x.uw o) x.g=true){u:Nat->List Nat}(hd:x.mI=some u):Kr x o u:=⟨by rw[h.e];unfold Rp;rw[if_neg (by rw[k];decide),hd]⟩
theorem Kr.P2{u:Nat->List Nat}(h:Kr x o u)(k:aD (λt=>x.gL u (t+1)) x.ni=false):x.aN=(10,λ_=>0):=by rw[h.e];unfold O7;rw[if_pos k]
theorem Kr.P1{u:Nat->List Nat}(h:Kr x o u)(k:aD (λt=>x.gL u (t+1)) x.ni=true)(k2:aD (x.jd (x.reach u)) (x.ni+1)=false):x.aN=(11,λ_=>0):=by
 rw[h.e];unfold O7;rw[if_neg (by rw[k];decide),if_pos k2]
theorem Kr.P0{u:Nat->List Nat}(h:Kr x o u)(k:aD (λt=>x.gL u (t+1)) x.ni=true)(k2:aD (x.jd (x.reach u)) (x.ni+1)=true)(k3:aD x.jc x.g=false):x.aN=(12,λ_=>0):=by
 rw[h.e];unfold O7;rw[if_neg (by rw[k];decide),if_neg (by rw[k2];decide),if_pos k3]
theorem Kr.yes{u:Nat->List Nat}(h:Kr x o u)(k:aD (λt=>x.gL u (t+1)) x.ni=true)(k2:aD (x.jd (x.reach u)) (x.ni+1)=true)(k3:aD x.jc x.g=true):x.aN=(0,o):=by
 rw[h.e];unfold O7;rw[if_neg (by rw[k];decide),if_neg (by rw[k2];decide),if_neg (by rw[k3];decide)]
end Im
structure KL(w:World)(W:World):Prop where
 r:At W w.heap.size 3 #[.int .i64 0]
 bel:Below w.heap.size w W
theorem KL.grown{W:World}(h:KL w W)(hg:W.grownBy W' (some (w.heap.size+1))):KL w W':=
 ⟨h.r.fF hg (by omega),h.bel.trans (rO hg h.bel.size (λk e=>by injection e with e;omega))⟩
theorem KL.below{W:World}(h:KL w W)(hb:Below W.heap.size W W'):KL w W':=⟨h.r.below hb h.r.lt,h.bel.trans (hb.mono h.bel.size)⟩
def wU(W:World)(v:Value)(n:Nat)(L:Nat->Nat->Int):Prop:=
 ∃a cap,v= .slice a n cap/\(0<n->∃b off,a=some ⟨b,off,none⟩/\b<W.heap.size/\aF W b off 256 n (dW L))
theorem wU.below{W:World}{n:Nat}(h:wU W v n L)(hb:Below W.heap.size W W'):wU W' v n L:=by
 obtain⟨a,cap,rfl,h⟩:=h;exact⟨a,cap,rfl,λhn=>by obtain⟨b,off,e,hl,hs⟩:=h hn;exact⟨b,off,e,Nat.lt_of_lt_of_le hl hb.size,aF.below hs hb hl⟩⟩
def eA(w:World)(v:Value)(n:Nat)(L:Nat->Nat->Int)(e:Ending)(w':World):Prop:=
 ∃p,e= .returned (.tuple #[.pointer (some ⟨p,0,none⟩),.int .i64 (((Im.of L n).aN.1:Nat):Int)])/\Below w.heap.size w w'/\
  ((Im.of L n).aN.1=0->(Im.of L n).Ok/\∃ds ino ak sl un g,At w' p 105 (qn v (Im.of L n).g (Im.of L n).s (Im.of L n).i (Im.of L n).j (Im.of L n).o ds ino ak (.slice (some ⟨g,0,none⟩) n n) sl un)/\az w' g 3 1 n (mw (Im.of L n).aN.2)/\w.heap.size<=g/\p≠g)
theorem eA.no{W:World}{n:Nat}{K:Int}(hK:K=(k:Int))(hk:k≠0)(h:(Im.of L n).aN=(k,λ_=>0))(hM:KL w W):
  eA w v n L (.returned (.tuple #[.pointer (some ⟨p,0,none⟩),.int .i64 K])) (W.setCell ⟨w.heap.size,0,none⟩ (.int .i64 K)):=
 ⟨p,by rw[h,hK],hM.bel.trans ((an.setCell W ⟨w.heap.size,0,none⟩ _).below (Nat.le_refl _)),λe=>by rw[h] at e;exact absurd e hk⟩
theorem sG.grown{W:World}{base ug n:Nat}{u:Nat->List Nat}(h:sG w base ug n u)(hA:At w p 105 cs)(hup:ug≠p)(hg:w.grownBy W (some p)):sG W base ug n u:=by
 obtain⟨a,c,h1,h2⟩:=h;refine⟨a,c,h1.grown hg (λe=>by injection e with e;exact hup e),λt ht=>World.ownsRow.kept (h2 t ht) hg ?_⟩;cases h3:(Value.slice (a t) (u t).length (c t)).ownBlock with
 |none=>exact .inl rfl
 |some r=>exact .inr (λe=>dw hA (h2 t ht) (by decide) (by rw[h3];exact e))
structure G6(w:World)(b off cap:Nat)(x:Im)(ds ino ak own sl un:Value)(db:Nat)(W:World):Prop where
 m:KL w W
 a:At W (w.heap.size+1) 105 (XC b off cap x ds ino ak own sl un)
 i:aF W b off 256 x.n (dW x.L)
 d:aF W db 0 3 x.g (df (rB (x.L 1)) (rI (x.L 1)) (rD (x.L 1)))
 dl:w.heap.size+2<=db/\db<W.heap.size
 bl:b<w.heap.size
section
variable {w:World} {b off cap:Nat} {x:Im} {ds ino ak own sl un:Value} {db:Nat} {W W':World}
theorem G6.lt(h:G6 w b off cap x ds ino ak own sl un db W):w.heap.size+1<W.heap.size/\b<W.heap.size/\b≠w.heap.size+1:=by
 have h1:=h.a.lt;have h2:=h.bl;exact⟨h1,by omega,by omega⟩
theorem G6.below(h:G6 w b off cap x ds ino ak own sl un db W)(hb:Below W.heap.size W W'):G6 w b off cap x ds ino ak own sl un db W':=
 ⟨h.m.below hb,h.a.below hb h.a.lt,aF.below h.i hb h.lt.2.1,aF.below h.d hb h.dl.2,⟨h.dl.1,Nat.lt_of_lt_of_le h.dl.2 hb.size⟩,h.bl⟩
theorem G6.grown(h:G6 w b off cap x ds ino ak own sl un db W)(hg:W.grownBy W' (some (w.heap.size+1))){Qd PX PW sl' X4:Value}(ha:At W' (w.heap.size+1) 105 (XC b off cap x ds Qd PX PW sl' X4)):G6 w b off cap x ds Qd PX PW sl' X4 db W':=
 ⟨h.m.grown hg,ha,aF.fF h.i hg h.lt.2.1 (λe=>by injection e with e;exact h.lt.2.2 e),aF.fF h.d hg h.dl.2 (λe=>by injection e with e;have:=h.dl.1;omega),⟨h.dl.1,Nat.lt_of_lt_of_le h.dl.2 hg.size⟩,h.bl⟩
theorem G6.LB(h:G6 w b off cap x ds ino ak own sl un db W){q:Nat}(hr:az W q 63 16 (x.ni+1) (jv x)):ji W (w.heap.size+1) b off x (XC b off cap x ds ino ak own sl un) q W:=
 ⟨h.a,h.i,hr,h.lt.2.1,bq (Below.refl _ _)⟩
end
theorem tf(b off n cap:Nat)(L:Nat->Nat->Int)(hL:∀i,bm (L i))(hn:0<n)(fY:n<=4294967296)(w:World)(hT:Tab w)(rL:b<w.heap.size)(hi:aF w b off 256 n (dW L)):
  Calls Tryz.prog 37 #[.slice (some ⟨b,off,none⟩) n cap] w λe w'=>eA w (.slice (some ⟨b,off,none⟩) n cap) n L e w':=by
 have YH:∀(fn:Fn) (first cap:Array Value) (w:World),(Instr.makeFunc fn first cap).run Tryz.prog w= .ok (.func fn first cap) w:=λ_ _ _ _=>rfl
 have hz:=tt;have hA0:=At.new (w.alloc (.cells #[.int .i64 0] 3)) 105 (X0 (.slice (some ⟨b,off,none⟩) n cap));have Zs:=(At.new w 3 #[.int .i64 0]).alloc (.cells (X0 (.slice (some ⟨b,off,none⟩) n cap)) 105);have hb0:Below w.heap.size w ((w.alloc (.cells #[.int .i64 0] 3)).alloc (.cells (X0 (.slice (some ⟨b,off,none⟩) n cap)) 105)):=((Below.refl _ _).alloc (Nat.le_refl _) _).alloc (by simp) _;rw[World.size_alloc] at hA0;have hi0:=aF.below hi hb0 rL;have hT0:=hT.below hb0 (Nat.le_refl _);have H0:=hid (And.intro hA0 (And.intro (KL.mk Zs hb0) (And.intro hi0 hT0)));clear hA0 Zs hb0 hi0 hT0 hi hT
 go_enter_defers Tryz.func37,Tryz.ntmps37
 go_wp2_with fail;refine(AO (w.heap.size+1) b off n cap L hL hn fY _ H0.out.2.2.2 (by rw[World.size_alloc,World.size_alloc];omega) (by omega) H0.out.1 H0.out.2.2.1).mono ?_;rintro e w1 ⟨hg1,hp⟩;have M1:=hid (H0.out.2.1.grown hg1);have hi1:=aF.fF H0.out.2.2.1 hg1 (by rw[World.size_alloc,World.size_alloc];omega) (λe=>by injection e with e;omega);have hsz:w.heap.size+2<=(((w.alloc (.cells #[.int .i64 0] 3)).alloc (.cells (X0 (.slice (some ⟨b,off,none⟩) n cap)) 105)):World).heap.size:=by simp
 clear H0;rcases hp with⟨h1,rfl⟩|⟨h1,h2,rfl⟩|⟨h1,h2,rfl,db,dc,pZ,JB,gJ,ZA⟩
 ·exact di rfl rfl M1.out.r (eA.no rfl (by decide) (Im.rT h1) M1.out)
 ·exact di rfl rfl M1.out.r (eA.no rfl (by decide) (Im.Gv h1 h2) M1.out)
 have hx:=Im.K0 hL h1;have HX:=hid hx;have HH:=hid (And.intro h1 h2);have S1:Hid (G6 w b off cap (Im.of L n) (.slice (some ⟨db,0,none⟩) (Im.of L n).g dc) (.slice none 0 0) (.slice none 0 0) (.slice none 0 0) (.slice none 0 0) (.slice none 0 0) db w1):=⟨M1.out,gJ,hi1,ZA,⟨by omega,JB⟩,rL⟩;clear M1 hg1 hi1 hsz h1 h2 pZ JB gJ ZA hx rL;go_wp2_with fail;refine(tg (w.heap.size+1) b off cap (Im.of L n) HX.out _ _ _ _ _ _ w1 S1.out.a S1.out.i).mono ?_;rintro e w2 ⟨hS,hb2⟩;have S2:=hid (S1.out.below hb2);clear S1 hb2;rcases hS with⟨h3,rfl⟩|⟨h3,rfl⟩
 rotate_left
 ·exact di rfl rfl S2.out.m.r (eA.no rfl (by decide) (Im.Gu HH.out.1 HH.out.2 h3) S2.out.m)
 have H3:=hid h3;clear h3;go_wp2_with fail;refine(wo (w.heap.size+1) b off cap (Im.of L n) HX.out _ _ _ _ _ w2 S2.out.a S2.out.i S2.out.lt.2.2).mono ?_;rintro e w3 ⟨hS,hg3,hq⟩;rcases hS with⟨h4,rfl⟩|⟨h4,rfl⟩
 rotate_left
 ·exact di rfl rfl (S2.out.m.grown hg3).r (eA.no rfl (by decide) (Im.Gt HH.out.1 HH.out.2 H3.out h4) (S2.out.m.grown hg3))
 obtain⟨q,Av,ZF,DG⟩:=hq h4;have S3:=hid (S2.out.grown hg3 ZF);have R3:=hid DG;have HQ:Hid (q≠w.heap.size+1/\b≠q):=⟨by have:=S2.out.lt;omega,by have:=S2.out.lt;omega⟩;have H4:=hid h4;have hni:1<=(Im.of L n).ni:=Nat.mul_pos (by have:=(dL HX.out.may).1;omega) (by have:=dL HX.out.may;omega);have KG:=hid hni;clear S2 hg3 Av ZF DG h4 hq hni;go_wp2_with fail;refine(AN (w.heap.size+1) b off cap (Im.of L n) _ _ _ _ _ q w3 KG.out (S3.out.LB R3.out)).mono ?_;rintro e w4 ⟨hS,rfl⟩;rcases hS with⟨h5,rfl⟩|⟨h5,rfl⟩
 rotate_left
 ·exact di rfl rfl S3.out.m.r (eA.no rfl (by decide) (Im.Gs HH.out.1 HH.out.2 H3.out H4.out h5) S3.out.m)
 have T5:Hid (Im.Ei (Im.of L n)):=⟨HH.out.1,HH.out.2,H3.out,H4.out,h5⟩;have HM:=hid (Im.B4 H4.out);clear HH H3 H4 h5;go_wp2_with fail;refine(te (w.heap.size+1) b off cap (Im.of L n) HX.out _ _ _ _ q w3 S3.out.lt.2.2 HQ.out.1 (S3.out.LB R3.out)).mono ?_;rintro e w5 ⟨hS,wQ,hq⟩;rcases hS with⟨h6,rfl⟩|⟨h6,rfl⟩
 rotate_left
 ·exact di rfl rfl (S3.out.m.grown wQ).r (eA.no rfl (by decide) (T5.out.Ye h6) (S3.out.m.grown wQ))
 obtain⟨m,og,hm,Vc,Lv,Zi⟩:=hq h6;have S5:=hid (S3.out.grown wQ Lv);have R5:=hid (R3.out.grown wQ (λe=>by injection e with e;exact HQ.out.1 e));have O5:=hid Zi;have HO:Hid (og≠w.heap.size+1/\og≠b/\og≠q):=⟨by have:=S3.out.lt;omega,by have:=S3.out.lt;omega,by have:=R3.out.lt;omega⟩;have H6:=hid (And.intro h6 hm);clear S3 R3 wQ Vc Lv Zi h6 hm hq;go_wp2_with fail;refine(yO (w.heap.size+1) b off cap (Im.of L n) HX.out HM.out _ _ _ q og m w5 S5.out.lt.2.2 HQ.out.1 HO.out.1 HO.out.2.1 HO.out.2.2 (S5.out.LB R5.out) O5.out).mono ?_;rintro e w6 ⟨vU,hp⟩;rcases hp with⟨h7,rfl⟩|⟨o,g,h7,rfl,hgl,ZE,Y5⟩
 ·exact di rfl rfl (S5.out.m.grown vU).r (eA.no rfl (by decide) (T5.out.Yd H6.out.1 H6.out.2 h7) (S5.out.m.grown vU))
 have S6:=hid (S5.out.grown vU ZE);have R6:=hid (R5.out.grown vU (λe=>by injection e with e;exact HQ.out.1 e));have W6:=hid Y5;have HG:Hid (g≠w.heap.size+1/\w.heap.size+2<=g):=⟨by have:=S5.out.lt;omega,by have:=S5.out.lt;omega⟩;have T7:=hid (T5.out.X7 H6.out.1 H6.out.2 h7);have HT:Hid (∀t,1<=t->t<=(Im.of L n).ni->((Im.of L n).ino t).kind≠0->(Im.of L n).Tree t):=λt h1 h2 hk=>Im.xj h7 h1 h2 hk
 clear S5 R5 O5 vU hgl ZE Y5 h7 H6 HO T5;go_wp2_with fail;refine(wy (w.heap.size+1) b off cap (Im.of L n) HX.out _ _ _ _ _ q g o w6 ⟨S6.out.LB R6.out,W6.out⟩).mono ?_;rintro e w7 ⟨hS,DF⟩;have S7:=hid (S6.out.below DF);have R7:=hid (R6.out.below DF);have W7:=hid (W6.out.below DF);clear S6 R6 W6 DF;rcases hS with⟨h8,rfl⟩|⟨h8,rfl⟩
 rotate_left
 ·exact di rfl rfl S7.out.m.r (eA.no rfl (by decide) (T7.out.Yc h8) S7.out.m)
 have H8:=hid h8;clear h8;go_wp2_with fail;refine(AQ (w.heap.size+1) b off cap (Im.of L n) HX.out HM.out HT.out _ _ _ _ q w7 S7.out.lt.2.2 HQ.out.1 (S7.out.LB R7.out)).mono ?_;rintro e w8 ⟨OU,hp⟩;rcases hp with⟨h9,rfl⟩|⟨u,ug,h9,rfl,Jm,ZD,Y7⟩
 ·exact di rfl rfl (S7.out.m.grown OU).r (eA.no rfl (by decide) (T7.out.Yb H8.out h9) (S7.out.m.grown OU))
 have S8:=hid (S7.out.grown OU ZD);have R8:=hid (R7.out.grown OU (λe=>by injection e with e;exact HQ.out.1 e));have W8:=hid (W7.out.grown OU (λe=>by injection e with e;exact HG.out.1 e));have U8:=hid Y7;have HU:Hid (ug≠w.heap.size+1):=by show _≠_;have:=S7.out.lt;omega
 have T9:=hid (T7.out.X6 H8.out h9);have HB:=hid (Im.BO HM.out h9);clear S7 R7 W7 OU Jm ZD Y7 h9 T7 H8 HT;go_wp2_with fail;refine(yQ (w.heap.size+1) b off cap (Im.of L n) HX.out _ _ _ q ug _ u HB.out w8 S8.out.lt.2.2 HQ.out.1 HU.out (S8.out.LB R8.out) U8.out).mono ?_;rintro e w9 ⟨Ln,hS,hq⟩;rcases hS with⟨h10,rfl⟩|⟨h10,rfl⟩
 rotate_left
 ·exact di rfl rfl (S8.out.m.grown Ln).r (eA.no rfl (by decide) (T9.out.P2 h10) (S8.out.m.grown Ln))
 obtain⟨sl,O4⟩:=hq h10;have S9:=hid (S8.out.grown Ln O4);have R9:=hid (R8.out.grown Ln (λe=>by injection e with e;exact HQ.out.1 e));have W9:=hid (W8.out.grown Ln (λe=>by injection e with e;exact HG.out.1 e));have U9:=hid (U8.out.grown S8.out.a HU.out Ln);have KK:=hid h10;clear S8 R8 W8 U8 Ln O4 h10 hq;go_wp2_with fail;refine(tb (w.heap.size+1) b off cap (Im.of L n) HX.out _ _ _ _ q ug _ u HB.out w9 S9.out.a.lt S9.out.lt.2.1 R9.out.lt HU.out (S9.out.LB R9.out) U9.out).mono ?_;rintro e po ⟨yu,hS⟩;have Kw:=hid (S9.out.below yu);have Xd:=hid (R9.out.below yu);have W10:=hid (W9.out.below yu);clear S9 R9 W9 U9 yu;rcases hS with⟨h11,rfl⟩|⟨h11,rfl⟩
 rotate_left
 ·exact di rfl rfl Kw.out.m.r (eA.no rfl (by decide) (T9.out.P1 KK.out h11) Kw.out.m)
 have Oz:=hid h11;clear h11;go_wp2_with fail;refine(wu (w.heap.size+1) b off cap dc (Im.of L n) HX.out _ _ _ _ q db 0 po Kw.out.a.lt Kw.out.lt.2.1 Xd.out.lt Kw.out.dl.2 (Kw.out.LB Xd.out) Kw.out.d).mono ?_;rintro e Hb ⟨hS,NA⟩;have LK:=hid (Kw.out.below NA);have W11:=hid (W10.out.below NA);clear Kw Xd W10 NA;rcases hS with⟨h12,rfl⟩|⟨h12,rfl⟩
 rotate_left
 ·exact di rfl rfl LK.out.m.r (eA.no rfl (by decide) (T9.out.P0 KK.out Oz.out h12) LK.out.m)
 have HE:Hid ((Im.of L n).aN=(0,o)):=T9.out.yes KK.out Oz.out h12;have hc:=LK.out.m.r.cell (i:=0) (v:=.int .i64 0) rfl;have hz':=ag LK.out.m.r 0;have ho:=an.setCell Hb ⟨w.heap.size,0,none⟩ (.int .i64 0);have HP:Hid (eA w (.slice (some ⟨b,off,none⟩) n cap) n L (.returned (.tuple #[.pointer (some ⟨w.heap.size+1,0,none⟩),.int .i64 0])) (Hb.setCell ⟨w.heap.size,0,none⟩ (.int .i64 0))):=by
  refine⟨w.heap.size+1,by rw[HE.out];rfl,LK.out.m.bel.trans (ho.below (Nat.le_refl _)),λ_=>⟨HX.out,_,_,_,_,_,g,LK.out.a.only ho (by show w.heap.size+1≠w.heap.size;omega),?_,by have:=HG.out.2;omega,Ne.symm HG.out.1⟩⟩;rw[HE.out];exact W11.out.only ho (by show g≠w.heap.size;have:=HG.out.2;omega)
 have hR:=(LK.out.m.r.setCell 0 (.int .i64 0)).cell (i:=0) (v:=.int .i64 0) rfl;clear LK W11 h12 KK Oz T9 HB HU HG HQ HX HM KG ho;go_wp2_with fail;exact JT rfl rfl hR HP.out
theorem gp(v:Value)(n:Nat)(L:Nat->Nat->Int)(hL:∀i,bm (L i))(fY:n<=4294967296)(w:World)(hT:Tab w)(hv:wU w v n L):
  Calls Tryz.prog 37 #[v] w λe w'=>eA w v n L e w':=by
 obtain⟨a,cap,rfl,h⟩:=hv
 by_cases hn:0<n
 ·obtain⟨b,off,rfl,hb,hs⟩:=h hn
  exact tf b off n cap L hL hn fY w hT hb hs
 ·obtain rfl:n=0:=by omega
  refine(rZ a cap L w).mono ?_;rintro e w' ⟨⟨p,rfl⟩,hb⟩;have h1:(Im.of L 0).aN=(1,λ_=>0):=Im.rT (by unfold Im.sE;rfl);exact⟨p,by rw[h1];rfl,hb,λe=>by rw[h1] at e;cases e⟩
end Go.Proofs.YtphamecphmbipaaGreatDoor
