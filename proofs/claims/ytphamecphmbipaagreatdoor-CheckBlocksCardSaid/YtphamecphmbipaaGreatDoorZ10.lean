/- Texts of this claim, merged. -/
import Derived.Test.YtphamecphmbipaaGreatDoorZ08
set_option linter.unusedVariables false
set_option maxRecDepth 100000
set_option maxHeartbeats 16000000

namespace Go.Proofs.YtphamecphmbipaaGreatDoor
open Go.RowKit
variable {z:Nat->Int} {w W':World} {g:Nat} {T:TypeId} {G S J:Int}
def iG(z:Nat->Int):Bool:=(cR z 0==827216465)&&((hd z 2==1)&&((hd z 3==256)&&(xK z&&dw (λi=>z (20+i)) 232)))
def bU(z:Nat->Int):Int:=if iG z then(if aT (hd z 4) (hd z 5) (hd z 6) (hd z 7) then(if cR z 16<=qn (hd z 4) (hd z 5) (hd z 6) (hd z 7) then 0 else 60) else 50) else 60
def kr(z:Nat->Int):Value:=if bU z=0 then gJ (hd z 4) (hd z 5) (hd z 6) (hd z 7) (cR z 16) else gJ 0 0 0 0 0
theorem fk(h:bU z=60\/bU z=50):kr z=gJ 0 0 0 0 0:=by unfold kr;rw[if_neg (by omega)]
structure RS(w:World)(g:Nat)(z:Nat->Int)(W:World):Prop where
 r:At W (w.heap.size+1) 47 (ax 0 0 0 0 0)
 p:aU W g 108 256 z
 t:Tab W
 bel:Below w.heap.size w W
theorem RS.below{W:World}(h:RS w g z W)(hb:Below W.heap.size W W'):RS w g z W':=
 ⟨h.r.below hb h.r.lt,h.p.below hb h.p.lt,h.t.below hb af,h.bel.trans (hb.mono h.bel.size)⟩
theorem bp{fn:Func}{p u:Tmp}(h:fn.results= #[.cell p 47,.tmp u])(tmps:Array Value)(w:World)(g:Nat)(G S I J O:Int)
  (hp:tmps.getD p undef= .pointer (some ⟨g,0,none⟩)) (hg:At w g 47 (ax G S I J O)):(results fn tmps).run Tryz.prog w= .ok (.tuple #[gJ G S I J O,tmps.getD u undef]) w:=
 bP h tmps w g _ _ _ _ hp hg Tryz.underlying47 rfl (by kernel_rfl)
theorem sA(z:Nat->Int)(w:World):(Instr.build 108 #[(0,aR z)]).run Tryz.prog w= .ok (.agg (Ks .u8 256 z).toArray) w:=by kernel_rfl
theorem tN{P:Program}{ops:Array Oper}{rest:List Oper}{o:Oper}{a:Act}{Q:Exit->Act->World->Prop}(hw:Region.wanted o (yielded ops a.tmps)=true)(T:TypeId)(i:Nat)(x:Operand)(ho:o.op= .build T #[(i,x)])
  (u v:Value) (hx:a.eval x=u) (hb:(Instr.build T #[(i,u)]).run P w= .ok v w) (h:wpList P ops Q rest (a.put o.dst v) w):wpList P ops Q (o::rest) a w:=
 BigFrame.wpList_want hw λ_ hK=>by
  have hr:(execOp a.eval o).run P w= .ok (.value v) w:=by
   unfold execOp;simp only[ho,List.map_toArray,List.map_cons,List.map_nil,hx,Sem.run_bind,hb,Result.andThen_ok,Sem.run_pure]
  unfold Oper.wp;rw[hr];exact hK _ _ h
theorem eY(G S I J O:Int):(ax G S I J O).all (·.oneCell')=true:=by kernel_rfl
theorem a7:(Tryz.prog.info? 47).map (·.size)=some 5:=by kernel_rfl
theorem pF(G S I J O:Int)(w:World):(Instr.build 47 #[(0,bV G S I J),(1,.int .u32 O)]).run Tryz.prog w= .ok (gJ G S I J O) w:=by kernel_rfl
theorem At.blk(h:At w g T (Ks .u8 256 z).toArray):aU w g T 256 z:=h
theorem s8(z:Nat->Int)(hzb:bu z)(w:World)(hT:Tab w):
  Calls Tryz.prog 125 #[aR z] w λe w'=>e= .returned (.tuple #[kr z,.int .i64 (bU z)])/\Below w.heap.size w w':=by
 have hal:=fv;have WQ:=tK;have N1:=λW=>sA z W
 have hB:aU ((w.alloc (.cells (Ks .u8 256 z).toArray 32)).alloc (.cells (ax 0 0 0 0 0) 47)) w.heap.size 32 256 z:=(aU.new w _ _ _).alloc _;have hR:At ((w.alloc (.cells (Ks .u8 256 z).toArray 32)).alloc (.cells (ax 0 0 0 0 0) 47)) (w.heap.size+1) 47 (ax 0 0 0 0 0):=by
  have:=At.new (w.alloc (.cells (Ks .u8 256 z).toArray 32)) 47 (ax 0 0 0 0 0);simp only[World.size_alloc] at this;exact this
 have hP:At (((w.alloc (.cells (Ks .u8 256 z).toArray 32)).alloc (.cells (ax 0 0 0 0 0) 47)).alloc (.cells (Ks .u8 256 (λ_=>0)).toArray 108)) (w.heap.size+1+1) 108 (Ks .u8 256 (λ_=>0)).toArray:=by
  have:=At.new ((w.alloc (.cells (Ks .u8 256 z).toArray 32)).alloc (.cells (ax 0 0 0 0 0) 47)) 108 (Ks .u8 256 (λ_=>0)).toArray;simp only[World.size_alloc] at this;exact this
 have hL:Hd (Below w.heap.size w (((w.alloc (.cells (Ks .u8 256 z).toArray 32)).alloc (.cells (ax 0 0 0 0 0) 47)).alloc (.cells (Ks .u8 256 (λ_=>0)).toArray 108))):=((ag.alloc af _).alloc (by simp) _).alloc (by simp;omega) _;have ZE:=ah (((hT.alloc (.cells (Ks .u8 256 z).toArray 32)).alloc (.cells (ax 0 0 0 0 0) 47)).alloc (.cells (Ks .u8 256 (λ_=>0)).toArray 108));have hTl:=hT.lt;have hR':=ah (hR.alloc (.cells (Ks .u8 256 (λ_=>0)).toArray 108));clear hT hR;go_enter Tryz.func125,Tryz.ntmps125;go_wp2_with (first|(refine de rfl (.tmp 1) rfl w.heap.size z rfl hB ?_)|(refine tN rfl 108 0 (.tmp 6) rfl (aR z) _ rfl (N1 _) ?_)|(refine aD rfl 108 (.tmp 4) (.tmp 7) rfl (w.heap.size+1+1) (Ks .u8 256 z).toArray (Ks .u8 256 (λ_=>0)).toArray rfl rfl hP (rV z) (by rw[bE,bE]) (fF _ _ _) ?_))
 intro w1 ZM wm;have st0:Hd (RS w (w.heap.size+1+1) z w1):=⟨hR'.Z.only wm (by omega),ZM.blk,ZE.Z.only wm (by omega),hL.Z.trans (wm.below (by omega))⟩;clear hB hP ZM wm ZE hL hR' N1;obtain⟨g,hg⟩:=ae (w.heap.size+1+1);rw[hg] at st0 ⊢;have hgl:w.heap.size+2<=g:=by omega
 clear hg;go_wp2_with fail;refine(j4 g z hzb 0 0 rfl (by omega) _ st0.Z.p).mono ?_;rintro e wx ⟨rfl,rfl⟩;obtain⟨c1,hc1⟩:=ae ((cR z 0==827216465));have uq:(cR z 0 !=827216465)= !c1:=by rw[<-hc1];rfl
 cases c1 with
 |false=>
  have HE:Hd (bU z=60):=by show _=_;unfold bU iG;rw[hc1];rfl
  have hr:=st0.Z.r;go_wp2_with (first|(refine aD rfl 47 (.tmp 2) (.tmp 18) rfl (w.heap.size+1) (ax 0 0 0 0 0) (ax 0 0 0 0 0) rfl rfl hr a7 rfl (eY _ _ _ _ _) ?_))
  intro w9 jv gQ;go_wp2_with fail;exact bodyPost_ret (bp rfl _ _ (w.heap.size+1) _ _ _ _ _ rfl jv) rfl ⟨by rw[fk (by rw[HE.Z];decide),HE.Z];rfl,st0.Z.bel.trans (gQ.below (by omega))⟩
 |true=>
 have jk:=ah hc1;clear hc1;go_wp2_with fail;clear uq;refine(jd g z hzb 2 4 rfl (by omega) _ st0.Z.p).mono ?_;rintro e wx ⟨rfl,rfl⟩;obtain⟨c2,hc2⟩:=ae ((hd z 2==1));have JT:(hd z 2 !=1)= !c2:=by rw[<-hc2];rfl
 cases c2 with
 |false=>
  have HE:Hd (bU z=60):=by show _=_;unfold bU iG;rw[jk.Z,hc2];rfl
  have hr:=st0.Z.r;go_wp2_with (first|(refine aD rfl 47 (.tmp 2) (.tmp 18) rfl (w.heap.size+1) (ax 0 0 0 0 0) (ax 0 0 0 0 0) rfl rfl hr a7 rfl (eY _ _ _ _ _) ?_))
  intro w9 jv gQ;go_wp2_with fail;exact bodyPost_ret (bp rfl _ _ (w.heap.size+1) _ _ _ _ _ rfl jv) rfl ⟨by rw[fk (by rw[HE.Z];decide),HE.Z];rfl,st0.Z.bel.trans (gQ.below (by omega))⟩
 |true=>
 have gY:=ah hc2;clear hc2;go_wp2_with fail;clear JT;refine(jd g z hzb 3 6 rfl (by omega) _ st0.Z.p).mono ?_;rintro e wx ⟨rfl,rfl⟩;obtain⟨c3,hc3⟩:=ae ((hd z 3==256));have hn3:(hd z 3 !=256)= !c3:=by rw[<-hc3];rfl
 cases c3 with
 |false=>
  have HE:Hd (bU z=60):=by show _=_;unfold bU iG;rw[jk.Z,gY.Z,hc3];rfl
  have hr:=st0.Z.r;go_wp2_with (first|(refine aD rfl 47 (.tmp 2) (.tmp 18) rfl (w.heap.size+1) (ax 0 0 0 0 0) (ax 0 0 0 0 0) rfl rfl hr a7 rfl (eY _ _ _ _ _) ?_))
  intro w9 jv gQ;go_wp2_with fail;exact bodyPost_ret (bp rfl _ _ (w.heap.size+1) _ _ _ _ _ rfl jv) rfl ⟨by rw[fk (by rw[HE.Z];decide),HE.Z];rfl,st0.Z.bel.trans (gQ.below (by omega))⟩
 |true=>
 have uV:=ah hc3;clear hc3;go_wp2_with fail;clear hn3;refine(kY g z hzb _ st0.Z.p st0.Z.t).mono ?_;rintro e w2 ⟨rfl,hb2⟩;have ec:=ah (st0.Z.below hb2);clear st0 hb2;cases uv:xK z with
 |false=>
  have HE:Hd (bU z=60):=by show _=_;unfold bU iG;rw[jk.Z,gY.Z,uV.Z,uv];rfl
  have hr:=ec.Z.r;go_wp2_with (first|(refine aD rfl 47 (.tmp 2) (.tmp 25) rfl (w.heap.size+1) (ax 0 0 0 0 0) (ax 0 0 0 0 0) rfl rfl hr a7 rfl (eY _ _ _ _ _) ?_))
  intro w9 jv gQ;go_wp2_with fail;exact bodyPost_ret (bp rfl _ _ (w.heap.size+1) _ _ _ _ _ rfl jv) rfl ⟨by rw[fk (by rw[HE.Z];decide),HE.Z];rfl,ec.Z.bel.trans (gQ.below (by omega))⟩
 |true=>
 have zA:=ah uv;clear uv;go_wp2_with fail;refine(gR g z 20 252 20 252 rfl rfl (by omega) (by omega) (by omega) _ ec.Z.p).mono ?_;rintro e wx ⟨rfl,rfl⟩;rw[show 252-20=232 from rfl];cases Io:dw (λi=>z (20+i)) 232 with
 |false=>
  have HE:Hd (bU z=60):=by show _=_;unfold bU iG;rw[jk.Z,gY.Z,uV.Z,zA.Z,Io];rfl
  have hr:=ec.Z.r;go_wp2_with (first|(refine aD rfl 47 (.tmp 2) (.tmp 25) rfl (w.heap.size+1) (ax 0 0 0 0 0) (ax 0 0 0 0 0) rfl rfl hr a7 rfl (eY _ _ _ _ _) ?_))
  intro w9 jv gQ;go_wp2_with fail;exact bodyPost_ret (bp rfl _ _ (w.heap.size+1) _ _ _ _ _ rfl jv) rfl ⟨by rw[fk (by rw[HE.Z];decide),HE.Z];rfl,ec.Z.bel.trans (gQ.below (by omega))⟩
 |true=>
 have HRA:Hd (iG z=true):=by show _=_;unfold iG;rw[jk.Z,gY.Z,uV.Z,zA.Z,Io];rfl
 clear Io jk gY uV zA;go_wp2_with fail;refine(AX g z hzb _ ec.Z.p).mono ?_;rintro e w3 ⟨rfl,hb3⟩;have fw:=ah (ec.Z.below hb3);clear ec hb3;go_wp2_with fail;refine(j4 g z hzb 16 16 rfl (by omega) _ fw.Z.p).mono ?_;rintro e wx ⟨rfl,rfl⟩;have hbs:=λW=>pF (hd z 4) (hd z 5) (hd z 6) (hd z 7) (cR z 16) W
 have ho:=dP hzb 16;have Bm:Hd (bU z=if aT (hd z 4) (hd z 5) (hd z 6) (hd z 7) then(if cR z 16<=qn (hd z 4) (hd z 5) (hd z 6) (hd z 7) then 0 else 60) else 50):=by show _=_;unfold bU;rw[HRA.Z];rfl
 have Te:Hd (bU z=0->kr z=gJ (hd z 4) (hd z 5) (hd z 6) (hd z 7) (cR z 16)):=λh=>by unfold kr;rw[if_pos h]
 generalize hd z 4=G at*;generalize hd z 5=S at*;generalize hd z 6=I at*;generalize hd z 7=J at*;generalize cR z 16=O at*;have TM:=At.new w3 47 (ax G S I J O);have ij:=ah (fw.Z.below (ag.alloc af (.cells (ax G S I J O) 47)));have Gt:=TM.lT;have adE:w.heap.size+2<=w3.heap.size:=by have:=fw.Z.r.lt;omega
 clear fw;go_wp2_with (first|(refine nr rfl 23 _ rfl w3.heap.size 0 (ai G S I J).toList _ rfl Gt Tryz.underlying23 rfl (by kernel_rfl) ?_))
 clear Gt hbs;refine(eJ G S I J _).mono ?_;rintro e w5 ⟨rfl,om⟩;have eC:=ah (ij.Z.below om);have TL:=TM.below om TM.lt;clear ij TM om;cases hm:aT G S I J with
 |false=>
  have HE:Hd (bU z=50):=by show _=_;rw[Bm.Z,hm];rfl
  have hr:=eC.Z.r;go_wp2_with (first|(refine aD rfl 47 (.tmp 2) (.tmp 34) rfl (w.heap.size+1) (ax 0 0 0 0 0) (ax 0 0 0 0 0) rfl rfl hr a7 rfl (eY _ _ _ _ _) ?_))
  intro w9 jv gQ;go_wp2_with fail;exact bodyPost_ret (bp rfl _ _ (w.heap.size+1) _ _ _ _ _ rfl jv) rfl ⟨by rw[fk (by rw[HE.Z];decide),HE.Z];rfl,eC.Z.bel.trans (gQ.below (by omega))⟩
 |true=>
 have HM:=ah hm;clear hm;go_wp2_with (first|(refine aB rfl 47 _ rfl _ _ _ rfl TL Tryz.underlying47 rfl (by kernel_rfl) ?_))
 refine(vM G S I J O ho _).mono ?_;rintro e w6 ⟨rfl,m4⟩;have eQ:=ah (eC.Z.below m4);have hS6:=TL.below m4 TL.lt;clear eC TL m4;cases AO:decide (O<=qn G S I J) with
 |false=>
  have HE:Hd (bU z=60):=by show _=_;rw[Bm.Z,HM.Z,if_pos rfl,if_neg (by simpa using AO)]
  have hr:=eQ.Z.r;go_wp2_with (first|(refine aD rfl 47 (.tmp 2) (.tmp 38) rfl (w.heap.size+1) (ax 0 0 0 0 0) (ax 0 0 0 0 0) rfl rfl hr a7 rfl (eY _ _ _ _ _) ?_))
  intro w9 jv gQ;go_wp2_with fail;exact bodyPost_ret (bp rfl _ _ (w.heap.size+1) _ _ _ _ _ rfl jv) rfl ⟨by rw[fk (by rw[HE.Z];decide),HE.Z];rfl,eQ.Z.bel.trans (gQ.below (by omega))⟩
 |true=>
 have HE:Hd (bU z=0):=by show _=_;rw[Bm.Z,HM.Z,if_pos rfl,if_pos (by simpa using AO)]
 clear AO;have hr:=eQ.Z.r;go_wp2_with (first|(refine aB rfl 47 (.tmp 5) rfl _ _ _ rfl hS6 Tryz.underlying47 rfl (by kernel_rfl) ?_)|(refine aD rfl 47 (.tmp 2) (.tmp 39) rfl (w.heap.size+1) (ax G S I J O) (ax 0 0 0 0 0) rfl rfl hr a7 rfl (eY _ _ _ _ _) ?_))
 intro w9 jv gQ;go_wp2_with fail;exact bodyPost_ret (bp rfl _ _ (w.heap.size+1) _ _ _ _ _ rfl jv) rfl ⟨by rw[Te.Z HE.Z,HE.Z];rfl,eQ.Z.bel.trans (gQ.below (by omega))⟩
abbrev rB(z:Nat->Int)(k:Nat):Int:=hd z (4*k)
abbrev rI(z:Nat->Int)(k:Nat):Int:=hd z (4*k+1)
abbrev rD(z:Nat->Int)(k:Nat):Int:=hd z (4*k+2)
def jD(G S I J:Int)(z:Nat->Int):Bool:=
 xK z&&(dw (λi=>z (8*G.toNat+i)) (252-8*G.toNat)&&(aK (λk=>hd z (4*k+3)==0) G.toNat&&j5 G S I J G.toNat (rB z) (rI z) (rD z)))
def iH(G S I J:Int)(z:Nat->Int):Bool:=aT G S I J&&jD G S I J z
def mW(w:World)(G S I J:Int)(z:Nat->Int)(v:Value)(e:Int)(W:World):Prop:=
 (iH G S I J z=true/\e=0/\au W w.heap.size 67 3 v G.toNat (df (rB z) (rI z) (rD z)))\/(iH G S I J z=false/\e=(if aT G S I J then 60 else 50)/\v= .slice none 0 0)
theorem Cz(z:Nat->Int)(hzb:bu z)(k:Nat):dw (λi=>z (8*k+6+i)) 2=(hd z (4*k+3)==0):=by
 have h:=KP hzb (4*k+3) 1;rw[show 2*(4*k+3)=8*k+6 by omega] at h;rw[show 2*1=2 from rfl] at h;rw[h,Bool.eq_iff_iff];simp[dw]
theorem ka:(Tryz.prog.info? 67).map (λi=>(i.zero,i.size,i.bytes))=some (some (kF 0 0 0),3,24):=by kernel_rfl
theorem Sg(B I D:Int):(gV B I D).all (·.oneCell')=true:=by kernel_rfl
def yn(z:Nat->Int)(k j:Nat):List Value:=if j<k then df (rB z) (rI z) (rD z) j else [.int .i64 0,.int .i64 0,.int .i64 0]
theorem FY(z:Nat->Int)(k j:Nat):(yn z k j).length=3:=by unfold yn;split<;>rfl
structure RD(w:World)(G S I J:Int)(g:Nat)(z:Nat->Int)(W:World):Prop where
 s:At W w.heap.size 23 (ai G S I J)
 p:aU W g 108 256 z
 bel:Below w.heap.size w W
theorem RD.below{I:Int}{W:World}(h:RD w G S I J g z W)(hb:Below W.heap.size W W'):RD w G S I J g z W':=
 ⟨h.s.below hb h.s.lt,h.p.below hb h.p.lt,h.bel.trans (hb.mono h.bel.size)⟩
theorem RD.only{I:Int}{q:Nat}{W:World}(h:RD w G S I J g z W)(hb:az q W W')(h1:w.heap.size<q)(h2:g≠q):RD w G S I J g z W':=
 ⟨h.s.only hb (by omega),h.p.only hb h2,h.bel.trans (hb.below (by omega))⟩
theorem mx(G S I J:Int)(z:Nat->Int)(hzb:bu z)(w:World)(hT:Tab w):
  Calls Tryz.prog 16 #[bV G S I J,aR z] w λe w'=>∃v E,e= .returned (.tuple #[v,.int .i64 E])/\mW w G S I J z v E w'/\Below w.heap.size w w':=by
 have WQ:=tK;have N1:=λW=>sA z W
 have HT:=ah hT;obtain⟨W,hW⟩:=aa ((w.alloc (.cells (ai G S I J) 23)).alloc (.cells (Ks .u8 256 z).toArray 32));have hS:At W w.heap.size 23 (ai G S I J):=by rw[hW];exact(At.new w _ _).alloc _
 have hB:aU W (w.heap.size+1) 32 256 z:=by
  rw[hW];have:=aU.new (w.alloc (.cells (ai G S I J) 23)) 32 256 z;simp only[World.size_alloc] at this;exact this
 have hL:Below w.heap.size w W:=by rw[hW];exact(ag.alloc af _).alloc (by simp) _
 have HW:=ah hW;clear hW hT;go_enter Tryz.func16,Tryz.ntmps16;have yN:At ((w.alloc (.cells (ai G S I J) 23)).alloc (.cells (Ks .u8 256 z).toArray 32)) w.heap.size 23 (ai G S I J):=(At.new w _ _).alloc _;go_wp2_with (first|(refine aB rfl 23 (.tmp 2) rfl _ _ _ rfl yN Tryz.underlying23 rfl (by kernel_rfl) ?_))
 rw[<-HW.Z];clear HW yN;refine(eJ G S I J W).mono ?_;rintro e w1 ⟨rfl,hb1⟩;have hS1:=hS.below hb1 hS.lt;have wF:=hB.below hb1 hB.lt;have fW:Below w.heap.size w w1:=hL.trans (hb1.mono hL.size);clear hS hB hL hb1;cases hm:aT G S I J with
 |false=>
  have HO:Hd (mW w G S I J z (.slice none 0 0) 50 w1):=.inr ⟨by unfold iH;rw[hm];rfl,by rw[hm];rfl,rfl⟩;clear hm;go_wp2_with fail
  go_ret2
  exact⟨_,_,rfl,HO.Z,fW⟩
 |true=>
 have HM:=ah hm;have hG:1<=G/\G<=4:=by
  obtain⟨h1,h2,h3,h4,h5,h6,h7,h8,h9,h10,h11⟩:=(bq G S I J).1 hm;exact⟨h1,h2⟩
 clear hm;have HF:Hd (∀W,jD G S I J z=false->mW w G S I J z (.slice none 0 0) 60 W):=λW h=> .inr ⟨by unfold iH;rw[HM.Z,h];rfl,by rw[HM.Z];rfl,rfl⟩
 obtain⟨n,hn⟩:∃n:Nat,G=(n:Int):=⟨G.toNat,by omega⟩;have La:Hd (G.toNat=n):=by show _=_;omega
 have Zd:1<=n/\n<=4:=by omega
 have hP:At (w1.alloc (.cells (Ks .u8 256 (λ_=>0)).toArray 108)) w1.heap.size 108 (Ks .u8 256 (λ_=>0)).toArray:=At.new _ _ _;have hsz:=wF.lt;have xc:=ah (hS1.alloc (.cells (Ks .u8 256 (λ_=>0)).toArray 108));have kB:Hd (Below w.heap.size w (w1.alloc (.cells (Ks .u8 256 (λ_=>0)).toArray 108))):=fW.alloc fW.size _;have Ef:=ah hn;clear hS1 fW hn;go_wp2_with (first|(refine de rfl (.tmp 3) rfl (w.heap.size+1) z rfl wF ?_)|(refine tN rfl 108 0 (.tmp 12) rfl (aR z) _ rfl (N1 _) ?_)|(refine aD rfl 108 (.tmp 6) (.tmp 13) rfl w1.heap.size (Ks .u8 256 z).toArray (Ks .u8 256 (λ_=>0)).toArray rfl rfl hP (rV z) (by rw[bE,bE]) (fF _ _ _) ?_))
 intro w2 WY eI;obtain⟨g,hg⟩:=ae w1.heap.size;rw[hg] at WY eI ⊢;have st0:Hd (RD w G S I J g z w2):=⟨xc.Z.only eI (by omega),WY.blk,kB.Z.trans (eI.below (by omega))⟩;have hgl:w.heap.size+2<=g:=by omega
 clear xc kB hP WY eI wF hsz hg N1;go_wp2_with fail;refine(kY g z hzb _ st0.Z.p (HT.Z.below st0.Z.bel af)).mono ?_;rintro e w3 ⟨rfl,hb3⟩;have fw:=ah (st0.Z.below hb3);clear st0 hb3;cases uv:xK z with
 |false=>
  have HX:Hd (jD G S I J z=false):=by show _=_;unfold jD;rw[uv];rfl
  clear uv;go_wp2_with fail
  go_ret2
  exact⟨_,_,rfl,HF.Z _ HX.Z,fw.Z.bel⟩
 |true=>
 have zA:=ah uv;clear uv;have hc0:w3.cell? ⟨w.heap.size,0,none⟩=some (.int .i64 G):=fw.Z.s.cell (i:=0) rfl;go_wp2_with fail;refine(gR g z (8*n) 252 _ 252 (by have:=Ef.Z;omega) rfl (by omega) (by omega) (by omega) _ fw.Z.p).mono ?_;rintro e wx ⟨rfl,rfl⟩;cases Io:dw (λi=>z (8*n+i)) (252-8*n) with
 |false=>
  have HX:Hd (jD G S I J z=false):=by show _=_;unfold jD;rw[zA.Z,La.Z,Io];rfl
  clear Io;go_wp2_with fail
  go_ret2
  exact⟨_,_,rfl,HF.Z _ HX.Z,fw.Z.bel⟩
 |true=>
 have xe:Hd (jD G S I J z=(aK (λk=>hd z (4*k+3)==0) n&&j5 G S I J n (rB z) (rI z) (rD z))):=by show _=_;unfold jD;rw[zA.Z,La.Z,Io];rfl
 clear Io zA;have hmk:=λW=>dx (P:=Tryz.prog) 51 67 (kF 0 0 0) 3 24 Tryz.underlying51 ka .i64 .i64 n (by omega) (by omega) W
 have hn:=Ef.Z;rw[<-hn] at hmk;clear hn;have uW:=ah (aE.made (m:=3) w3 (gV 0 0 0) rfl (by omega) n 67);have ij:Hd (RD w G S I J g z (w3.alloc (.cells (madeCells (kF 0 0 0).cells (n*3)) 67))):=fw.Z.below (ag.alloc af _);have tl:g<w3.heap.size:=fw.Z.p.lt;clear fw;go_wp2_with fail;obtain⟨q,hq⟩:=ae w3.heap.size;rw[hq] at uW tl ⊢;have zD:Hd (aE (w3.alloc (.cells (madeCells (kF 0 0 0).cells (n*3)) 67)) q 67 3 n (yn z 0)):=uW.Z.congr λi _=>rfl
 clear uW hmk hq;go_loopw [28] (λu wr=>∃k:Nat,k<=n/\u= .int .i64 (k:Int)/\Hd (aK (λk=>hd z (4*k+3)==0) k=true)/\RD w G S I J g z wr/\aE wr q 67 3 n (yn z k)) (λu _=>n-(intOf u).toNat)
 case atStart=>exact⟨0,by omega,rfl,rfl,ij.Z,zD.Z⟩
 clear ij zD hc0;obtain⟨k,hk,rfl,eW,st,harr⟩:=hrel;have ST:=ah st;have Lb:=ah harr;clear st harr
 by_cases hlt:k<n
 ·go_wp2_with fail
  refine(gR g z (8*k+6) (8*k+8) _ _ (by omega) (by omega) (by omega) (by omega) (by omega) _ ST.Z.p).mono ?_;rintro e wx ⟨rfl,rfl⟩;rw[show 8*k+8-(8*k+6)=2 by omega,Cz z hzb];cases Gd:(hd z (4*k+3)==0) with
  |false=>
   have HX:Hd (jD G S I J z=false):=by show _=_;rw[xe.Z,bR hlt Gd];rfl
   clear Gd;go_wp2_with fail
   go_ret2
   exact⟨_,_,rfl,HF.Z _ HX.Z,ST.Z.bel⟩
  |true=>
   have zB:Hd (aK (λk=>hd z (4*k+3)==0) (k+1)=true):=by show(aK _ k&&(hd z (4*k+3)==0))=true;rw[eW.Z,Gd];rfl
   clear Gd eW;go_wp2_with fail;refine(yR g z hzb k _ (by omega) (by omega) _ ST.Z.p).mono ?_;rintro e w6 ⟨rfl,m4⟩;have eQ:=ah (ST.Z.below m4);have Hq:=ah (Lb.Z.below m4);clear ST Lb m4;have gG:=Hq.Z.there hlt;have v8:=ah (Hq.Z.set hlt (vs:=[.int .i64 (rB z k),.int .i64 (rI z k),.int .i64 (rD z k)]) rfl (FY z k));go_wp2_with (first|(refine wpList_store_mid rfl 67 (.tmp 45) (.tmp 44) rfl q (k*3) (gV (rB z k) (rI z k) (rD z k)) rfl rfl gG DB (Sg _ _ _) ?_))
   have jl:=eQ.Z.only v8.Z.2 (by omega) (by omega);have LS:aE (w6.setCells q (k*3) [.int .i64 (rB z k),.int .i64 (rI z k),.int .i64 (rD z k)]) q 67 3 n (yn z (k+1)):=v8.Z.1.congr λi _=>by
    unfold yn
    by_cases e:i=k
    ·subst e;rw[if_pos rfl,if_pos (by omega)];rfl
    rw[if_neg e]
    by_cases e2:i<k
    ·rw[if_pos e2,if_pos (by omega)]
    rw[if_neg e2,if_neg (by omega)]
   generalize w6.setCells q (k*3) [.int .i64 (rB z k),.int .i64 (rI z k),.int .i64 (rD z k)]=w7 at*;clear eQ Hq v8 gG;go_roundw
   case rel=>first|exact⟨k+1,by omega,by go_num,zB,jl,LS⟩|exact⟨k+1,by omega,rfl,zB,jl,LS⟩
   simp[intOf];omega
 obtain rfl:k=n:=by omega
 have hs:=ST.Z.s;have hrow:cU wr (some ⟨q,0,none⟩) 3 k (df (rB z) (rI z) (rD z)):=.inr ⟨q,0,rfl,(Lb.Z.congr (f':=df (rB z) (rI z) (rD z)) λi hi=>by unfold yn;rw[if_pos hi]).bQ⟩;have Ee:=ah hrow;clear hrow;go_wp2_with (first|(refine aB rfl 23 (.tmp 2) rfl _ _ _ rfl hs Tryz.underlying23 rfl (by kernel_rfl) ?_))
 refine(vj G S I J HM.Z _ k _ _ _ _ (by omega) _ Ee.Z).mono ?_;rintro e w8 ⟨rfl,oh⟩;cases Q9:j5 G S I J k (rB z) (rI z) (rD z) with
 |false=>
  have HX:Hd (jD G S I J z=false):=by show _=_;rw[xe.Z,Q9,Bool.and_false]
  have m8:Hd (Below w.heap.size w w8):=ST.Z.bel.trans (oh.mono ST.Z.bel.size);clear Q9 oh hs;go_wp2_with fail
  go_ret2
  exact⟨_,_,rfl,HF.Z _ HX.Z,m8.Z⟩
 |true=>
  have HX:Hd (iH G S I J z=true):=by show _=_;unfold iH;rw[HM.Z,xe.Z,Q9,eW.Z];rfl
  have m8:Hd (Below w.heap.size w w8):=ST.Z.bel.trans (oh.mono ST.Z.bel.size);have HMI:Hd (au w8 w.heap.size 67 3 (.slice (some ⟨q,0,none⟩) k k) k (df (rB z) (rI z) (rD z))):=
   (((Lb.Z.congr (f':=df (rB z) (rI z) (rD z)) λi hi=>by unfold yn;rw[if_pos hi]).below oh).QA (ss _ _ _) (by omega) (by unfold maxLen;omega))
  clear Q9 oh hs;go_wp2_with fail
  go_ret2
  exact⟨_,_,rfl,.inl ⟨HX.Z,rfl,by rw[La.Z];exact HMI.Z⟩,m8.Z⟩
theorem nE(g:Nat)(l:Nat->Int)(k:Nat)(K v:Int)(hK:K=2*(k:Int))(hk:k<128)(hv:0<=v)(hv2:v<=65535)(w:World)(hB:aU w g T 256 (hz l)):
  Calls Tryz.prog 97 #[.slice (some ⟨g,0,none⟩) 256 256,.int .i64 K,.int .u32 v] w λe w'=>e= .returned (.bool true)/\aU w' g T 256 (hz (upd l k v))/\az g w w':=by
 refine(re g 0 256 256 K v (hz l) w (by omega) (by omega) (by omega) hv hv2 hB.bQ (oQ l) (hB.soft 0 256)).mono λe w' ⟨he,hp⟩=>⟨he,?_,hp.only⟩
 rw[show 0+K.toNat=2*k by omega] at hp;exact(hB.kD hp).congr λi _=>Ns l k v i
theorem Fj(g:Nat)(l:Nat->Int)(k:Nat)(K v:Int)(hK:K=2*(k:Int))(hk:k+1<128)(hv:0<=v)(hv2:v<4294967296)(w:World)(hB:aU w g T 256 (hz l)):
  Calls Tryz.prog 71 #[.slice (some ⟨g,0,none⟩) 256 256,.int .i64 K,.int .u32 v] w λe w'=>e= .returned (.bool true)/\aU w' g T 256 (hz (qL l k v))/\az g w w':=by
 refine(dm g 0 256 256 K v (hz l) w (by omega) (by omega) (by omega) hv hv2 hB.bQ (oQ l) (hB.soft 0 256)).mono λe w' ⟨he,hp⟩=>⟨he,?_,hp.only⟩
 rw[show 0+K.toNat=2*k by omega] at hp;exact(hB.kD hp).congr λi _=>JL l k v i
theorem pG{B:Nat}{a:World}(h:Below B a w)(n:Nat):Below B a (w.drewN n):=iD h n
theorem dG(z:Nat->Int)(hzb:bu z)(k:Nat)(K:Int)(hK:K=2*(k:Int))(hk:k<128)(w:World):
  Calls Tryz.prog 146 #[aR z,.int .i64 K] w λe w'=>e= .returned (.int .i64 (hd z k))/\Below w.heap.size w w':=by
 have hB:=aU.new w 32 256 z;have hL:Hd (Below w.heap.size w (w.alloc (.cells (Ks .u8 256 z).toArray 32))):=ag.alloc af _;have hsa:=λW=>bw w.heap.size 0 W
 have hgt:=mA w.heap.size 0 256 256 K z _ (by omega) (by omega) (by omega) hB.bQ hzb;rw[show K.toNat=2*k by omega] at hgt;have hb:=oS hzb (2*k);have HG:=ah hgt;have HD:Hd (hd z k=g16 z (2*k)):=rfl;clear hgt hK hB;generalize g16 z (2*k)=x at*;go_enter Tryz.func146,Tryz.ntmps146;go_wp2_with fail;refine HG.Z.mono ?_;rintro e w1 ⟨rfl,m,rfl⟩;have hL2:=pG hL.Z m;clear HG hL;go_wp2_with fail;go_ret;exact⟨by rw[HD.Z];rfl,hL2⟩
theorem gp(z:Nat->Int)(hzb:bu z)(k:Nat)(K:Int)(hK:K=(k:Int))(hk:k+4<=256)(w:World):
  Calls Tryz.prog 145 #[aR z,.int .i64 K] w λe w'=>e= .returned (.int .u32 (cR z k))/\Below w.heap.size w w':=by
 have hB:=aU.new w 32 256 z;have hL:Hd (Below w.heap.size w (w.alloc (.cells (Ks .u8 256 z).toArray 32))):=ag.alloc af _;have hsa:=λW=>bw w.heap.size 0 W
 have hgt:=fx w.heap.size 0 256 256 K z _ (by omega) (by omega) (by omega) hB.bQ hzb;rw[show K.toNat=k by omega] at hgt;have HG:=ah hgt;clear hgt hK hB;go_enter Tryz.func145,Tryz.ntmps145;go_wp2_with fail;refine HG.Z.mono ?_;rintro e w1 ⟨rfl,m,rfl⟩;have hL2:=pG hL.Z m;clear HG hL;go_wp2_with fail;go_ret;exact⟨rfl,hL2⟩
structure SeC(w:World)(z:Nat->Int)(j:Nat)(W:World):Prop where
 b:aU W w.heap.size 32 256 (if j<=1 then z else me z)
 r:aU W (w.heap.size+1) 32 256 (λ_=>0)
 bel:Below w.heap.size w W
theorem pa(z:Nat->Int)(hzb:bu z)(w:World):
  Calls Tryz.prog 98 #[aR z] w λe w'=>e= .returned (aR (me z))/\Below w.heap.size w w':=by
 have hal:=cW;have hB:aU ((w.alloc (.cells (Ks .u8 256 z).toArray 32)).alloc (.cells (Ks .u8 256 (λ_=>0)).toArray 32)) w.heap.size 32 256 z:=(aU.new _ _ _ _).alloc _;have hR:aU ((w.alloc (.cells (Ks .u8 256 z).toArray 32)).alloc (.cells (Ks .u8 256 (λ_=>0)).toArray 32)) (w.heap.size+1) 32 256 (λ_=>0):=by
  have:=aU.new (w.alloc (.cells (Ks .u8 256 z).toArray 32)) 32 256 (λ_=>0);simp only[World.size_alloc] at this;exact this
 have hL:Below w.heap.size w ((w.alloc (.cells (Ks .u8 256 z).toArray 32)).alloc (.cells (Ks .u8 256 (λ_=>0)).toArray 32)):=(ag.alloc af _).alloc (by simp) _;have hsa:=λW=>bw w.heap.size 0 W
 have Ny:=λW=>ct w.heap.size 0 0 252 0 252 rfl rfl (by omega) (by omega) (by omega) W
 have hcb:=B9 z 252;go_enter Tryz.func98,Tryz.ntmps98;go_wp2_with fail;refine Mv.bH (SeC w z) 0 (by kernel_rfl) (by kernel_rfl) (by kernel_rfl) ⟨hB,hR,hL.drew⟩ ?_;clear hB hR hL;intro hne
 (refine Mv.aX 2 (by kernel_rfl) ?_;simp only[List.take,List.drop])
 iterate 2 go_big_quiet_step (fail)
 refine wpQuiet_nil ?_;refine Mv.cf rfl rfl 72 #[.slice (some ⟨w.heap.size,0,none⟩) 252 256] (.int .u32 (kh z 252)) 1 (λW=>by kernel_rfl) (λW h=> ?c1) ?_
 case c1=>
  refine(iI (some ⟨w.heap.size,0,none⟩) 252 256 z W (by omega) (.inr ⟨_,_,rfl,h.b.bQ.take 252 (by omega)⟩) hzb).mono ?_;rintro e w6 ⟨rfl,rfl⟩;exact⟨rfl,h.b,h.r,h.bel⟩
 refine Mv.frame ?_;refine Mv.cf rfl rfl 71 #[.slice (some ⟨w.heap.size,0,none⟩) 256 256,.int .i64 252,.int .u32 (kh z 252)] (.bool true) 2 (λW=>by kernel_rfl) (λW h=> ?c2) ?_
 case c2=>
  refine(dm w.heap.size 0 256 256 252 (kh z 252) z W (by omega) (by omega) (by omega) hcb.1 hcb.2 h.b.bQ hzb (h.b.soft 0 256)).mono ?_;rintro e w6 ⟨rfl,hp⟩;exact⟨rfl,h.b.kD hp,h.r.only hp.only (by omega),h.bel.trans (hp.only.below af)⟩
 refine Mv.frame ?_;refine Mv.bI ?_;rintro w6 ⟨lr,Ka,TO⟩;rw[if_neg (by decide)] at lr;clear hne hsa Ny;go_wp2_with (first|(refine gm rfl (.tmp 1) rfl w.heap.size (me z) rfl lr ?_)|(refine bm rfl (.tmp 2) (.tmp 7) rfl (w.heap.size+1) (me z) _ rfl rfl Ka ?_))
 intro w7 Pv DL;go_wp2_with fail;exact bodyPost_ret (fI rfl _ _ (w.heap.size+1) _ rfl Pv) rfl ⟨rfl,TO.trans (DL.below (by omega))⟩
structure zJ(w:World)(G S I J O:Int)(g:Nat)(l:Nat->Int)(k:Nat)(v:Int)(j:Nat)(W:World):Prop where
 s:At W w.heap.size 47 (ax G S I J O)
 r:aU W (w.heap.size+1) 32 256 (λ_=>0)
 b:aU W g 32 256 (hz (if j=0 then l else upd l k v))
 bel:Below w.heap.size w W
structure WrD(w:World)(G S I J O:Int)(g:Nat)(l:Nat->Int)(j:Nat)(W:World):Prop where
 s:At W w.heap.size 47 (ax G S I J O)
 r:aU W (w.heap.size+1) 32 256 (λ_=>0)
 b:aU W g 32 256 (hz (if j=0 then l else qL l 8 O))
 bel:Below w.heap.size w W
theorem pb(G S I J O:Int)(hO:0<=O/\O<4294967296)(w:World):
  Calls Tryz.prog 60 #[gJ G S I J O] w λe w'=>e= .returned (.tuple #[aR (oz G S I J O),.int .i64 (xJ G S I J O)])/\Below w.heap.size w w':=by
 have hal:=cW;obtain⟨W,hW⟩:=aa ((w.alloc (.cells (ax G S I J O) 47)).alloc (.cells (Ks .u8 256 (λ_=>0)).toArray 32));have hS:At W w.heap.size 47 (ax G S I J O):=by rw[hW];exact(At.new w _ _).alloc _
 have hR:aU W (w.heap.size+1) 32 256 (λ_=>0):=by
  rw[hW];have:=aU.new (w.alloc (.cells (ax G S I J O) 47)) 32 256 (λ_=>0);simp only[World.size_alloc] at this;exact this
 have hL:Below w.heap.size w W:=by rw[hW];exact(ag.alloc af _).alloc (by simp) _
 have HW:=ah hW;clear hW;go_enter Tryz.func60,Tryz.ntmps60;have yN:At ((w.alloc (.cells (ax G S I J O) 47)).alloc (.cells (Ks .u8 256 (λ_=>0)).toArray 32)) w.heap.size 47 (ax G S I J O):=(At.new w _ _).alloc _;have hg0:=yN.lT;go_wp2_with (first|(refine nr rfl 23 (.tmp 5) rfl w.heap.size 0 (ai G S I J).toList _ rfl hg0 Tryz.underlying23 rfl (by kernel_rfl) ?_))
 rw[<-HW.Z];clear HW yN hg0;refine(eu G S I J W).mono ?_;rintro e w1 ⟨rfl,hb1⟩;have hS1:=hS.below hb1 hS.lt;have tr:=hR.below hb1 hR.lt;have fW:Below w.heap.size w w1:=hL.trans (hb1.mono hL.size);clear hS hR hL hb1;cases hm:aT G S I J with
 |false=>
  have HO:Hd (qN G S I J O=false/\xJ G S I J O=50):=by show _/\_;unfold qN xJ;rw[hm];exact⟨rfl,rfl⟩
  clear hm;go_wp2_with (first|(refine bm rfl (.tmp 2) (.tmp 9) rfl (w.heap.size+1) (λ_=>0) _ rfl rfl tr ?_))
  intro w2 lq eI;go_wp2_with fail;exact bodyPost_ret (cw rfl _ _ (w.heap.size+1) _ rfl lq) rfl ⟨by rw[oz,HO.Z.1,HO.Z.2];rfl,fW.trans (eI.below (by omega))⟩
 |true=>
 have HM:=ah hm;obtain⟨p1,p2,p3,p4,p5,p6,p7,p8,p9,UW,UU⟩:=(bq G S I J).1 hm;have BW:=Cv p1 p2 p5 p6;have hw:IntKind.i64.wrap (G*I)=G*I:=IntWalk.i64_in _ (by omega);have JS:Hd (qn G S I J=G*I):=by show _=_;unfold qn;rw[hm];rfl
 have hwo:IntKind.i64.wrap O=O:=IntWalk.i64_in _ (by omega);have c0:w1.cell? ⟨w.heap.size,0,none⟩=some (.int .i64 G):=hS1.cell (i:=0) rfl;have c2:w1.cell? ⟨w.heap.size,2,none⟩=some (.int .i64 I):=hS1.cell (i:=2) rfl;have c4:w1.cell? ⟨w.heap.size,4,none⟩=some (.int .u32 O):=hS1.cell (i:=4) rfl;clear hm p7 UW UU
 by_cases ho:O<=G*I
 rotate_left
 ·have HO:Hd (qN G S I J O=false/\xJ G S I J O=2):=by
   show _/\_;unfold qN xJ;rw[HM.Z,JS.Z,if_pos rfl,if_neg ho,decide_eq_false ho];exact⟨rfl,rfl⟩
  have hq:decide (G*I<O)=true:=by rw[decide_eq_true_eq];omega
  clear ho;go_wp2_with (first|(refine bm rfl (.tmp 2) (.tmp 21) rfl (w.heap.size+1) (λ_=>0) _ rfl rfl tr ?_))
  intro w3 yO lS;go_wp2_with fail;exact bodyPost_ret (cw rfl _ _ (w.heap.size+1) _ rfl yO) rfl ⟨by rw[oz,HO.Z.1,HO.Z.2];rfl,fW.trans (lS.below (by omega))⟩
 have hq:decide (G*I<O)=false:=by rw[decide_eq_false_iff_not];omega
 have HO:Hd (qN G S I J O=true/\xJ G S I J O=0):=by
  show _/\_;unfold qN xJ;rw[HM.Z,JS.Z,if_pos rfl,if_pos ho,decide_eq_true ho];exact⟨rfl,rfl⟩
 clear ho;have Wn:=tr.lt;obtain⟨g,hg⟩:=aa w1.heap.size;have hg2:w.heap.size+2<=g:=by omega
 have st0:Hd (zJ w G S I J O g (λ_=>0) 0 0 0 (w1.alloc (.cells (Ks .u8 256 (λ_=>0)).toArray 32))):=
  ⟨hS1.alloc _,tr.alloc _,by rw[hg];exact(aU.new w1 _ _ _).congr λi _=>(BR i).symm,fW.alloc fW.size _⟩
 have hsa:=λW=>bw g 0 W
 have QU:=hsa;rw[hg] at QU;clear hS1 tr fW Wn;go_wp2_with fail;rw[<-hg];clear hg QU hq c0 c2 c4 hw BW;have e1:G%4294967296=G:=by omega
 have e2:S%4294967296=S:=by omega
 have e3:I%4294967296=I:=by omega
 have e4:J%4294967296=J:=by omega
 refine(Fj g _ 0 0 827216465 rfl (by omega) (by omega) (by omega) _ st0.Z.b).mono ?_;rintro e w2 ⟨rfl,yP,eI⟩;have fj:Hd (zJ w G S I J O g (qL (λ_=>0) 0 827216465) 0 0 0 w2):=⟨st0.Z.s.only eI (by omega),st0.Z.r.only eI (by omega),yP,st0.Z.bel.trans (eI.below (by omega))⟩;clear st0 yP eI;go_wp2_with fail;refine(nE g _ 2 4 1 rfl (by omega) (by omega) (by omega) _ fj.Z.b).mono ?_;rintro e w3 ⟨rfl,It,lS⟩;have ec:Hd (zJ w G S I J O g (upd (qL (λ_=>0) 0 827216465) 2 1) 0 0 0 w3):=⟨fj.Z.s.only lS (by omega),fj.Z.r.only lS (by omega),It,fj.Z.bel.trans (lS.below (by omega))⟩;clear fj It lS;go_wp2_with fail;refine(nE g _ 3 6 256 rfl (by omega) (by omega) (by omega) _ ec.Z.b).mono ?_;rintro e w4 ⟨rfl,hB4,ke⟩;have fw:zJ w G S I J O g (upd (upd (qL (λ_=>0) 0 827216465) 2 1) 3 256) 0 0 0 w4:=⟨ec.Z.s.only ke (by omega),ec.Z.r.only ke (by omega),hB4,ec.Z.bel.trans (ke.below (by omega))⟩;clear ec hB4 ke;obtain⟨l3,hl3⟩:=aa (upd (upd (qL (λ_=>0) 0 827216465) 2 1) 3 256);rw[<-hl3] at fw;have SV:=ah hl3;clear hl3;have hf4:∀x:a9 (λW=>∃j,zJ w G S I J O g l3 4 G j W),x.W.cell? ⟨w.heap.size,0,none⟩=some (.int .i64 G):=λx=>by obtain⟨j,h⟩:=x.h;exact h.s.cell (i:=0) rfl
 go_wp2_with fail;refine Mv.bH (zJ w G S I J O g l3 4 G) 0 (by kernel_rfl) (by kernel_rfl) (by kernel_rfl) ⟨fw.s,fw.r,fw.b,fw.bel.drew⟩ ?_;clear fw;intro hne
 (refine Mv.aX 5 (by kernel_rfl) ?_;simp only[List.take,List.drop])
 iterate 5 go_big_quiet_step (fail)
 refine wpQuiet_nil ?_;refine Mv.cf rfl rfl 97 #[.slice (some ⟨g,0,none⟩) 256 256,.int .i64 8,.int .u32 G] (.bool true) 1 (λW=>by kernel_rfl) (λW h=> ?c4) ?_
 case c4=>
  refine(nE g l3 4 8 G rfl (by omega) (by omega) (by omega) W h.b).mono ?_;rintro e w6 ⟨rfl,lr,jo⟩;exact⟨rfl,h.s.only jo (by omega),h.r.only jo (by omega),lr,h.bel.trans (jo.below (by omega))⟩
 refine Mv.frame ?_;refine Mv.bI ?_;intro MB E3;have ij:zJ w G S I J O g (upd l3 4 G) 0 0 0 MB:=⟨E3.s,E3.r,E3.b,E3.bel⟩;clear hne hf4 E3;obtain⟨l4,hl4⟩:=aa (upd l3 4 G);rw[<-hl4] at ij;have PZ:=ah hl4;clear hl4;have hf5:∀x:a9 (λW=>∃j,zJ w G S I J O g l4 5 S j W),x.W.cell? ⟨w.heap.size,1,none⟩=some (.int .i64 S):=λx=>by obtain⟨j,h⟩:=x.h;exact h.s.cell (i:=1) rfl
 go_wp2_with fail;refine Mv.bH (zJ w G S I J O g l4 5 S) 0 (by kernel_rfl) (by kernel_rfl) (by kernel_rfl) ⟨ij.s,ij.r,ij.b,ij.bel.drew⟩ ?_;clear ij;intro hne
 (refine Mv.aX 5 (by kernel_rfl) ?_;simp only[List.take,List.drop])
 iterate 5 go_big_quiet_step (fail)
 refine wpQuiet_nil ?_;refine Mv.cf rfl rfl 97 #[.slice (some ⟨g,0,none⟩) 256 256,.int .i64 10,.int .u32 S] (.bool true) 1 (λW=>by kernel_rfl) (λW h=> ?c5) ?_
 case c5=>
  refine(nE g l4 5 10 S rfl (by omega) (by omega) (by omega) W h.b).mono ?_;rintro e w6 ⟨rfl,lr,jo⟩;exact⟨rfl,h.s.only jo (by omega),h.r.only jo (by omega),lr,h.bel.trans (jo.below (by omega))⟩
 refine Mv.frame ?_;refine Mv.bI ?_;intro P9 EZ;have eC:zJ w G S I J O g (upd l4 5 S) 0 0 0 P9:=⟨EZ.s,EZ.r,EZ.b,EZ.bel⟩;clear hne hf5 EZ;obtain⟨l5,JW⟩:=aa (upd l4 5 S);rw[<-JW] at eC;have HL5:=ah JW;clear JW;have hf6:∀x:a9 (λW=>∃j,zJ w G S I J O g l5 6 I j W),x.W.cell? ⟨w.heap.size,2,none⟩=some (.int .i64 I):=λx=>by obtain⟨j,h⟩:=x.h;exact h.s.cell (i:=2) rfl
 go_wp2_with fail;refine Mv.bH (zJ w G S I J O g l5 6 I) 0 (by kernel_rfl) (by kernel_rfl) (by kernel_rfl) ⟨eC.s,eC.r,eC.b,eC.bel.drew⟩ ?_;clear eC;intro hne
 (refine Mv.aX 5 (by kernel_rfl) ?_;simp only[List.take,List.drop])
 iterate 5 go_big_quiet_step (fail)
 refine wpQuiet_nil ?_;refine Mv.cf rfl rfl 97 #[.slice (some ⟨g,0,none⟩) 256 256,.int .i64 12,.int .u32 I] (.bool true) 1 (λW=>by kernel_rfl) (λW h=> ?c6) ?_
 case c6=>
  refine(nE g l5 6 12 I rfl (by omega) (by omega) (by omega) W h.b).mono ?_;rintro e w6 ⟨rfl,lr,jo⟩;exact⟨rfl,h.s.only jo (by omega),h.r.only jo (by omega),lr,h.bel.trans (jo.below (by omega))⟩
 refine Mv.frame ?_;refine Mv.bI ?_;intro IW EY;have eQ:zJ w G S I J O g (upd l5 6 I) 0 0 0 IW:=⟨EY.s,EY.r,EY.b,EY.bel⟩;clear hne hf6 EY;obtain⟨l6,Wb⟩:=aa (upd l5 6 I);rw[<-Wb] at eQ;have HL6:=ah Wb;clear Wb;have hf7:∀x:a9 (λW=>∃j,zJ w G S I J O g l6 7 J j W),x.W.cell? ⟨w.heap.size,3,none⟩=some (.int .i64 J):=λx=>by obtain⟨j,h⟩:=x.h;exact h.s.cell (i:=3) rfl
 go_wp2_with fail;refine Mv.bH (zJ w G S I J O g l6 7 J) 0 (by kernel_rfl) (by kernel_rfl) (by kernel_rfl) ⟨eQ.s,eQ.r,eQ.b,eQ.bel.drew⟩ ?_;clear eQ;intro hne
 (refine Mv.aX 5 (by kernel_rfl) ?_;simp only[List.take,List.drop])
 iterate 5 go_big_quiet_step (fail)
 refine wpQuiet_nil ?_;refine Mv.cf rfl rfl 97 #[.slice (some ⟨g,0,none⟩) 256 256,.int .i64 14,.int .u32 J] (.bool true) 1 (λW=>by kernel_rfl) (λW h=> ?c7) ?_
 case c7=>
  refine(nE g l6 7 14 J rfl (by omega) (by omega) (by omega) W h.b).mono ?_;rintro e w6 ⟨rfl,lr,jo⟩;exact⟨rfl,h.s.only jo (by omega),h.r.only jo (by omega),lr,h.bel.trans (jo.below (by omega))⟩
 refine Mv.frame ?_;refine Mv.bI ?_;intro Pc EX;have jl:zJ w G S I J O g (upd l6 7 J) 0 0 0 Pc:=⟨EX.s,EX.r,EX.b,EX.bel⟩;clear hne hf7 EX;obtain⟨l7,Wa⟩:=aa (upd l6 7 J);rw[<-Wa] at jl;have HL7:=ah Wa;clear Wa;have TG:∀x:a9 (λW=>∃j,WrD w G S I J O g l7 j W),x.W.cell? ⟨w.heap.size,4,none⟩=some (.int .u32 O):=λx=>by obtain⟨j,h⟩:=x.h;exact h.s.cell (i:=4) rfl
 go_wp2_with fail;refine Mv.bH (WrD w G S I J O g l7) 0 (by kernel_rfl) (by kernel_rfl) (by kernel_rfl) ⟨jl.s,jl.r,jl.b,jl.bel.drew⟩ ?_;clear jl;intro hne
 (refine Mv.aX 3 (by kernel_rfl) ?_;simp only[List.take,List.drop])
 iterate 3 go_big_quiet_step (fail)
 refine wpQuiet_nil ?_;refine Mv.cf rfl rfl 71 #[.slice (some ⟨g,0,none⟩) 256 256,.int .i64 16,.int .u32 O] (.bool true) 1 (λW=>by kernel_rfl) (λW h=> ?c8) ?_
 case c8=>
  refine(Fj g l7 8 16 O rfl (by omega) hO.1 hO.2 W h.b).mono ?_;rintro e w6 ⟨rfl,lr,jo⟩;exact⟨rfl,h.s.only jo (by omega),h.r.only jo (by omega),lr,h.bel.trans (jo.below (by omega))⟩
 refine Mv.frame ?_;refine Mv.bI ?_;rintro YA ⟨_,N8,Ke,Ob⟩;rw[if_neg (by decide)] at Ke;have Uk:Hd (qL l7 8 O=IZ G S I J O):=by show _=_;rw[HL7.Z,HL6.Z,HL5.Z,PZ.Z,SV.Z];rfl
 rw[Uk.Z] at Ke;clear hne TG hsa Uk SV PZ HL5 HL6 HL7;go_wp2_with (first|(refine gm rfl (.tmp 4) rfl g (hz (IZ G S I J O)) rfl Ke ?_))
 refine(pa _ (oQ _) _).mono ?_;rintro e w19 ⟨rfl,N2⟩;have WX:=N8.below N2 N8.lt;have Xd:Below w.heap.size w w19:=Ob.trans (N2.mono Ob.size);clear N8 Ke Ob N2;go_wp2_with (first|(refine bm rfl (.tmp 2) (.tmp 57) rfl (w.heap.size+1) (me (hz (IZ G S I J O))) _ rfl rfl WX ?_))
 intro Yz WW VR;go_wp2_with fail;exact bodyPost_ret (cw rfl _ _ (w.heap.size+1) _ rfl WW) rfl ⟨by rw[oz,HO.Z.1,HO.Z.2];rfl,Xd.trans (VR.below (by omega))⟩
end Go.Proofs.YtphamecphmbipaaGreatDoor
