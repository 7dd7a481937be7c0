/- Texts of this claim, merged. -/
import Derived.Test.YtphamecphmbipaaGreatDoorZ22
import Derived.Test.YtphamecphmbipaaGreatDoorZ21
set_option linter.unusedVariables false
set_option maxRecDepth 100000
set_option maxHeartbeats 16000000

namespace Go.Proofs.YtphamecphmbipaaGreatDoor
open Go.RowKit
variable {W' a w w':World} {s t j p k g M q:Nat} {T:TypeId} {S:Nat->Prop} {m:MS} {f:Nat->List Value} {x:Im} {z:Nat->Int} {l:Nat->Bool}
theorem vG(g s i j:Nat)(hm:aT g s i j=true)(BW:g*i<=256)(w:World):Calls Tryz.prog 28 #[bV g s i j] w λe w'=>e= .returned (.int .i64 ((g*i:Nat):Int))/\Below w.heap.size w w':=by
 have hA:=At.new w 23 (ai g s i j);have HL:Hd (Below w.heap.size w (w.alloc (.cells (ai g s i j) 23))):=ag.alloc af _;have HM:=ah hm;obtain⟨N,hN⟩:=aa ((g:Int)*(i:Int):Int);have e:((g*i:Nat):Int)=(g:Int)*(i:Int):=Int.natCast_mul _ _;have Px:0<=(g:Int)*(i:Int)/\(g:Int)*(i:Int)<=256:=by omega
 have HE:=ah e;clear hm e BW hN;go_enter Tryz.func28,Tryz.ntmps28;go_wp2_with (first|(refine aB rfl 23 (.tmp 1) rfl _ _ _ rfl hA Tryz.underlying23 rfl (by kernel_rfl) ?_))
 refine(eu g s i j _).mono ?_;rintro e w1 ⟨rfl,hb1⟩;rw[HM.Z];have gU:=hA.below hb1 hA.lt;have kB:=ah (HL.Z.trans (hb1.mono HL.Z.size));have c0:w1.cell? ⟨w.heap.size,0,none⟩=some (.int .i64 (g:Int)):=gU.cell (i:=0) rfl;have c2:w1.cell? ⟨w.heap.size,2,none⟩=some (.int .i64 (i:Int)):=gU.cell (i:=2) rfl;clear hA HL hb1 gU;go_wp2_with fail;go_ret;exact⟨by rw[HE.Z];rfl,kB.Z⟩
theorem jZ(g s i j γ b:Nat)(hm:aT g s i j=true)(hγ:γ<g)(hb:b<i)(hg4:g<=4)(zH:i<=64)(w:World):Calls Tryz.prog 108 #[bV g s i j,.int .i64 (γ:Int),.int .i64 (b:Int)] w λe w'=>e= .returned (.int .i64 ((1+γ*i+b:Nat):Int))/\Below w.heap.size w w':=by
 have hA:=At.new w 23 (ai g s i j);have HL:Hd (Below w.heap.size w (w.alloc (.cells (ai g s i j) 23))):=ag.alloc af _;have HM:=ah hm;have e:((1+γ*i+b:Nat):Int)=1+(γ:Int)*(i:Int)+(b:Int):=by rw[Int.natCast_add,Int.natCast_add,Int.natCast_mul];rfl
 have h1:γ*i<=4*64:=Nat.mul_le_mul (by omega) zH;have h2:((γ*i:Nat):Int)=(γ:Int)*(i:Int):=Int.natCast_mul _ _;have Px:0<=(γ:Int)*(i:Int)/\(γ:Int)*(i:Int)<=256:=by omega
 have HE:=ah e;have d1:decide ((γ:Int)<0)=false:=decide_eq_false (by omega);have d2:decide ((g:Int)<=(γ:Int))=false:=decide_eq_false (by omega);have d3:decide ((b:Int)<0)=false:=decide_eq_false (by omega);have d4:decide ((i:Int)<=(b:Int))=false:=decide_eq_false (by omega);have TY:decide (g<=γ)=false:=decide_eq_false (by omega);have d4':decide (i<=b)=false:=decide_eq_false (by omega);clear hm e h1 h2;go_enter Tryz.func108,Tryz.ntmps108;go_wp2_with (first|(refine aB rfl 23 (.tmp 3) rfl _ _ _ rfl hA Tryz.underlying23 rfl (by kernel_rfl) ?_))
 refine(eu g s i j _).mono ?_;rintro e w1 ⟨rfl,hb1⟩;rw[HM.Z];have gU:=hA.below hb1 hA.lt;have kB:=ah (HL.Z.trans (hb1.mono HL.Z.size));have c0:w1.cell? ⟨w.heap.size,0,none⟩=some (.int .i64 (g:Int)):=gU.cell (i:=0) rfl;have c2:w1.cell? ⟨w.heap.size,2,none⟩=some (.int .i64 (i:Int)):=gU.cell (i:=2) rfl;clear hA HL hb1 gU;go_wp2_with fail;go_ret;exact⟨by rw[HE.Z];rfl,kB.Z⟩
structure EB(W:World)(s t j n b:Nat):Prop where
 l:aM W b 0 4 n (gZ s t j)
 lt:b<W.heap.size
theorem EB.below{W:World}{n b:Nat}(h:EB W s t j n b)(hb:Below W.heap.size W W'):EB W' s t j n b:=⟨aM.below h.l hb h.lt,Nat.lt_of_lt_of_le h.lt hb.size⟩
theorem EB.cells{W:World}{n b:Nat}(h:EB W s t j n b)(hp:p<n){K A B C:Int}(he:gZ s t j p=tv K A B C):
  W.cell? ⟨b,p*4,none⟩=some (.int .u8 K)/\W.cell? ⟨b,p*4+1,none⟩=some (.int .i64 A)/\W.cell? ⟨b,p*4+2,none⟩=some (.int .i64 B)/\W.cell? ⟨b,p*4+3,none⟩=some (.int .i64 C):=by
 have h0:=h.l p hp 0 _ (by rw[he];rfl);have h1:=h.l p hp 1 _ (by rw[he];rfl);have h2:=h.l p hp 2 _ (by rw[he];rfl);have h3:=h.l p hp 3 _ (by rw[he];rfl);rw[Nat.zero_add] at h0 h1 h2 h3;exact⟨h0,h1,h2,h3⟩
theorem nJ(g s i j:Nat)(hm:aT g s i j=true)(w:World):Calls Tryz.prog 57 #[bV g s i j] w λe w'=>Below w.heap.size w w'/\∃b cap,e= .returned (.slice (some ⟨b,0,none⟩) (2+j+g*s) cap)/\EB w' s (i/4) j (2+j+g*s) b/\2+j+g*s<=cap/\cap<=maxLen:=by
 refine(nK g s i j w).mono ?_;rintro e w' ⟨hb,h⟩;refine⟨hb,?_⟩;rcases h with⟨h,_⟩|⟨_,v,rfl,hv⟩
 ·rw[hm] at h;cases h
 simp only[Int.toNat_natCast] at hv;obtain⟨b,cap,rfl,h1,h2,h3,h4⟩:=au.nZ hv (by omega);exact⟨b,cap,rfl,⟨au.bQ hv (qd _ _ _),h2⟩,h3,h4⟩
theorem CK(hs:1<=s)(hp:p<2+j+k*s):∃K A B C:Int,gZ s t j p=tv K A B C/\((K==4)=false\/((K==4)=true/\(A==(k:Int))=false)):=by
 unfold gZ;split
 ·exact⟨_,_,_,_,rfl,.inl rfl⟩
 split
 ·exact⟨_,_,_,_,rfl,.inl rfl⟩
 split
 ·exact⟨_,_,_,_,rfl,.inl rfl⟩
 have hlt:(p-(2+j))/s<k:=(Nat.div_lt_iff_lt_mul (by omega)).2 (by omega);split
 ·exact⟨_,_,_,_,rfl,.inr ⟨rfl,by rw[beq_eq_false_iff_ne];omega⟩⟩
 split
 ·exact⟨_,_,_,_,rfl,.inl rfl⟩
 split
 ·exact⟨_,_,_,_,rfl,.inl rfl⟩
 exact⟨_,_,_,_,rfl,.inl rfl⟩
theorem kW(g s i j k:Nat)(hm:aT g s i j=true)(hk:k<g)(w:World):Calls Tryz.prog 69 #[bV g s i j,.int .i64 (k:Int)] w λe w'=>e= .returned (.tuple #[.int .i64 ((2+j+k*s:Nat):Int),.bool true])/\Below w.heap.size w w':=by
 obtain⟨h1,h2,h3,h4,h5,h6,h7,h8,h9,h10,h11⟩:=dX hm;have hA:=At.new w 23 (ai g s i j);have HL:Hd (Below w.heap.size w (w.alloc (.cells (ai g s i j) 23))):=ag.alloc af _;have hks:(k+1)*s<=g*s:=Nat.mul_le_mul_right _ hk;rw[Nat.succ_mul] at hks;have HST:Hd (∀p,p<2+j+k*s->∃K A B C:Int,gZ s (i/4) j p=tv K A B C/\((K==4)=false\/((K==4)=true/\(A==(k:Int))=false))):=λp hp=>CK (by omega) hp
 have qA:Hd (gZ s (i/4) j (2+j+k*s)=tv 4 (k:Int) 0 0):=by
  have:=z5 s (i/4) j k (a:=0) (by omega);rw[Nat.add_zero,if_pos rfl] at this;exact this
 have HM:=ah hm;obtain⟨T,hT⟩:=aa (2+j+k*s);obtain⟨n,hn⟩:=aa (2+j+g*s);have TK:T<n:=by omega
 have gi:n<=2048:=by omega
 rw[<-hT] at HST qA ⊢;have kJ:=ah hn;clear hm hks hT hn h11;go_enter Tryz.func69,Tryz.ntmps69;go_wp2_with (first|(refine aB rfl 23 (.tmp 2) rfl _ _ _ rfl hA Tryz.underlying23 rfl (by kernel_rfl) ?_))
 refine(nJ g s i j HM.Z _).mono ?_;rintro e w1 ⟨hb1,b,cap,rfl,gG,hcap,hcm⟩;have kB:=ah (HL.Z.trans (hb1.mono HL.Z.size));have Bj:=ah gG;rw[<-kJ.Z] at Bj ⊢;clear hA HL hb1 gG hcap hcm;go_wp2_with fail
 go_loop [7] (λu=>∃p:Nat,p<=T/\u= .int .i64 (p:Int)) (λu=>n-(intOf u).toNat)
 case atStart=>exact⟨0,by omega,rfl⟩
 obtain⟨p,hp,rfl⟩:=hrel;have hpn:(p:Int)<(n:Int):=by omega
 by_cases Q4:p<T
 ·obtain⟨K,A,B,C,he,hc⟩:=HST.Z p Q4
  obtain⟨c0,c1,_,_⟩:=Bj.Z.cells (by omega) he;rcases hc with q0|⟨q0,q1⟩
  ·clear he
   go_wp2_with fail
   go_round
   case rel=>exact⟨p+1,by omega,by go_num⟩
   simp[intOf];omega
  clear he;go_wp2_with fail
  go_round
  case rel=>exact⟨p+1,by omega,by go_num⟩
  simp[intOf];omega
 obtain rfl:p=T:=by omega
 obtain⟨c0,c1,_,_⟩:=Bj.Z.cells TK qA.Z;clear Q4;go_wp2_with fail;refine bodyPost_ret (results_tmp2 rfl _ _ _) rfl ?_;exact⟨rfl,kB.Z⟩
theorem mD(g s i j b:Nat)(hm:aT g s i j=true)(hb:b<2+j+g*s)(K A B C:Int)(he:gZ s (i/4) j b=tv K A B C)(w:World):Calls Tryz.prog 144 #[bV g s i j,.int .i64 (b:Int)] w λe w'=>e= .returned (.tuple #[.int .u8 K,.int .i64 A,.int .i64 B])/\Below w.heap.size w w':=by
 obtain⟨h1,h2,h3,h4,h5,h6,h7,h8,h9,h10,h11⟩:=dX hm;have hA:=At.new w 23 (ai g s i j);have HL:Hd (Below w.heap.size w (w.alloc (.cells (ai g s i j) 23))):=ag.alloc af _;have HM:=ah hm;have HE:=ah he;clear hm he;go_enter Tryz.func144,Tryz.ntmps144;go_wp2_with (first|(refine aB rfl 23 (.tmp 2) rfl _ _ _ rfl hA Tryz.underlying23 rfl (by kernel_rfl) ?_))
 refine(nJ g s i j HM.Z _).mono ?_;rintro e w1 ⟨hb1,q,cap,rfl,gG,hcap,hcm⟩;have kB:=ah (HL.Z.trans (hb1.mono HL.Z.size));obtain⟨n,hn⟩:=aa (2+j+g*s);have gi:n<=2048:=by omega
 rw[<-hn] at gG hb ⊢;have d1:decide ((b:Int)<0)=false:=decide_eq_false (by omega);have d2:decide ((n:Int)<=(b:Int))=false:=decide_eq_false (by omega);have TY:decide (n<=b)=false:=decide_eq_false (by omega);have ll:(b:Int)<(n:Int):=by omega
 have Bj:=ah gG;clear hA HL hb1 gG hn h11 hcap hcm;go_wp2_with fail;refine ar (λW=>EB W s (i/4) j n q/\Below w.heap.size w W) ⟨Bj.Z.below ⟨rfl,rfl,rfl,Nat.le_refl _,λ_ _=>rfl⟩,kB.Z.drew⟩ ?_;clear Bj kB;intro hne;have c0:∀y:a9 (λW=>EB W s (i/4) j n q/\Below w.heap.size w W),y.W.cell? ⟨q,b*4,none⟩=some (.int .u8 K):=λy=>(y.h.1.cells hb HE.Z).1
 have c1:∀y:a9 (λW=>EB W s (i/4) j n q/\Below w.heap.size w W),y.W.cell? ⟨q,b*4+1,none⟩=some (.int .i64 A):=λy=>(y.h.1.cells hb HE.Z).2.1
 have c2:∀y:a9 (λW=>EB W s (i/4) j n q/\Below w.heap.size w W),y.W.cell? ⟨q,b*4+2,none⟩=some (.int .i64 B):=λy=>(y.h.1.cells hb HE.Z).2.2.1
 repeat go_big_quiet_step (fail)
 refine wpQuiet_nil ?_;intro w5 h5;have HB:=ah h5.Z.2;clear h5 hne c0 c1 c2;go_wp2_with fail;refine bodyPost_ret (results_tmp3 rfl _ _ _) rfl ?_;exact⟨rfl,HB.Z⟩
theorem IX{i γ r T:Nat}(hs:1<=s)(hi:i=4*t)(hr:r<i)(hT:T=1+γ*i+r)(hp:p<2+j+γ*s+(2+r/4))(hrs:2+r/4<s)(hγ:γ<=4)(zH:i<=64):∃K A B C:Int,gZ s t j p=tv K A B C/\((K==6)=false\/((K==6)=true/\C+4<=(T:Int)/\0<=C)):=by
 unfold gZ;split
 ·exact⟨_,_,_,_,rfl,.inl rfl⟩
 split
 ·exact⟨_,_,_,_,rfl,.inl rfl⟩
 split
 ·exact⟨_,_,_,_,rfl,.inl rfl⟩
 split
 ·exact⟨_,_,_,_,rfl,.inl rfl⟩
 split
 ·exact⟨_,_,_,_,rfl,.inl rfl⟩
 split
 ·rename_i h1 h2 h3 h4 h5 h6
  refine⟨_,_,_,_,rfl,.inr ⟨rfl,?_,?_⟩⟩
  ·have yI:=Nat.div_add_mod (p-(2+j)) s
   have Pm:=Nat.mod_lt (p-(2+j)) (show 0<s by omega);generalize (p-(2+j))%s=a at*;generalize (p-(2+j))/s=q at*;have hq:q<=γ:=by
    rcases Nat.lt_or_ge γ q with h|h
    ·have:(γ+1)*s<=q*s:=Nat.mul_le_mul_right _ h
     rw[Nat.succ_mul] at this;rw[Nat.mul_comm] at yI;omega
    exact h
   have e1:(q:Int)*(4*(t:Int))=((q*i:Nat):Int):=by rw[hi,Int.natCast_mul,Int.natCast_mul];rfl
   rw[e1]
   by_cases hqe:q=γ
   ·subst hqe
    rw[Nat.mul_comm] at yI;omega
   have:(q+1)*i<=γ*i:=Nat.mul_le_mul_right _ (by omega);rw[Nat.succ_mul] at this;omega
  have e1:(0:Int)<=(((p-(2+j))/s:Nat):Int)*(4*(t:Int)):=Int.mul_nonneg (Int.natCast_nonneg _) (by omega);generalize (((p-(2+j))/s:Nat):Int)*(4*(t:Int))=Q at*;have h7:2<=(p-(2+j))%s:=by omega
  generalize (p-(2+j))%s=a at*;omega
 exact⟨_,_,_,_,rfl,.inl rfl⟩
theorem pf(g s i j γ r:Nat)(hm:aT g s i j=true)(hγ:γ<g)(hr:r<i)(w:World):Calls Tryz.prog 67 #[bV g s i j,.int .i64 ((1+γ*i+r:Nat):Int)] w λe w'=>e= .returned (.tuple #[.int .i64 ((2+j+γ*s+(2+r/4):Nat):Int),.int .i64 ((64*(r%4):Nat):Int),.bool true])/\Below w.heap.size w w':=by
 obtain⟨h1,h2,h3,h4,h5,h6,h7,h8,h9,h10,h11⟩:=dX hm;have hA:=At.new w 23 (ai g s i j);have HL:Hd (Below w.heap.size w (w.alloc (.cells (ai g s i j) 23))):=ag.alloc af _;have hks:(γ+1)*s<=g*s:=Nat.mul_le_mul_right _ hγ;rw[Nat.succ_mul] at hks;have BW:γ*i<=4*64:=Nat.mul_le_mul (by omega) h6;have HST:Hd (∀p,p<2+j+γ*s+(2+r/4)->∃K A B C:Int,gZ s (i/4) j p=tv K A B C/\((K==6)=false\/((K==6)=true/\C+4<=((1+γ*i+r:Nat):Int)/\0<=C))):=λp hp=>IX (by omega) (by omega) hr rfl hp (by omega) (by omega) h6
 have qA:Hd (gZ s (i/4) j (2+j+γ*s+(2+r/4))=tv 6 (γ:Int) ((2+r/4:Nat):Int) ((1+γ*i+4*(r/4):Nat):Int)):=by
  have:=z5 s (i/4) j γ (a:=2+r/4) (by omega);rw[if_neg (by omega),if_neg (by omega),if_pos (by omega)] at this;show _=_;rw[this];have e1:(γ:Int)*(4*((i/4:Nat):Int))=((γ*i:Nat):Int):=by rw[Int.natCast_mul];congr 1;omega
  rw[e1];have e2:(1:Int)+((γ*i:Nat):Int)+4*(((2+r/4:Nat):Int)-2)=((1+γ*i+4*(r/4):Nat):Int):=by omega
  rw[e2]
 have HR:Hd (64*(((1+γ*i+r:Nat):Int)-((1+γ*i+4*(r/4):Nat):Int))=((64*(r%4):Nat):Int)):=by show _=_;omega
 have HM:=ah hm;clear hm;obtain⟨Z,hZ⟩:=aa (1+γ*i+r);obtain⟨D,hD⟩:=aa (1+γ*i+4*(r/4));have hDZ:D<=Z/\Z<D+4/\Z<=1000:=by omega
 obtain⟨T,hT⟩:=aa (2+j+γ*s+(2+r/4));obtain⟨n,hn⟩:=aa (2+j+g*s);have TK:T<n:=by omega
 have gi:n<=2048:=by omega
 rw[<-hZ,<-hT] at HST;rw[<-hT,<-hD] at qA;rw[<-hZ,<-hD] at HR;rw[<-hT,<-hZ];have kJ:=ah hn;clear hks hT hn h11 hZ hD BW;go_enter Tryz.func67,Tryz.ntmps67;go_wp2_with (first|(refine aB rfl 23 (.tmp 2) rfl _ _ _ rfl hA Tryz.underlying23 rfl (by kernel_rfl) ?_))
 refine(nJ g s i j HM.Z _).mono ?_;rintro e w1 ⟨hb1,b,cap,rfl,gG,hcap,hcm⟩;have kB:=ah (HL.Z.trans (hb1.mono HL.Z.size));have Bj:=ah gG;rw[<-kJ.Z] at Bj ⊢;clear hA HL hb1 gG hcap hcm;go_wp2_with fail
 go_loop [8] (λu=>∃p:Nat,p<=T/\u= .int .i64 (p:Int)) (λu=>n-(intOf u).toNat)
 case atStart=>exact⟨0,by omega,rfl⟩
 obtain⟨p,hp,rfl⟩:=hrel;have hpn:(p:Int)<(n:Int):=by omega
 by_cases Q4:p<T
 ·obtain⟨K,A,B,C,he,hc⟩:=HST.Z p Q4
  obtain⟨c0,_,_,c3⟩:=Bj.Z.cells (by omega) he;rcases hc with q0|⟨q0,q1,q2⟩
  ·clear he
   go_wp2_with fail
   go_round
   case rel=>exact⟨p+1,by omega,by go_num⟩
   simp[intOf];omega
  have d1:decide (C<=(Z:Int))=true:=decide_eq_true (by omega);have d2:decide ((Z:Int)<C+4)=false:=decide_eq_false (by omega);clear he;go_wp2_with fail
  go_round
  case rel=>exact⟨p+1,by omega,by go_num⟩
  simp[intOf];omega
 obtain rfl:p=T:=by omega
 obtain⟨c0,_,_,c3⟩:=Bj.Z.cells TK qA.Z;have d1:decide ((D:Int)<=(Z:Int))=true:=decide_eq_true (by omega);have d2:decide ((Z:Int)<(D:Int)+4)=true:=decide_eq_true (by omega);have d1':decide (D<=Z)=true:=decide_eq_true (by omega);have TY:decide (Z<D+4)=true:=decide_eq_true (by omega);clear Q4;go_wp2_with fail;refine ar (λW=>EB W s (i/4) j n b/\Below w.heap.size w W) ⟨Bj.Z.below ⟨rfl,rfl,rfl,Nat.le_refl _,λ_ _=>rfl⟩,kB.Z.drew⟩ ?_;clear Bj kB c0 c3;intro hne;have c3:∀y:a9 (λW=>EB W s (i/4) j n b/\Below w.heap.size w W),y.W.cell? ⟨b,p*4+3,none⟩=some (.int .i64 (D:Int)):=λy=>(y.h.1.cells TK qA.Z).2.2.2
 repeat go_big_quiet_step (fail)
 refine wpQuiet_nil ?_;intro w5 h5;have HB:=ah h5.Z.2;clear h5 hne c3;go_wp2_with fail;refine bodyPost_ret (results_tmp3 rfl _ _ _) rfl ?_;exact⟨by rw[<-HR.Z];rfl,HB.Z⟩
theorem Ao(g s i j γ r:Nat)(hm:aT g s i j=true)(hγ:γ<g)(hr:r<i)(w:World):Calls Tryz.prog 66 #[bV g s i j,.int .i64 ((1+γ*i+r:Nat):Int)] w λe w'=>e= .returned (.tuple #[.int .i64 (γ:Int),.int .i64 (r:Int),.bool true])/\Below w.heap.size w w':=by
 obtain⟨h1,h2,h3,h4,h5,h6,h7,h8,h9,h10,h11⟩:=dX hm;have hA:=At.new w 23 (ai g s i j);have HL:Hd (Below w.heap.size w (w.alloc (.cells (ai g s i j) 23))):=ag.alloc af _;have HM:=ah hm;have zN:Hd (∀γ' r':Nat,γ'<=γ->r'<i->(γ'=γ->r'<r)->((((1+γ'*i+r':Nat):Int))==((1+γ*i+r:Nat):Int))=false):=λγ' r' hg hr' hlt=>by
  rw[beq_eq_false_iff_ne]
  by_cases e:γ'=γ
  ·subst e;have:=hlt rfl;omega
  have:(γ'+1)*i<=γ*i:=Nat.mul_le_mul_right _ (by omega);rw[Nat.succ_mul] at this;omega
 have Mq:Hd (((((1+γ*i+r:Nat):Int))==((1+γ*i+r:Nat):Int))=true):=by show _=_;rw[beq_iff_eq]
 obtain⟨Z,hZ⟩:=aa (((1+γ*i+r:Nat):Int):Int);rw[<-hZ] at zN ⊢;have Mq:Hd ((((1+γ*i+r:Nat):Int)==Z)=true):=by show _=_;rw[hZ,beq_iff_eq]
 clear hm hZ h10 h11;go_enter Tryz.func66,Tryz.ntmps66;go_wp2_with (first|(refine aB rfl 23 (.tmp 2) rfl _ _ _ rfl hA Tryz.underlying23 rfl (by kernel_rfl) ?_))
 refine(eu g s i j _).mono ?_;rintro e w1 ⟨rfl,hb1⟩;rw[HM.Z];have zD:=ah (hA.below hb1 hA.lt);have kB:=ah (HL.Z.trans (hb1.mono HL.Z.size));clear hA HL hb1;go_wp2_with fail;go_loopw [7,8] (λu _ wr=>∃p:Nat,p<=γ/\u= .int .i64 (p:Int)/\At wr w.heap.size 23 (ai g s i j)/\Below w.heap.size w wr) (λu _ _=>g-(intOf u).toNat)
 case atStart=>exact⟨0,by omega,rfl,zD.Z,kB.Z⟩
 clear zD kB;obtain⟨p,hp,rfl,ha,hl⟩:=hrel;have oR:(p:Int)<(g:Int):=by omega
 have c0:wr.cell? ⟨w.heap.size,0,none⟩=some (.int .i64 (g:Int)):=ha.cell (i:=0) rfl;have HA:=ah ha;have HL:=ah hl;clear ha hl;go_wp2_with fail;clear c0;go_loopw [8] (λu wr=>∃b:Nat,b<=i/\(p=γ->b<=r)/\u= .int .i64 (b:Int)/\At wr w.heap.size 23 (ai g s i j)/\Below w.heap.size w wr) (λu _=>i-(intOf u).toNat)
 case atStart=>exact⟨0,by omega,λ_=>by omega,rfl,HA.Z,HL.Z⟩
 clear HA HL;obtain⟨b,hb,hbr,rfl,ha,hl⟩:=hrel;have c2:wr.cell? ⟨w.heap.size,2,none⟩=some (.int .i64 (i:Int)):=ha.cell (i:=2) rfl
 by_cases Zy:b<i
 ·have ad1:(b:Int)<(i:Int):=by omega
  go_wp2_with (first|(refine aB rfl 23 (.tmp 2) rfl _ _ _ rfl ha Tryz.underlying23 rfl (by kernel_rfl) ?_))
  refine(jZ g s i j p b HM.Z (by omega) Zy h2 h6 _).mono ?_;rintro e w3 ⟨rfl,hb3⟩;have HA:=ah (ha.below hb3 ha.lt);have HL:=ah (hl.trans (hb3.mono hl.size));clear ha hl hb3 c2
  by_cases hz:p=γ/\b=r
  ·obtain⟨rfl,rfl⟩:=hz
   have q0:=Mq.Z;obtain⟨Y,hY⟩:=aa (((1+p*i+b:Nat):Int):Int);rw[<-hY] at q0 ⊢;clear hY;go_wp2_with fail;refine bodyPost_ret (results_tmp3 rfl _ _ _) rfl ?_;exact⟨rfl,HL.Z⟩
  have q0:=zN.Z p b hp Zy (λe=>by have:=hbr e;by_cases e2:b=r;exact absurd ⟨e,e2⟩ hz;omega);obtain⟨Y,hY⟩:=aa (((1+p*i+b:Nat):Int):Int);rw[<-hY] at q0 ⊢;clear hY;go_wp2_with fail;go_roundw
  case rel=>exact⟨b+1,by omega,λe=>by have:=hbr e;by_cases e2:b=r;exact absurd ⟨e,e2⟩ hz;omega,by go_num,HA.Z,HL.Z⟩
  simp[intOf];omega
 obtain rfl:b=i:=by omega
 have hpγ:p≠γ:=λe=>by have:=hbr e;omega
 have HA:=ah ha;have HL:=ah hl;clear ha hl;go_wp2_with fail;go_roundw
 case rel=>exact⟨p+1,by omega,by go_num,HA.Z,HL.Z⟩
 simp[intOf];omega
structure dV(S:Nat->Prop)(w w':World):Prop where
 os:w'.os=w.os
 tape:w'.tape=w.tape
 output:w'.output=w.output
 size:w.heap.size<=w'.heap.size
 block:∀j,j<w.heap.size->¬S j->w'.heap[j]? =w.heap[j]?
theorem dV.refl(S:Nat->Prop)(w:World):dV S w w:=⟨rfl,rfl,rfl,Nat.le_refl _,λ_ _ _=>rfl⟩
theorem dV.trans{b c:World}(h:dV S a b)(k:dV S b c):dV S a c:=
 ⟨k.os.trans h.os,k.tape.trans h.tape,k.output.trans h.output,Nat.le_trans h.size k.size,λj hj hn=>(k.block j (Nat.lt_of_lt_of_le hj h.size) hn).trans (h.block j hj hn)⟩
theorem dV.b9{b:World}(h:Below a.heap.size a b):dV S a b:=⟨h.os,h.tape,h.output,h.size,λj hj _=>h.block j hj⟩
theorem dV.cE{b:World}(h:az g a b)(hg:S g):dV S a b:=⟨h.os,h.tape,h.output,by rw[h.size];exact Nat.le_refl _,λj _ hn=>h.block j (λe=>hn (e▸hg))⟩
theorem dV.jK{b:World}(h:a.grownBy b (some g))(hg:S g):dV S a b:=⟨h.os,h.tape,h.output,h.size,λj hj hn=>h.block j hj (λe=>hn (by injection e with e;exact e▸hg))⟩
theorem dV.mono{T:Nat->Prop}{b:World}(h:dV S a b)(hs:∀j,S j->T j):dV T a b:=⟨h.os,h.tape,h.output,h.size,λj hj hn=>h.block j hj (λe=>hn (hs j e))⟩
theorem dV.below{b:World}(h:dV S a b){B:Nat}(hB:B<=a.heap.size)(hs:∀j,S j->B<=j):Below B a b:=⟨h.os,h.tape,h.output,h.size,λj hj=>h.block j (by omega) (λe=>by have:=hs j e;omega)⟩
theorem At.pw{cs:Array Value}(h:At w g T cs)(k:dV S w w')(hg:¬S g):At w' g T cs:=(k.block g h.lt hg).trans h
theorem aE.pw{m n:Nat}(h:aE w g T m n f)(k:dV S w w')(hg:¬S g):aE w' g T m n f:=h.of_block (k.block g h.lt hg)
theorem cU.pw{a:Option Addr}{m n:Nat}(h:cU w a m n f)(k:dV S w w')(ha:∀b off,a=some ⟨b,off,none⟩->0<n->b<w.heap.size/\¬S b):cU w' a m n f:=by
 rcases h with h|⟨b,off,rfl,hs⟩
 ·exact .inl h
 by_cases hn:n=0
 ·exact .inl hn
 obtain⟨h1,h2⟩:=ha b off rfl (by omega);exact .inr ⟨b,off,rfl,λi hi j v hv=>(World.cell?_of_block (w:=w) (a:=⟨b,off+i*m+j,none⟩) (k.block b h1 h2)).trans (hs i hi j v hv)⟩
abbrev vL(q n g s i j next:Nat)(f:Bool):Array Value:=#[.slice (some ⟨q,0,none⟩) n n,.int .i64 (g:Int),.int .i64 (s:Int),.int .i64 (i:Int),.int .i64 (j:Int),.int .i64 (next:Int),.bool f]
structure jy(M q:Nat)(x:Im)(m:MS)(W:World):Prop where
 k:∃f:Bool,At W M 85 (vL q x.n x.g x.s x.i x.j m.next f)
 im:aE W q 32 256 x.n (dR m.L)
section
variable {M q:Nat} {x:Im} {m:MS} {W W':World}
theorem jy.below(h:jy M q x m W)(hb:Below W.heap.size W W'):jy M q x m W':=by
 obtain⟨f,hf⟩:=h.k;exact⟨⟨f,hf.below hb hf.lt⟩,h.im.below hb⟩
theorem jy.ne(h:jy M q x m W):M≠q:=by
 obtain⟨f,hf⟩:=h.k;obtain⟨cs,hc,_⟩:=h.im.blk;exact At.dk hf hc (by decide)
theorem jy.lT(h:jy M q x m W):W.rangeAt M 1 (ai x.g x.s x.i x.j).toList:=λk v hk=>by
 obtain⟨f,hf⟩:=h.k
 match k,hk with
 |0,hk=>injection hk with hk;subst hk;exact hf.cell (i:=1) rfl
 |1,hk=>injection hk with hk;subst hk;exact hf.cell (i:=2) rfl
 |2,hk=>injection hk with hk;subst hk;exact hf.cell (i:=3) rfl
 |3,hk=>injection hk with hk;subst hk;exact hf.cell (i:=4) rfl
 |k+4,hk=>cases hk
theorem jy.c0(h:jy M q x m W):W.cell? ⟨M,0,none⟩=some (.slice (some ⟨q,0,none⟩) x.n x.n):=by obtain⟨f,hf⟩:=h.k;exact hf.cell (i:=0) rfl
theorem jy.c5(h:jy M q x m W):W.cell? ⟨M,5,none⟩=some (.int .i64 (m.next:Int)):=by obtain⟨f,hf⟩:=h.k;exact hf.cell (i:=5) rfl
theorem jy.soft(h:jy M q x m W)(i:Nat):W.frozen? ⟨M,i,none⟩=false:=by obtain⟨f,hf⟩:=h.k;exact an hf i
theorem jy.put(h:jy M q x m W){b:Nat}(hb:b<x.n)(z:Nat->Int):jy M q x (m.put b z) (W.setCells q (b*256) (Ks .u8 256 z))/\az q W (W.setCells q (b*256) (Ks .u8 256 z)):=by
 obtain⟨h1,h2⟩:=h.im.set hb (vs:=Ks .u8 256 z) (by simp[Ks]) (aZ _);obtain⟨f,hf⟩:=h.k;refine⟨⟨⟨f,hf.only h2 h.ne⟩,h1.congr λc _=> ?_⟩,h2⟩;show _=dR (ak m.L b z) c;unfold dR ak;split<;>rfl
end
theorem x8{P:Program}{W:World}{o:Oper}{a:Act}(f:FuncId)(x y z:Operand)(MD:Array TypeId)(u v u2:Value)(ho:o.op= .call {callee:=.value (.func f),args:=#[x,y,z],argTypes:=MD})(hx:a.eval x=u)(hy:a.eval y=v)(hz:a.eval z=u2)
  (hr:((do let d<-Deferred.ofValue (a.eval (.func f)) #[u,v,u2];invoke d.target d.args):Sem Next).run P W= .ok (.enter f #[u,v,u2]) W):(execOp a.eval o).run P W= .ok (.enter f #[u,v,u2]) W:=by
 rw[<-hr];unfold execOp;rw[ho];simp only[resolve];simp[hx,hy,hz]
structure ED(M q:Nat)(x:Im)(m:MS)(w W:World):Prop where
 m:jy M q x m W
 gr:w.grownBy W (some q)
theorem ED.below{W:World}(h:ED M q x m w W)(hb:Below W.heap.size W W'):ED M q x m w W':=⟨h.m.below hb,dC h.gr (bB hb)⟩
theorem ED.put{W:World}(h:ED M q x m w W){b:Nat}(hb:b<x.n)(z:Nat->Int):ED M q x (m.put b z) w (W.setCells q (b*256) (Ks .u8 256 z)):=
 ⟨(h.m.put hb z).1,dC h.gr (fD (h.m.put hb z).2)⟩
def V7(q b bit:Nat)(y z:Nat->Int)(B:Bool)(l:Nat->Bool)(k:Nat)(v:Value):Prop:=
 if k=15 then v=aR y else if k=16 then v= .int .i64 (bit:Int)
 else if k=17\/k=18 then v= .tuple #[aR z,.bool B]/\l 15=true
 else if k=19 then v=aR z/\l 15=true
 else if k=20 then v= .bool B
 else if k=21 then v= .pointer (some ⟨q,0+b*256,none⟩) else v=undef
theorem V7.up{b bit:Nat}{y:Nat->Int}{B:Bool}{l':Nat->Bool}{v:Value}(h:V7 q b bit y z B l k v)(hl:l 15=true->l' 15=true):V7 q b bit y z B l' k v:=by
 unfold V7 at h ⊢;split<;>rename_i h1
 ·rwa[if_pos h1] at h
 rw[if_neg h1] at h;split<;>rename_i h2
 ·rwa[if_pos h2] at h
 rw[if_neg h2] at h;split<;>rename_i h3
 ·rw[if_pos h3] at h;exact⟨h.1,hl h.2⟩
 rw[if_neg h3] at h;split<;>rename_i h4
 ·rw[if_pos h4] at h;exact⟨h.1,hl h.2⟩
 rwa[if_neg h4] at h
structure S7(M q:Nat)(x:Im)(m:MS)(b:Nat)(z:Nat->Int)(w:World)(l:Nat->Bool)(W:World):Prop where
 no:l 22=false->ED M q x m w W
 ye:l 22=true->ED M q x (m.put b z) w W/\l 15=true
theorem S7.below{b:Nat}{W:World}(h:S7 M q x m b z w l W)(hb:Below W.heap.size W W'):S7 M q x m b z w l W':=
 ⟨λe=>(h.no e).below hb,λe=>⟨(h.ye e).1.below hb,(h.ye e).2⟩⟩
theorem S7.c0{b:Nat}{W:World}(h:S7 M q x m b z w l W):W.cell? ⟨M,0,none⟩=some (.slice (some ⟨q,0,none⟩) x.n x.n):=by
 cases e:l 22 with
 |false=>exact(h.no e).m.c0
 |true=>exact(h.ye e).1.m.c0
theorem S7.next{b:Nat}{W:World}(h:S7 M q x m b z w l W)(hk:k≠22):S7 M q x m b z w (λj=>j==k||l j) W:=by
 have e:((22==k)||l 22)=l 22:=by rw[show(22==k)=false from by simpa using Ne.symm hk,Bool.false_or]
 exact⟨λh'=>h.no (e▸h'),λh'=>⟨(h.ye (e▸h')).1,by show((15==k)||l 15)=true;rw[(h.ye (e▸h')).2,Bool.or_true]⟩⟩
theorem ui(M q:Nat)(x:Im)(hx:x.Ok)(m:MS)(hL:∀b,bu (m.L b))(k d bit:Nat)(hk:k<x.g)(hd:d<2)(Gy:bit<2048)(w:World)(h:jy M q x m w):
  Calls Tryz.prog 68 #[.pointer (some ⟨M,0,none⟩),.int .i64 (k:Int),.int .i64 (d:Int),.int .i64 (bit:Int)] w λe w'=>e= .returned (.tuple #[])/\ED M q x (m.set x k d bit) w w':=by
 obtain⟨h1,h2,h3,h4,h5,h6,h7,h8,h9,h10,h11⟩:=dX hx.may;have gi:=hx.iK;have hst:x.st k+d<x.n:=hx.st hk (by omega);have hrg:=h.lT;have dt:Hd (ED M q x m w w):=⟨h,bB ag⟩;have HX:=ah hx;have HL:=ah hL;clear hx h hL;go_enter Tryz.func68,Tryz.ntmps68;go_wp2_with (first|(refine aH rfl 23 (.tmp 13) rfl M 1 (ai x.g x.s x.i x.j).toList _ rfl hrg Tryz.underlying23 rfl (by kernel_rfl) ?_))
 refine(kW x.g x.s x.i x.j k HX.Z.may hk _).mono ?_;rintro e w1 ⟨rfl,hb1⟩;have bh:=ah (dt.Z.below hb1);rw[show((2+x.j+k*x.s:Nat):Int)=((x.st k:Nat):Int) from rfl];obtain⟨S,hS⟩:=aa (x.st k);rw[<-hS] at hst ⊢;have HS:=ah hS;have J8:S+d<=2048:=by omega
 obtain⟨b,hb⟩:=aa (S+d);have N1:(S:Int)+(d:Int)=(b:Int):=by omega
 have ll:b<x.n:=by omega
 have O2:=ah hb;obtain⟨z,hz⟩:=aa (qM (m.L b) bit);have HZ:=ah hz;obtain⟨B,hB⟩:=aa (!bt (m.L b) bit);have SC:Hd (∀W,Calls Tryz.prog 109 #[aR (m.L b),.int .i64 (bit:Int),.bool true] W λe w'=>e= .returned (.tuple #[aR z,.bool B])/\Below W.heap.size W w'):=λW=>by
  rw[hz,hB];exact An (m.L b) (HL.Z b) bit Gy W
 clear dt hb1 hrg hS hb hz hB;go_wp2_with fail;apply Vp.bG 15 (λl k v W=>V7 q b bit (m.L b) z B l k v) (λl W=>S7 M q x m b z w l W) (λW=>W.cell? ⟨M,0,none⟩=some (.slice (some ⟨q,0,none⟩) x.n x.n))
 case hm=>kernel_rfl
 case hd=>kernel_rfl
 case hpre=>kernel_rfl
 case hB=>kernel_rfl
 case hVl=>exactλl l' he i v W h=>h.up λe=>by rw[<-he 15 (by decide) (by decide)];exact e
 case hS=>exactλl l' W he h=>⟨λe=>h.no (by rw[he 22 (by decide) (by decide)];exact e),λe=>⟨(h.ye (by rw[he 22 (by decide) (by decide)];exact e)).1,by rw[<-he 15 (by decide) (by decide)];exact(h.ye (by rw[he 22 (by decide) (by decide)];exact e)).2⟩⟩
 case hSC=>exactλl W h=>h.c0
 case hVb=>exactλl i v W W' h hb=>h
 case hSb=>exactλl W W' h hb _=>h.below hb
 case h0=>exact⟨λ_=>bh.Z.below ⟨rfl,rfl,rfl,Nat.le_refl _,λ_ _=>rfl⟩,λe=>by cases e⟩
 case hwalk=>
  simp only[List.take];intro R hR hne;have hc0:∀y:a9 (λW=>W.cell? ⟨M,0,none⟩=some (.slice (some ⟨q,0,none⟩) x.n x.n)/\R W),y.W.cell? ⟨M,0,none⟩=some (.slice (some ⟨q,0,none⟩) x.n x.n):=λy=>y.h.1
  repeat go_big_quiet_step (fail)
  exact wpQuiet_nil rfl
 case hst=>
  simp only[List.drop];refine⟨?_,?_,?_,?_,?_,?_,?_,?_,trivial⟩
  ·intro l a W hl hu h
   have e1:a.tmps.getD 34 undef= .pointer (some ⟨q,b*256,none⟩):=((h.vals 14 34 (aq hu 14) rfl).pre (by decide) rfl).trans (by rw[O2.Z];rfl);have hs:ED M q x m w W:=by
    cases e:l 22 with
    |false=>exact h.st.no e
    |true=>have:=(h.st.ye e).2;rw[hl] at this;cases this
   have hr:=hs.m.im.bQ.range b ll;rw[Nat.zero_add] at hr;exact Vm.aJ h (by kernel_rfl) rfl rfl rfl hl _ (Vl.jc 32 (.tmp 34) rfl q (b*256) (dR m.L b) _ e1 hr Tryz.underlying32 rfl (by rw[aZ];exact aA)) (λ_ _ hv=>hv.up λ_ hv=>hv.up λe=>by show((15==15)||l 15)=true;rfl) (Vp.W.mk rfl) (λs=>s.next (by decide))
  ·intro l a W hl hu h
   have e3:a.tmps.getD 3 undef= .int .i64 (bit:Int):=h.old 3 (by kernel_rfl);exact Vm.aJ h (by kernel_rfl) rfl rfl rfl hl _ (Vl.br (.tmp 3) rfl e3) (λ_ _ hv=>hv.up λ_ hv=>hv.up λe=>by show((15==16)||l 15)=true;rw[e];rfl) (Vp.W.mk rfl) (λs=>s.next (by decide))
  ·intro l a W hl hu h
   have u15:=aq hu 15 (by kernel_rfl);have e1:a.tmps.getD 35 undef=aR (m.L b):=(h.vals 15 35 u15 rfl).post;have e2:a.tmps.getD 36 undef= .int .i64 (bit:Int):=(h.vals 16 36 (aq hu 16) rfl).post;refine Vm.step h (by kernel_rfl) rfl rfl rfl hl (Vl.il 109 #[aR (m.L b),.int .i64 (bit:Int),.bool true] (x8 109 (.tmp 35) (.tmp 36) (.const (.bool true)) _ _ _ _ rfl e1 e2 rfl (by kernel_rfl)) ?_);refine(SC.Z W).mono ?_;rintro e W' ⟨rfl,hb⟩;have UF:l 15=true:=u15;exact⟨_,rfl,_,rfl,λi d _ _ hv=>hv.up λ_ hv=>hv.up λe=>by show((15==17)||l 15)=true;rw[e];rfl,Vp.W.mk ⟨rfl,by show((15==17)||l 15)=true;rw[UF];rfl⟩,(h.st.below hb).next (by decide)⟩
  ·intro l a W hl hu h
   obtain⟨e1,u15⟩:a.tmps.getD 37 undef= .tuple #[aR z,.bool B]/\l 15=true:=(h.vals 17 37 (aq hu 17) rfl).post;exact Vm.aJ h (by kernel_rfl) rfl rfl rfl hl _ (Vl.br (.tmp 37) rfl e1) (λ_ _ hv=>hv.up λ_ hv=>hv.up λe=>by show((15==18)||l 15)=true;rw[e];rfl) (Vp.W.mk ⟨rfl,by show((15==18)||l 15)=true;rw[u15];rfl⟩) (λs=>s.next (by decide))
  ·intro l a W hl hu h
   obtain⟨e1,u15⟩:a.tmps.getD 19 undef= .tuple #[aR z,.bool B]/\l 15=true:=(h.vals 18 19 (aq hu 18) rfl).post;exact Vm.aJ h (by kernel_rfl) rfl rfl rfl hl _ (Vl.fJ (.tmp 19) 0 _ rfl e1 rfl) (λ_ _ hv=>hv.up λ_ hv=>hv.up λe=>by show((15==19)||l 15)=true;rw[e];rfl) (Vp.W.mk ⟨rfl,by show((15==19)||l 15)=true;rw[u15];rfl⟩) (λs=>s.next (by decide))
  ·intro l a W hl hu h
   obtain⟨e1,u15⟩:a.tmps.getD 19 undef= .tuple #[aR z,.bool B]/\l 15=true:=(h.vals 18 19 (aq hu 18) rfl).post;exact Vm.aJ h (by kernel_rfl) rfl rfl rfl hl _ (Vl.fJ (.tmp 19) 1 _ rfl e1 rfl) (λ_ _ hv=>hv.up λ_ hv=>hv.up λe=>by show((15==20)||l 15)=true;rw[e];rfl) (Vp.W.mk rfl) (λs=>s.next (by decide))
  ·intro l a W hl hu h
   have e1:a.tmps.getD 23 undef= .slice (some ⟨q,0,none⟩) x.n x.n:=(h.vals 3 23 (aq hu 3) rfl).pre (by decide) rfl;have e2:a.tmps.getD 26 undef= .int .i64 (b:Int):=((h.vals 6 26 (aq hu 6) rfl).pre (by decide) rfl).trans (by rw[<-N1];rfl);exact Vm.aJ h (by kernel_rfl) rfl rfl rfl hl _ (Vl.gK 29 32 (.tmp 23) (.tmp 26) rfl Tryz.underlying29 256 (by kernel_rfl) q 0 x.n x.n b e1 e2 ll) (λ_ _ hv=>hv.up λ_ hv=>hv.up λe=>by show((15==21)||l 15)=true;rw[e];rfl) (Vp.W.mk rfl) (λs=>s.next (by decide))
  intro l a W hl hu h;have e1:a.tmps.getD 40 undef= .pointer (some ⟨q,0+b*256,none⟩):=(h.vals 21 40 (aq hu 21) rfl).post;rw[Nat.zero_add] at e1;obtain⟨e2,u15⟩:a.tmps.getD 38 undef=aR z/\l 15=true:=(h.vals 19 38 (aq hu 19) rfl).post;have hs:=h.st.no hl;have gG:W.there q (b*256) (Ks .u8 256 z).toArray.size:=by rw[bE];exact hs.m.im.there ll
  refine Vm.step h (by kernel_rfl) rfl rfl rfl hl (Vl.ef 32 (.tmp 40) (.tmp 38) rfl q (b*256) (Ks .u8 256 z).toArray e1 e2 gG (by rw[bE];exact aA) (fF _ _ _) ?_);exact⟨_,rfl,λi d _ _ hv=>hv.up λ_ hv=>hv.up λe=>by show((15==22)||l 15)=true;rw[e];rfl,Vp.W.mk rfl,⟨λe=>(by have e:true=false:=e;cases e),λ_=>⟨hs.put ll z,by show((15==22)||l 15)=true;rw[u15];rfl⟩⟩⟩
 intro a' w9 h hall;clear hall;obtain⟨hs,_⟩:=h.st.ye rfl;have X7:Hd (ED M q x (m.set x k d bit) w w9):=by
  have e1:=O2.Z;have e2:=HS.Z;have e3:=HZ.Z;subst e1 e2;rw[e3] at hs;exact hs
 have NS:=h.defers;obtain⟨tm,df⟩:=a';obtain rfl:df=[]:=NS;clear h hs;exact bodyPost_end (results_none rfl _ _ _) rfl ⟨rfl,X7.Z⟩
def MQ(M q:Nat)(j:Nat):Prop:=j=M\/j=q
theorem jy.next{W:World}(h:jy M q x m W)(k:Nat):jy M q x {m with next:=k} (W.setCell ⟨M,5,none⟩ (.int .i64 (k:Int))):=by
 obtain⟨f,hf⟩:=h.k;exact⟨⟨f,hf.setCell 5 (.int .i64 (k:Int))⟩,h.im.only (az.setCell W ⟨M,5,none⟩ _) (Ne.symm h.ne)⟩
theorem jy.full{W:World}(h:jy M q x m W)(b:Bool):jy M q x m (W.setCell ⟨M,6,none⟩ (.bool b)):=by
 obtain⟨f,hf⟩:=h.k;exact⟨⟨b,hf.setCell 6 (.bool b)⟩,h.im.only (az.setCell W ⟨M,6,none⟩ _) (Ne.symm h.ne)⟩
theorem MF(hx:x.Ok){b:Nat}(hb:b<x.n):∃K A B C:Int,gZ x.s (x.i/4) x.j b=tv K A B C/\(K==7)=x.data b/\(x.data b=true->A=(MS.Kf x b:Nat)/\B=(MS.Lo x b:Nat)/\MS.Kf x b<x.g/\MS.Lo x b<x.s):=by
 obtain⟨h1,h2,h3,h4,h5,h6,h7,h8,h9,h10,h11⟩:=dX hx.may;have hn:=hx.n;unfold gZ Im.data Im.own MS.Kf MS.Lo
 by_cases c0:b=0
 ·rw[if_pos c0];exact⟨_,_,_,_,rfl,by subst c0;simp,λh=>by subst c0;simp at h⟩
 rw[if_neg c0]
 by_cases c1:b=1
 ·rw[if_pos c1];exact⟨_,_,_,_,rfl,by subst c1;simp;omega,λh=>by subst c1;simp at h;omega⟩
 rw[if_neg c1]
 by_cases c2:b<2+x.j
 ·rw[if_pos c2]
  have:decide (2+x.j<=b)=false:=decide_eq_false (by omega);rw[this,Bool.false_and];exact⟨_,_,_,_,rfl,rfl,λh=>by cases h⟩
 rw[if_neg c2,decide_eq_true (show 2+x.j<=b by omega),decide_eq_true hb,Bool.true_and,Bool.true_and];have hr:(b-(2+x.j))%x.s<x.s:=Nat.mod_lt _ (by omega);have hq:(b-(2+x.j))/x.s<x.g:=by
  refine(Nat.div_lt_iff_lt_mul (by omega)).2 ?_;omega
 generalize (b-(2+x.j))%x.s=r at*;generalize (b-(2+x.j))/x.s=γ at*
 by_cases d0:r=0
 ·rw[if_pos d0,decide_eq_false (by omega)];exact⟨_,_,_,_,rfl,rfl,λh=>by cases h⟩
 rw[if_neg d0]
 by_cases d1:r=1
 ·rw[if_pos d1,decide_eq_false (by omega)];exact⟨_,_,_,_,rfl,rfl,λh=>by cases h⟩
 rw[if_neg d1]
 by_cases d2:r<2+x.i/4
 ·rw[if_pos d2,decide_eq_false (by omega)];exact⟨_,_,_,_,rfl,rfl,λh=>by cases h⟩
 rw[if_neg d2,decide_eq_true (by omega)];exact⟨_,_,_,_,rfl,rfl,λ_=>⟨rfl,rfl,hq,hr⟩⟩
def Tt(M:Nat)(W:World):Nat:=match W.cell? ⟨M,5,none⟩ with
 |some (.int .i64 n)=>n.toNat
 |_=>0
theorem jy.nx{W:World}(h:jy M q x m W):Tt M W=m.next:=by unfold Tt;rw[h.c5];exact Int.toNat_natCast _
structure KS(M q:Nat)(x:Im)(m:MS)(w W:World):Prop where
 p:jy M q x m W
 gr:dV (MQ M q) w W
 jx:∀b,bu (m.L b)
theorem KS.below{W:World}(h:KS M q x m w W)(hb:Below W.heap.size W W'):KS M q x m w W':=⟨h.p.below hb,h.gr.trans (.b9 hb),h.jx⟩
theorem mJ(M q:Nat)(x:Im)(hx:x.Ok)(m:MS)(hL:∀b,bu (m.L b))(hle:m.next<=x.n)(w:World)(h:jy M q x m w):
  Calls Tryz.prog 105 #[.pointer (some ⟨M,0,none⟩)] w λe w'=>e= .returned (.int .i64 (((m.take x).1:Nat):Int))/\jy M q x (m.take x).2 w'/\dV (MQ M q) w w':=by
 obtain⟨h1,h2,h3,h4,h5,h6,h7,h8,h9,h10,h11⟩:=dX hx.may;have gi:=hx.iK;have dt:Hd (KS M q x m w w):=⟨h,.refl _ _,hL⟩;have HX:=ah hx;obtain⟨r,hr⟩:=aa (m.take x);have HR:Hd (MS.gl x (x.n-m.next) m=r):=by show _=_;rw[hr];rfl
 rw[<-hr];clear hx h hL h11 hr;go_enter Tryz.func105,Tryz.ntmps105;go_wp2_with fail;go_loopw [3,4,5,6] (λ_ _ _ _ wr=>∃(f:Nat) (m':MS),MS.gl x f m'=r/\m'.next+f=x.n/\KS M q x m' w wr) (λ_ _ _ _ wr=>x.n-Tt M wr)
 case atStart=>exact⟨x.n-m.next,m,HR.Z,by omega,dt.Z⟩
 clear dt HR;obtain⟨f,m',hf,hn,st⟩:=hrel;have ST:=ah st;have HF:=ah hf;have Pn:m'.next<=2048:=by omega
 have HM:Hd (Tt M wr=m'.next):=st.p.nx;clear st hf;go_wp2_with fail;refine ar (KS M q x m' w) (ST.Z.below ag.drew) ?_;clear ST;intro hne;have hc0:∀y:a9 (KS M q x m' w),y.W.cell? ⟨M,0,none⟩=some (.slice (some ⟨q,0,none⟩) x.n x.n):=λy=>y.h.p.c0
 have Io:∀y:a9 (KS M q x m' w),y.W.cell? ⟨M,5,none⟩=some (.int .i64 (m'.next:Int)):=λy=>y.h.p.c5
 repeat go_big_quiet_step (fail)
 refine wpQuiet_nil ?_;intro w2 h2';have ST:=ah h2'.Z;clear h2' hne hc0 Io
 by_cases hlt:m'.next<x.n
 ·have hlt':(m'.next:Int)<(x.n:Int):=by omega
  have c5:=ST.Z.p.c5;have f5:=ST.Z.p.soft 5;obtain⟨f,rfl⟩:∃f',f=f'+1:=⟨f-1,by omega⟩;obtain⟨K,A,B,C,he,hK,hD⟩:=MF HX.Z hlt;have HE:=ah he;have HK:=ah hK;have HD:=ah hD;have fh:Hd (KS M q x {m' with next:=m'.next+1} w (w2.setCell ⟨M,5,none⟩ (.int .i64 ((m'.next+1:Nat):Int)))):=⟨ST.Z.p.next _,ST.Z.gr.trans (.cE (az.setCell w2 ⟨M,5,none⟩ _) (.inl rfl)),ST.Z.jx⟩;have hrg:=fh.Z.p.lT;rw[show((m'.next+1:Nat):Int)=(m'.next:Int)+1 from rfl] at hrg;obtain⟨b,hb⟩:=aa m'.next
  have HB:=ah hb;clear he hK hD hb;go_wp2_with (first|(refine aH rfl 23 (.tmp 31) rfl M 1 (ai x.g x.s x.i x.j).toList _ rfl hrg Tryz.underlying23 rfl (by kernel_rfl) ?_))
  refine(mD x.g x.s x.i x.j m'.next HX.Z.may (by rw[<-HX.Z.n];exact hlt) K A B C HE.Z _).mono ?_;rintro e w3 ⟨rfl,hb3⟩;have ey:=ah (fh.Z.below hb3);clear fh ST hb3 hrg c5 f5 HE;cases hd:x.data m'.next with
  |false=>
   have q1:(K==7)=false:=HK.Z.trans hd;have uU:Hd (MS.gl x f {m' with next:=m'.next+1}=r):=by
    have:=HF.Z;rw[MS.gl,if_neg (by rw[hd];decide)] at this;exact this
   clear hd HK HD HF;go_wp2_with fail;go_roundw
   case rel=>exact⟨f,_,uU.Z,by show m'.next+1+f=x.n;omega,ey.Z⟩
   rw[HM.Z,ey.Z.p.nx];show x.n-(m'.next+1)<x.n-m'.next;omega
  |true=>
   have q1:(K==7)=true:=HK.Z.trans hd;obtain⟨rfl,rfl,hg,hp⟩:=HD.Z hd;have uU:Hd ((m'.next,MS.set x {m' with next:=m'.next+1} (MS.Kf x m'.next) 0 (MS.Lo x m'.next))=r):=by
    have:=HF.Z;rw[MS.gl,if_pos hd] at this;exact this
   have Y9:MS.Lo x m'.next<2048:=by omega
   obtain⟨γ,hγ⟩:=aa (MS.Kf x m'.next);obtain⟨ρ,hρ⟩:=aa (MS.Lo x m'.next);rw[<-hγ] at hg uU ⊢;rw[<-hρ] at hp Y9 uU ⊢;clear hd HK HD HF hγ hρ;go_wp2_with fail;refine(ui M q x HX.Z {m' with next:=m'.next+1} ey.Z.jx γ 0 ρ hg (by decide) Y9 _ ey.Z.p).mono ?_;rintro e w4 ⟨rfl,hs⟩;have HE:Hd (jy M q x r.2 w4/\dV (MQ M q) w w4/\r.1=m'.next):=by
    rw[<-uU.Z];exact⟨hs.m,ey.Z.gr.trans (.jK hs.gr (.inr rfl)),rfl⟩
   clear hs ey;go_wp2_with fail;go_ret;exact⟨by rw[HE.Z.2.2];rfl,HE.Z.1,HE.Z.2.1⟩
 obtain rfl:f=0:=by omega
 have hlt':¬(m'.next:Int)<(x.n:Int):=by omega
 obtain⟨ff,Zv⟩:=ST.Z.p.k;have c6:w2.cell? ⟨M,6,none⟩=some (.bool ff):=Zv.cell (i:=6) rfl;have f6:=ST.Z.p.soft 6;have HE:Hd (jy M q x r.2 (w2.setCell ⟨M,6,none⟩ (.bool true))/\dV (MQ M q) w (w2.setCell ⟨M,6,none⟩ (.bool true))/\r.1=0):=by
  rw[<-HF.Z];exact⟨ST.Z.p.full true,ST.Z.gr.trans (.cE (az.setCell w2 ⟨M,6,none⟩ _) (.inl rfl)),rfl⟩
 clear Zv ST HF;go_wp2_with fail;go_ret;exact⟨by rw[HE.Z.2.2];rfl,HE.Z.1,HE.Z.2.1⟩
theorem CY(u v:Int)(W:World):(Instr.buildSlice 37 2 #[(0,.int .i64 u),(1,.int .i64 v)]).run Tryz.prog W= .ok (.slice (some ⟨W.heap.size,0,none⟩) 2 2) (W.alloc (.cells #[.int .i64 u,.int .i64 v] 3)):=by kernel_rfl
theorem CX(u v x:Int)(W:World):(Instr.buildSlice 37 3 #[(0,.int .i64 u),(1,.int .i64 v),(2,.int .i64 x)]).run Tryz.prog W= .ok (.slice (some ⟨W.heap.size,0,none⟩) 3 3) (W.alloc (.cells #[.int .i64 u,.int .i64 v,.int .i64 x] 3)):=by kernel_rfl
def OfP(w:World)(i:Int)(e:Ending)(w':World):Prop:=
 Below w.heap.size w w'/\(((i<0\/65536<=i)/\e= .returned (.tuple #[.int .i64 0,.slice none 0 0,.int .i64 100]))\/
  ((0<=i/\i<65536)/\∃a c,e= .returned (.tuple #[.int .i64 ((Im.bL i.toNat:Nat):Int),.slice a (Im.bM i.toNat).length c,.int .i64 0])/\cU w' a 1 (Im.bM i.toNat).length (iA (Im.bM i.toNat))/\∀b off,a=some ⟨b,off,none⟩->w.heap.size<=b/\b<w'.heap.size))
theorem ri(w:World)(cs:Array Value)(l:List Nat)(h:∀k,k<l.length->cs[k]? =some (.int .i64 ((l.getD k 0:Nat):Int))):cU (w.alloc (.cells cs 3)) (some ⟨w.heap.size,0,none⟩) 1 l.length (iA l):=
 .inr ⟨w.heap.size,0,rfl,λk hk j v hv=>by
  cases j with
  |succ j=>cases hv
  |zero=>
   injection hv with hv
   subst hv;rw[Nat.zero_add,Nat.mul_one,Nat.add_zero];exact(At.new w 3 cs).cell (h k hk)⟩
theorem Db(i:Int)(w:World):Calls Tryz.prog 104 #[.int .i64 i] w λe w'=>OfP w i e w':=by
 have hbb:=CY;have hbc:=CX;have Ry:=lJ;have hB:∀(cs:Array Value),Below w.heap.size w (w.alloc (.cells cs 3)):=λcs=>ag.alloc af _
 have HB:=ah hB;clear hB
 by_cases h0:i<0
 ·go_enter Tryz.func104,Tryz.ntmps104
  go_wp2_with fail;refine bodyPost_ret (results_tmp3 rfl _ _ _) rfl ?_;exact⟨Below.refl _ _,.inl ⟨.inl h0,rfl⟩⟩
 have q0:decide (i<0)=false:=decide_eq_false h0;obtain⟨n,rfl⟩:∃n:Nat,i=(n:Int):=⟨i.toNat,by omega⟩
 by_cases h1:65536<=n
 ·have q1:decide ((65536:Int)<=(n:Int))=true:=decide_eq_true (by omega)
  have q1':decide (65536<=n)=true:=decide_eq_true h1;clear h0;go_enter Tryz.func104,Tryz.ntmps104;go_wp2_with fail;refine bodyPost_ret (results_tmp3 rfl _ _ _) rfl ?_;exact⟨Below.refl _ _,.inl ⟨.inr (by omega),rfl⟩⟩
 have q1:decide ((65536:Int)<=(n:Int))=false:=decide_eq_false (by omega);have q1':decide (65536<=n)=false:=decide_eq_false h1;have hn:0<=(n:Int)/\(n:Int)<65536:=by omega
 have kJ:=ah hn;have gi:n<65536:=by omega
 clear h0 h1 hn
 by_cases h8:n<8
 ·have q2:decide ((n:Int)<8)=true:=decide_eq_true (by omega)
  have q2':decide (n<8)=true:=decide_eq_true h8;go_enter Tryz.func104,Tryz.ntmps104;go_wp2_with fail;refine bodyPost_ret (results_tmp3 rfl _ _ _) rfl ?_;have e1:Im.bL (n:Int).toNat=n:=by rw[Int.toNat_natCast];unfold Im.bL;rw[if_pos h8]
  have e2:Im.bM (n:Int).toNat=[]:=by rw[Int.toNat_natCast];unfold Im.bM;rw[if_pos h8]
  exact⟨Below.refl _ _,.inr ⟨kJ.Z,none,0,by rw[e1,e2];rfl,.inl (by rw[e2];rfl),λb off e=>by cases e⟩⟩
 have q2:decide ((n:Int)<8)=false:=decide_eq_false (by omega);have q2':decide (n<8)=false:=decide_eq_false h8
 by_cases GG:n<72
 ·have q3:decide ((n:Int)<72)=true:=decide_eq_true (by omega)
  have q3':decide (n<72)=true:=decide_eq_true GG;have e1:Im.bL (n:Int).toNat=8:=by rw[Int.toNat_natCast];unfold Im.bL;rw[if_neg h8,if_pos GG]
  have e2:Im.bM (n:Int).toNat=[n-8]:=by rw[Int.toNat_natCast];unfold Im.bM;rw[if_neg h8,if_pos GG]
  have e3:(n:Int)-8=((n-8:Nat):Int):=by omega
  have HE:=ah (And.intro e1 (And.intro e2 e3));clear h8 GG e1 e2 e3;go_enter Tryz.func104,Tryz.ntmps104;go_wp2_with fail;refine bodyPost_ret (results_tmp3 rfl _ _ _) rfl ?_;obtain⟨e1,e2,e3⟩:=HE.Z;refine⟨HB.Z _,.inr ⟨kJ.Z,some ⟨w.heap.size,0,none⟩,1,by rw[e1,e2];rfl,?_,λb off e=>by injection e with e;injection e with e;subst e;exact⟨Nat.le_refl _,by rw[World.size_alloc];omega⟩⟩⟩;rw[e2];exact ri w _ [n-8] λk hk=>by
   obtain rfl:k=0:=by simp at hk;exact hk
   rw[e3];rfl
 have q3:decide ((n:Int)<72)=false:=decide_eq_false (by omega);have q3':decide (n<72)=false:=decide_eq_false GG
 by_cases L2:n<4168
 ·have q4:decide ((n:Int)<4168)=true:=decide_eq_true (by omega)
  have q4':decide (n<4168)=true:=decide_eq_true L2;have e1:Im.bL (n:Int).toNat=9:=by rw[Int.toNat_natCast];unfold Im.bL;rw[if_neg h8,if_neg GG,if_pos L2]
  have e2:Im.bM (n:Int).toNat=[(n-72)/64,(n-72)%64]:=by rw[Int.toNat_natCast];unfold Im.bM;rw[if_neg h8,if_neg GG,if_pos L2]
  obtain⟨A,hA⟩:=aa ((n-72)/64:Nat);obtain⟨B,hB⟩:=aa ((n-72)%64:Nat);have f1:((n:Int)-72).tdiv 64=(A:Int):=by rw[Int.tdiv_eq_ediv_of_nonneg (by omega)];omega
  have f2:((n:Int)-72).tmod 64=(B:Int):=by rw[Int.tmod_eq_emod_of_nonneg (by omega)];omega
  rw[<-hA,<-hB] at e2;have VX:(72:Int)<=(n:Int):=by omega
  have PA:A<=1024:=by omega
  have HE:=ah (And.intro e1 e2);clear h8 GG e1 e2 hA hB L2;go_enter Tryz.func104,Tryz.ntmps104;go_wp2_with fail;refine bodyPost_ret (results_tmp3 rfl _ _ _) rfl ?_;obtain⟨e1,e2⟩:=HE.Z;refine⟨HB.Z _,.inr ⟨kJ.Z,some ⟨w.heap.size,0,none⟩,2,by rw[e1,e2];rfl,?_,λb off e=>by injection e with e;injection e with e;subst e;exact⟨Nat.le_refl _,by rw[World.size_alloc];omega⟩⟩⟩;rw[e2];exact ri w _ [A,B] λk hk=>by
   have:k=0\/k=1:=by simp at hk;omega
   rcases this with rfl|rfl<;>rfl
 have q4:decide ((n:Int)<4168)=false:=decide_eq_false (by omega);have q4':decide (n<4168)=false:=decide_eq_false L2;have e1:Im.bL (n:Int).toNat=10:=by rw[Int.toNat_natCast];unfold Im.bL;rw[if_neg h8,if_neg GG,if_neg L2]
 have e2:Im.bM (n:Int).toNat=[(n-4168)/4096,(n-4168)%4096/64,(n-4168)%64]:=by rw[Int.toNat_natCast];unfold Im.bM;rw[if_neg h8,if_neg GG,if_neg L2]
 obtain⟨A,hA⟩:=aa ((n-4168)/4096:Nat);obtain⟨B,hB⟩:=aa ((n-4168)%4096/64:Nat);obtain⟨C,hC⟩:=aa ((n-4168)%64:Nat);obtain⟨D,hD⟩:=aa ((n-4168)/64:Nat);have f1:((n:Int)-4168).tdiv 4096=(A:Int):=by rw[Int.tdiv_eq_ediv_of_nonneg (by omega)];omega
 have f2:((n:Int)-4168).tdiv 64=(D:Int):=by rw[Int.tdiv_eq_ediv_of_nonneg (by omega)];omega
 have f3:(D:Int).tmod 64=(B:Int):=by rw[Int.tmod_eq_emod_of_nonneg (by omega)];omega
 have f4:((n:Int)-4168).tmod 64=(C:Int):=by rw[Int.tmod_eq_emod_of_nonneg (by omega)];omega
 rw[<-hA,<-hB,<-hC] at e2;have VX:(4168:Int)<=(n:Int):=by omega
 have PA:A<=1024:=by omega
 have hD9:D<=1024:=by omega
 have HE:=ah (And.intro e1 e2);clear h8 GG e1 e2 hA hB hC hD L2;go_enter Tryz.func104,Tryz.ntmps104;go_wp2_with fail;refine bodyPost_ret (results_tmp3 rfl _ _ _) rfl ?_;obtain⟨e1,e2⟩:=HE.Z;refine⟨HB.Z _,.inr ⟨kJ.Z,some ⟨w.heap.size,0,none⟩,3,by rw[e1,e2];rfl,?_,λb off e=>by injection e with e;injection e with e;subst e;exact⟨Nat.le_refl _,by rw[World.size_alloc];omega⟩⟩⟩;rw[e2];exact ri w _ [A,B,C] λk hk=>by
  have:k=0\/k=1\/k=2:=by simp at hk;omega
  rcases this with rfl|rfl|rfl<;>rfl
end Go.Proofs.YtphamecphmbipaaGreatDoor
