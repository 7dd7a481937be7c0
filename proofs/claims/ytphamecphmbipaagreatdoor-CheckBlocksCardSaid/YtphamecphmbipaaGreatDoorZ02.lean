/- Texts of this claim, merged. -/
import Derived.Test.YtphamecphmbipaaGreatDoorZ01
import Derived.Test.YtphamecphmbipaaGreatDoorRows
import Derived.Outline
import Derived.Deep.QuietTactic
import Derived.BigQuiet
import Derived.IntWalk
set_option linter.unusedVariables false
set_option maxRecDepth 100000
set_option maxHeartbeats 16000000

namespace Go.Proofs.YtphamecphmbipaaGreatDoor
open Go.RowKit
variable {v len:Nat} {z:Nat->Int} {at':Int} {w w':World}
def qi(v:Nat):Nat:=if v%2=1 then(v/2)^^^3988292384 else v/2
def s7:List Nat:=[0,498536548,997073096,651767980,1994146192,1802195444,1303535960,1342533948,3988292384,4027552580,3604390888,3412177804,2607071920,2262029012,2685067896,3183342108]
def FR(v:Nat):Nat:=(v/16)^^^s7.getD (v%16) 0
def Fc(v:Nat):Nat:=qi (qi (qi (qi v)))
def UI(v:Nat):Nat:=Fc (Fc v)
def EV(v x:Nat):Nat:=UI (v^^^x)
def fq(v:Nat)(z:Nat->Int):Nat->Nat
 |0=>v
 |n+1=>EV (fq v z n) (z n).toNat
def kh(z:Nat->Int)(n:Nat):Int:=((4294967295-fq 4294967295 z n:Nat):Int)
def kx(v:Nat)(pl:Nat->Nat)(pz:Nat->Nat->Int):Nat->Nat
 |0=>v
 |k+1=>fq (kx v pl pz k) (pz k) (pl k)
theorem EJ(a b:Nat):(a^^^b)/2=(a/2)^^^(b/2):=Nat.xor_div_two
theorem IL(a b:Nat):(a^^^b)%2=(a%2+b%2)%2:=by
 have h:=@Nat.xor_mod_two_eq_one a b;have:a%2<2:=Nat.mod_lt _ (by omega);have:b%2<2:=Nat.mod_lt _ (by omega);have:(a^^^b)%2<2:=Nat.mod_lt _ (by omega)
 by_cases ha:a%2=1<;>by_cases hb:b%2=1
 ·have:¬(a^^^b)%2=1:=λk=>(h.1 k) (by simp[ha,hb])
  omega
 ·have:(a^^^b)%2=1:=h.2 (by simp[ha,hb])
  omega
 ·have:(a^^^b)%2=1:=h.2 (by simp[ha,hb])
  omega
 have:¬(a^^^b)%2=1:=λk=>(h.1 k) (by simp[ha,hb])
 omega
theorem qh(a b:Nat):qi (a^^^b)=qi a^^^qi b:=by
 unfold qi;rw[IL,EJ];have:a%2<2:=Nat.mod_lt _ (by omega);have:b%2<2:=Nat.mod_lt _ (by omega)
 by_cases ha:a%2=1<;>by_cases hb:b%2=1
 ·rw[if_neg (by omega),if_pos ha,if_pos hb,Nat.xor_assoc,Nat.xor_comm (b/2),<-Nat.xor_assoc 3988292384,Nat.xor_self,Nat.zero_xor]
 ·rw[if_pos (by omega),if_pos ha,if_neg hb,Nat.xor_assoc,Nat.xor_comm (b/2),<-Nat.xor_assoc]
 ·rw[if_pos (by omega),if_neg ha,if_pos hb,Nat.xor_assoc]
 rw[if_neg (by omega),if_neg ha,if_neg hb]
theorem I5(a b:Nat):Fc (a^^^b)=Fc a^^^Fc b:=by unfold Fc;rw[qh,qh,qh,qh]
theorem I3(q r:Nat)(hr:r<16):16*q+r=(16*q)^^^r:=by
 refine Nat.eq_of_testBit_eq λj=> ?_
 have h1:=Nat.testBit_two_pow_mul_add q (b:=r) (i:=4) hr j;have h2:=Nat.testBit_two_pow_mul_add q (b:=0) (i:=4) (by omega) j;rw[show(2:Nat)^4=16 from rfl] at h1 h2;rw[Nat.add_zero] at h2;rw[Nat.testBit_xor,h1,h2]
 by_cases hj:j<4
 ·rw[if_pos hj,if_pos hj,Nat.zero_testBit,Bool.false_xor]
 rw[if_neg hj,if_neg hj,Nat.testBit_lt_two_pow (x:=r) (i:=j) (Nat.lt_of_lt_of_le hr (by rw[show(16:Nat)=2^4 from rfl];exact Nat.pow_le_pow_right (by omega) (by omega))),Bool.xor_false]
theorem ny(q:Nat):qi (2*q)=q:=by unfold qi;rw[if_neg (by omega)];omega
theorem ML(q:Nat):Fc (16*q)=q:=by
 unfold Fc;rw[show 16*q=2*(2*(2*(2*q))) by omega,ny,ny,ny,ny]
theorem I6:∀r,r<16->Fc r=s7.getD r 0:=by decide
theorem BI(v:Nat):FR v=Fc v:=by
 have h:=I3 (v/16) (v%16) (Nat.mod_lt _ (by omega));rw[Nat.div_add_mod] at h;rw[h,I5,ML,I6 _ (Nat.mod_lt _ (by omega)),<-h]
 rfl
theorem qD{a b:Nat}(n:Nat)(ha:a<2^n)(hb:b<2^n):a^^^b<2^n:=Nat.xor_lt_two_pow ha hb
theorem qW(h:v<4294967296):qi v<4294967296:=by
 unfold qi;split
 ·exact qD 32 (a:=v/2) (b:=3988292384) (by omega) (by decide)
 omega
theorem Fb(h:v<4294967296):Fc v<4294967296:=qW (qW (qW (qW h)))
theorem MK(h:v<4294967296):UI v<4294967296:=Fb (Fb h)
theorem EU{x:Nat}(h:v<4294967296)(hx:x<256):EV v x<4294967296:=MK (qD 32 h (by omega))
theorem n5(hv:v<4294967296)(hz:bu z)(n:Nat):fq v z n<4294967296:=by
 induction n with
 |zero=>exact hv
 |succ n ih=>exact EU ih (by have:=hz n;omega)
theorem yV{pl:Nat->Nat}{pz:Nat->Nat->Int}(hv:v<4294967296)(hz:∀k,bu (pz k))(m:Nat):kx v pl pz m<4294967296:=by
 induction m with
 |zero=>exact hv
 |succ m ih=>exact n5 ih (hz m) _
theorem B9(z:Nat->Int)(n:Nat):0<=kh z n/\kh z n<4294967296:=by unfold kh;omega
theorem qJ(n at' size:Int)(w:World)(hn:0<=n)(hl:n<=9223372036854775807)(hs:0<=size)(h:0<=at'/\at'+size<=n):
  Calls Tryz.prog 137 #[.int .i64 n,.int .i64 at',.int .i64 size] w λe w'=>e= .returned (.bool true)/\w=w':=by
 have h1:at'<=n-size:=by omega
 have h2:size<=n:=by omega
 obtain⟨h,_⟩:=h;go_enter Tryz.func137,Tryz.ntmps137
 go_wp2
 go_ret;exact⟨aI (by simp),rfl⟩
theorem CF(n at' size:Int)(w:World)(hn:0<=n)(hl:n<=9223372036854775807)(hs:0<=size)(h:¬(0<=at'/\at'+size<=n)):
  Calls Tryz.prog 137 #[.int .i64 n,.int .i64 at',.int .i64 size] w λe w'=>e= .returned (.bool false)/\w=w':=by
 by_cases h0:0<=at'
 ·by_cases h2:size<=n
  ·have h1:decide (at'<=n-size)=false:=by simp;omega
   clear h;go_enter Tryz.func137,Tryz.ntmps137
   go_wp2
   go_ret;exact⟨rfl,rfl⟩
  clear h;go_enter Tryz.func137,Tryz.ntmps137
  go_wp2
  go_ret;exact⟨rfl,rfl⟩
 clear h;go_enter Tryz.func137,Tryz.ntmps137
 go_wp2
 go_ret;exact⟨rfl,rfl⟩
theorem AL(b off len cap:Nat)(at':Int)(z:Nat->Int)(w:World)(hl:(len:Int)<=9223372036854775807)(h0:0<=at')(h1:at'+2<=len)
  (hs:Seg w b off len z) (hz:bu z):
  Calls Tryz.prog 91 #[.slice (some ⟨b,off,none⟩) len cap,.int .i64 at',.int .i64 2] w λe w'=>e= .returned (.tuple #[.int .u16 (g16 z at'.toNat),.bool true])/\w=w':=by
 obtain⟨i,rfl⟩:=Int.eq_ofNat_of_zero_le h0;have c0:=hs (i) (by omega);have z0:=hz (i);have c1:=hs (i+1) (by omega);have z1:=hz (i+1);have e1:bits BinOp.or IntKind.u16 0 (z (i+1))=z (i+1):=by have:=qV 0 (z (i+1)) (by omega) (by omega) (by omega) (by omega);simpa using this
 have e0:bits BinOp.or IntKind.u16 ((z (i+1))*256) (z i)=(z (i+1))*256+z i:=qV _ _ (by omega) (by omega) (by omega) (by omega);have r:Hd ((z (i+1))*256+z i=g16 z ((i:Int)).toNat):=by show _=_;unfold g16;rw[Int.toNat_natCast];omega
 go_enter Tryz.func91,Tryz.ntmps91;go_wp2_with (go_at_call 137;refine(qJ _ _ _ _ (by omega) (by omega) (by omega) (by omega)).mono ?_;rintro e w' ⟨rfl,rfl⟩)
 refine wp_loop_rounds 3 ?_;rw[rounds_succ]
 go_wp2
 rw[rounds_succ]
 go_wp2
 rw[rounds_succ]
 go_wp2
 go_ret2
 exact⟨vE r.Z rfl,rfl⟩
theorem uy(b off len cap:Nat)(at':Int)(z:Nat->Int)(w:World)(hl:(len:Int)<=9223372036854775807)(h0:0<=at')(h1:at'+2<=len)
  (hs:Seg w b off len z) (hz:bu z):
  Calls Tryz.prog 50 #[.slice (some ⟨b,off,none⟩) len cap,.int .i64 at'] w λe w'=>e= .returned (.tuple #[.int .u32 (g16 z at'.toNat),.bool true])/\w=w':=by
 have hb:=oS hz at'.toNat;go_enter Tryz.func50,Tryz.ntmps50;go_wp2_with (go_at_call 91;refine(AL _ _ _ _ _ z _ hl h0 h1 hs hz).mono ?_;rintro e w' ⟨rfl,rfl⟩)
 go_ret2
 exact⟨rfl,rfl⟩
theorem AK(b off len cap:Nat)(at':Int)(z:Nat->Int)(w:World)(hl:(len:Int)<=9223372036854775807)(h0:0<=at')(h1:at'+4<=len)
  (hs:Seg w b off len z) (hz:bu z):
  Calls Tryz.prog 92 #[.slice (some ⟨b,off,none⟩) len cap,.int .i64 at',.int .i64 4] w λe w'=>e= .returned (.tuple #[.int .u32 (cR z at'.toNat),.bool true])/\w=w':=by
 obtain⟨i,rfl⟩:=Int.eq_ofNat_of_zero_le h0;have c0:=hs (i) (by omega);have z0:=hz (i);have c1:=hs (i+1) (by omega);have z1:=hz (i+1);have c2:=hs (i+2) (by omega);have z2:=hz (i+2);have c3:=hs (i+3) (by omega);have z3:=hz (i+3);have e3:bits BinOp.or IntKind.u32 0 (z (i+3))=z (i+3):=by have:=jV 0 (z (i+3)) (by omega) (by omega) (by omega) (by omega);simpa using this
 have e2:bits BinOp.or IntKind.u32 ((z (i+3))*256) (z (i+2))=(z (i+3))*256+z (i+2):=jV _ _ (by omega) (by omega) (by omega) (by omega);have e1:bits BinOp.or IntKind.u32 (((z (i+3))*256+z (i+2))*256) (z (i+1))=((z (i+3))*256+z (i+2))*256+z (i+1):=jV _ _ (by omega) (by omega) (by omega) (by omega);have e0:bits BinOp.or IntKind.u32 ((((z (i+3))*256+z (i+2))*256+z (i+1))*256) (z i)=(((z (i+3))*256+z (i+2))*256+z (i+1))*256+z i:=jV _ _ (by omega) (by omega) (by omega) (by omega);have r:Hd ((((z (i+3))*256+z (i+2))*256+z (i+1))*256+z i=cR z ((i:Int)).toNat):=by show _=_;unfold cR;rw[Int.toNat_natCast];omega
 go_enter Tryz.func92,Tryz.ntmps92;go_wp2_with (go_at_call 137;refine(qJ _ _ _ _ (by omega) (by omega) (by omega) (by omega)).mono ?_;rintro e w' ⟨rfl,rfl⟩)
 refine wp_loop_rounds 5 ?_;rw[rounds_succ]
 go_wp2
 rw[rounds_succ]
 go_wp2
 rw[rounds_succ]
 go_wp2
 rw[rounds_succ]
 go_wp2
 rw[rounds_succ]
 go_wp2
 go_ret2
 exact⟨vE r.Z rfl,rfl⟩
theorem DC(a:Option Addr)(len cap:Nat)(at':Int)(w:World)(hl:(len:Int)<=9223372036854775807)(h:¬(0<=at'/\at'+4<=len)):
  Calls Tryz.prog 92 #[.slice a len cap,.int .i64 at',.int .i64 4] w λe w'=>e= .returned (.tuple #[.int .u32 0,.bool false])/\w=w':=by
 have H:=ah h;clear h;go_enter Tryz.func92,Tryz.ntmps92;go_wp2_with (go_at_call 137;refine(CF _ _ _ _ (by omega) (by omega) (by omega) H.Z).mono ?_;rintro e w' ⟨rfl,rfl⟩)
 go_ret2
 exact⟨rfl,rfl⟩
theorem iB(b off len cap:Nat)(at':Int)(z:Nat->Int)(w:World)(hl:(len:Int)<=9223372036854775807)(h0:0<=at')(h1:at'+4<=len)
  (hs:Seg w b off len z) (hz:bu z):
  Calls Tryz.prog 51 #[.slice (some ⟨b,off,none⟩) len cap,.int .i64 at'] w λe w'=>e= .returned (.tuple #[.int .u32 (cR z at'.toNat),.bool true])/\w=w':=by
 have hb:=dP hz at'.toNat;go_enter Tryz.func51,Tryz.ntmps51;go_wp2_with (go_at_call 92;refine(AK _ _ _ _ _ z _ hl h0 h1 hs hz).mono ?_;rintro e w' ⟨rfl,rfl⟩)
 go_ret2
 exact⟨rfl,rfl⟩
theorem GI(a:Option Addr)(len cap:Nat)(at':Int)(w:World)(hl:(len:Int)<=9223372036854775807)(h:¬(0<=at'/\at'+4<=len)):
  Calls Tryz.prog 51 #[.slice a len cap,.int .i64 at'] w λe w'=>e= .returned (.tuple #[.int .u32 0,.bool false])/\w=w':=by
 have H:=ah h;clear h;go_enter Tryz.func51,Tryz.ntmps51;go_wp2_with (go_at_call 92;refine(DC _ _ _ _ _ hl H.Z).mono ?_;rintro e w' ⟨rfl,rfl⟩)
 go_ret2
 exact⟨rfl,rfl⟩
theorem nh(a:Option Addr)(len cap:Nat)(z:Nat->Int)(w:World)(hl:(len:Int)<=9223372036854775807)(hs:Row w a len z):
  Calls Tryz.prog 49 #[.slice a len cap] w λe w'=>e= .returned (.bool (dw z len))/\w=w':=by
 have start:dw z 0=true:=by simp[dw]
 have START:=ah start;clear start;go_enter Tryz.func49,Tryz.ntmps49
 go_wp2
 go_loop [7] (λk=>∃j:Nat,j<=len/\k= .int .i64 j/\Hd (dw z j=true)) (λk=>len-(intOf k).toNat)
 case atStart=>exact⟨0,by omega,rfl,START⟩
 obtain⟨j,hj,rfl,hall⟩:=hrel
 by_cases hlt:j<len
 ·rcases hs with h0|⟨b,off,rfl,hs⟩
  ·omega
  have hc:=hs j hlt
  by_cases hz:z j=0
  ·have hz':(z j !=0)=false:=by simp[hz]
   have HZ:=ah hz;clear hz
   go_wp2
   go_round
   case rel=>exact⟨j+1,by omega,by go_num,by show dw z (j+1)=true;rw[iE,hall.Z,HZ.Z];rfl⟩
   simp[intOf];omega
  have hz':(z j !=0)=true:=by simp[hz]
  have HZ:=ah (Ck hlt hz);clear hz
  go_wp2
  go_ret;exact⟨aI (by rw[HZ.Z]),rfl⟩
 obtain rfl:j=len:=by omega
 go_wp2
 go_ret;exact⟨aI (by rw[hall.Z]),rfl⟩
theorem oD(a:Option Addr)(len cap:Nat)(z:Nat->Int)(w:World)(hl:(len:Int)<=9223372036854775807)(hs:Row w a len z):
  Calls Tryz.prog 147 #[.slice a len cap] w λe w'=>e= .returned (.bool (dw z len))/\w=w':=by
 have start:dw z 0=true:=by simp[dw]
 have START:=ah start;clear start;go_enter Tryz.func147,Tryz.ntmps147
 go_wp2
 go_loop [3] (λk=>∃j:Nat,j<=len/\k= .int .i64 j/\Hd (dw z j=true)) (λk=>len-(intOf k).toNat)
 case atStart=>exact⟨0,by omega,rfl,START⟩
 obtain⟨j,hj,rfl,hall⟩:=hrel
 by_cases hlt:j<len
 ·rcases hs with h0|⟨b,off,rfl,hs⟩
  ·omega
  have hc:=hs j hlt
  by_cases hz:z j=0
  ·have hz':(z j !=0)=false:=by simp[hz]
   have HZ:=ah hz;clear hz
   go_wp2
   go_round
   case rel=>exact⟨j+1,by omega,by go_num,by show dw z (j+1)=true;rw[iE,hall.Z,HZ.Z];rfl⟩
   simp[intOf];omega
  have hz':(z j !=0)=true:=by simp[hz]
  have HZ:=ah (Ck hlt hz);clear hz
  go_wp2
  go_ret;exact⟨aI (by rw[HZ.Z]),rfl⟩
 obtain rfl:j=len:=by omega
 go_wp2
 go_ret;exact⟨aI (by rw[hall.Z]),rfl⟩
theorem xP(a c:Option Addr)(len cap cap':Nat)(z y:Nat->Int)(w:World)(hl:(len:Int)<=9223372036854775807)(hs:Row w a len z)(hs':Row w c len y):
  Calls Tryz.prog 166 #[.slice a len cap,.slice c len cap'] w λe w'=>e= .returned (.bool (mr z y len))/\∃m,w'=w.drewN m:=by
 have start:mr z y 0=true:=by simp[mr]
 have START:=ah start;clear start;go_enter Tryz.func166,Tryz.ntmps166
 go_wp2
 go_loopw [5] (λk wr=>∃j:Nat,j<=len/\k= .int .i64 j/\Hd (mr z y j=true)/\∃m,wr=w.drewN m) (λk _=>len-(intOf k).toNat)
 case atStart=>exact⟨0,by omega,rfl,START,0,rfl⟩
 obtain⟨j,hj,rfl,hall,m,rfl⟩:=hrel
 by_cases hlt:j<len
 ·rcases hs with h0|⟨b,off,rfl,hs⟩
  ·omega
  rcases hs' with h0|⟨b',off',rfl,hs'⟩
  ·omega
  have hc:=hs j hlt;have hc':=hs' j hlt
  by_cases hz:z j=y j
  ·have hz':(z j !=y j)=false:=by simp[hz]
   have HZ:=ah hz;clear hz
   go_wp2
   go_quiet (fail)
   go_wp2
   go_roundw
   case rel=>exact⟨j+1,by omega,by go_num,by show mr z y (j+1)=true;rw[y8,hall.Z,HZ.Z];simp,_,rfl⟩
   simp[intOf];omega
  have hz':(z j !=y j)=true:=by simp[hz]
  have HZ:=ah (Ol hlt hz);clear hz
  go_wp2
  go_quiet (fail)
  go_wp2
  go_ret;exact⟨aI (by rw[HZ.Z]),m+nq,by simp⟩
 obtain rfl:j=len:=by omega
 go_wp2
 go_ret;exact⟨aI (by rw[hall.Z]),_,rfl⟩
theorem mA(b off len cap:Nat)(at':Int)(z:Nat->Int)(w:World)(hl:(len:Int)<=9223372036854775807)(h0:0<=at')(h1:at'+2<=len)
  (hs:Seg w b off len z) (hz:bu z):
  Calls Tryz.prog 143 #[.slice (some ⟨b,off,none⟩) len cap,.int .i64 at'] w λe w'=>e= .returned (.tuple #[.int .u32 (g16 z at'.toNat),.bool true])/\∃m,w'=w.drewN m:=by
 obtain⟨i,rfl⟩:=Int.eq_ofNat_of_zero_le h0;have c0:=hs (i) (by omega);have z0:=hz (i);have c1:=hs (i+1) (by omega);have z1:=hz (i+1);have r:Hd (z i+256*z (i+1)=g16 z ((i:Int)).toNat):=by show _=_;unfold g16;rw[Int.toNat_natCast]
 have d1:decide ((len:Int)<2)=false:=by simp;omega
 have d2:decide ((len:Int)-2<(i:Int))=false:=by simp;omega
 go_enter Tryz.func143,Tryz.ntmps143
 go_wp2
 have e11:IntKind.i64.wrap ((i:Int)+1)=(i:Int)+1:=IntWalk.i64_in _ (by omega);have e12:(0:Int)<=(i:Int)+1:=by omega
 have TX:((i:Int)+1).toNat=i+1:=by omega
 go_quiet (fail)
 go_wp2
 go_ret2
 exact⟨vE r.Z rfl,_,rfl⟩
theorem fx(b off len cap:Nat)(at':Int)(z:Nat->Int)(w:World)(hl:(len:Int)<=9223372036854775807)(h0:0<=at')(h1:at'+4<=len)
  (hs:Seg w b off len z) (hz:bu z):
  Calls Tryz.prog 106 #[.slice (some ⟨b,off,none⟩) len cap,.int .i64 at'] w λe w'=>e= .returned (.tuple #[.int .u32 (cR z at'.toNat),.bool true])/\∃m,w'=w.drewN m:=by
 obtain⟨i,rfl⟩:=Int.eq_ofNat_of_zero_le h0;have c0:=hs (i) (by omega);have z0:=hz (i);have c1:=hs (i+1) (by omega);have z1:=hz (i+1);have c2:=hs (i+2) (by omega);have z2:=hz (i+2);have c3:=hs (i+3) (by omega);have z3:=hz (i+3);have r:Hd (z i+256*z (i+1)+65536*z (i+2)+16777216*z (i+3)=cR z ((i:Int)).toNat):=by show _=_;unfold cR;rw[Int.toNat_natCast]
 have d1:decide ((len:Int)<4)=false:=by simp;omega
 have d2:decide ((len:Int)-4<(i:Int))=false:=by simp;omega
 go_enter Tryz.func106,Tryz.ntmps106
 go_wp2
 have e11:IntKind.i64.wrap ((i:Int)+1)=(i:Int)+1:=IntWalk.i64_in _ (by omega);have e12:(0:Int)<=(i:Int)+1:=by omega
 have TX:((i:Int)+1).toNat=i+1:=by omega
 have e21:IntKind.i64.wrap ((i:Int)+2)=(i:Int)+2:=IntWalk.i64_in _ (by omega);have e22:(0:Int)<=(i:Int)+2:=by omega
 have e23:((i:Int)+2).toNat=i+2:=by omega
 have e31:IntKind.i64.wrap ((i:Int)+3)=(i:Int)+3:=IntWalk.i64_in _ (by omega);have Xu:(0:Int)<=(i:Int)+3:=by omega
 have Xt:((i:Int)+3).toNat=i+3:=by omega
 go_quiet (fail)
 go_wp2
 go_ret2
 exact⟨vE r.Z rfl,_,rfl⟩
theorem re(b off len cap:Nat)(at':Int)(v:Int)(z:Nat->Int)(w:World)(hl:(len:Int)<=9223372036854775807)(h0:0<=at')(h1:at'+2<=len)
  (hv:0<=v) (hv2:v<=65535) (hs:Seg w b off len z) (hz:bu z) (hf:KT w b off len):
  Calls Tryz.prog 97 #[.slice (some ⟨b,off,none⟩) len cap,.int .i64 at',.int .u32 v] w λe w'=>e= .returned (.bool true)/\gj b (off+at'.toNat) 2 (byteOf v) w w':=by
 have HG:Hd (_):=ah (λw' (hs:Seg w' b off len z)=>mA b off len cap at' z w' hl h0 h1 hs hz);obtain⟨i,rfl⟩:=Int.eq_ofNat_of_zero_le h0;rw[Int.toNat_natCast];have c0:=hs i (by omega);have c1:=hs (i+1) (by omega);have f0:=hf i (by omega);have f1:=hf (i+1) (by omega);have HP:Hd (∀w':World,gj b (off+i) 0 (byteOf v) w w'->gj b (off+i) 2 (byteOf v) w ((w'.setCell ⟨b,off+i,none⟩ (.int .u8 (v%256))).setCell ⟨b,off+(i+1),none⟩ (.int .u8 (v/256)))):=by
  intro w' hp;have h1:=hp.snoc (u:=.int .u8 (z i)) (v:=.int .u8 (v%256)) c0 (by rw[dU]);have h2:=h1.snoc (u:=.int .u8 (z (i+1))) (v:=.int .u8 (v/256)) (by rw[Nat.add_assoc];exact c1) (by rw[bC,dU];congr 1;omega);rw[Nat.add_assoc] at h2;exact h2
 go_enter Tryz.func97,Tryz.ntmps97;go_wp2_with (go_at_call 143;refine(HG.Z _ hs).mono ?_;rintro e w' ⟨rfl,m,rfl⟩)
 go_ret;exact⟨rfl,HP.Z _ ((gj.nil _ _ _ _).drewN m)⟩
theorem dm(b off len cap:Nat)(at':Int)(v:Int)(z:Nat->Int)(w:World)(hl:(len:Int)<=9223372036854775807)(h0:0<=at')(h1:at'+4<=len)
  (hv:0<=v) (hv2:v<4294967296) (hs:Seg w b off len z) (hz:bu z) (hf:KT w b off len):
  Calls Tryz.prog 71 #[.slice (some ⟨b,off,none⟩) len cap,.int .i64 at',.int .u32 v] w λe w'=>e= .returned (.bool true)/\gj b (off+at'.toNat) 4 (byteOf v) w w':=by
 have HG:Hd (_):=ah (λw' (hs:Seg w' b off len z)=>fx b off len cap at' z w' hl h0 h1 hs hz);obtain⟨i,rfl⟩:=Int.eq_ofNat_of_zero_le h0;rw[Int.toNat_natCast];go_enter Tryz.func71,Tryz.ntmps71;go_wp2_with (go_at_call 106;refine(HG.Z _ hs).mono ?_;rintro e w' ⟨rfl,m,rfl⟩)
 go_loopw [2,9] (λu k wr=>∃j:Nat,j<=4/\k= .int .i64 j/\(∃x:Int,0<=x/\x<4294967296/\(∀m,byteOf x m=byteOf v (j+m))/\u= .int .u32 x)/\gj b (off+i) j (byteOf v) w wr) (λ_ k _=>4-(intOf k).toNat)
 case atStart=>exact⟨0,by omega,rfl,⟨v,hv,hv2,λm=>by rw[Nat.zero_add],rfl⟩,(gj.nil _ _ _ _).drewN m⟩
 obtain⟨j,hj,rfl,⟨x,hx0,hx1,hx,rfl⟩,hp⟩:=hrel
 by_cases hlt:j<4
 ·have hcw:=hs (i+j) (by omega)
  have hc:wr.cell? ⟨b,off+(i+j),none⟩=some (.int .u8 (z (i+j))):=by
   have:=hp.cell (off+(i+j));rw[if_neg (by omega)] at this;rw[this];exact hcw
  have Ik:wr.frozen? ⟨b,off+(i+j),none⟩=false:=by rw[hp.only.frozen];exact hf _ (by omega)
  have Ym:=ah hcw;have HX:=ah hx;clear hcw hx
  go_wp2
  go_roundw
  case rel=>
   refine⟨j+1,by omega,by go_num,⟨x/256,by omega,by omega,λm=> ?_,rfl⟩,?_⟩
   ·rw[<-bC,HX.Z];congr 1;omega
   have:=hp.snoc (u:=.int .u8 (z (i+j))) (v:=.int .u8 (x%256)) (by rw[Nat.add_assoc];exact Ym.Z) (by have:=HX.Z 0;rw[dU,Nat.add_zero] at this;rw[this]);rw[Nat.add_assoc] at this;exact this
  simp[intOf];omega
 obtain rfl:j=4:=by omega
 go_wp2
 go_ret;exact⟨rfl,hp⟩
def fits(n len:Nat)(at':Int):Bool:=decide (0<=at'/\at'+n<=len)
def Qq(z:Nat->Int)(len:Nat)(at':Int):Int:=if fits 4 len at' then cR z at'.toNat else 0
theorem yW{n:Nat}(h:0<=at'/\at'+n<=len):fits n len at'=true:=by simp[fits,h]
theorem BZ{n:Nat}(h:¬(0<=at'/\at'+n<=len)):fits n len at'=false:=by simp[fits];omega
theorem Row.at{a:Option Addr}{n:Nat}(h:Row w a n z)(h0:0<n):∃b off,a=some ⟨b,off,none⟩/\Seg w b off n z:=by
 rcases h with h|h
 ·omega
 exact h
theorem ux(a:Option Addr)(len cap:Nat)(at':Int)(z:Nat->Int)(w:World)(hl:(len:Int)<=9223372036854775807)(hs:Row w a len z)(hz:bu z):
  Calls Tryz.prog 51 #[.slice a len cap,.int .i64 at'] w λe w'=>e= .returned (.tuple #[.int .u32 (Qq z len at'),.bool (fits 4 len at')])/\w=w':=by
 by_cases h:0<=at'/\at'+4<=len
 ·obtain⟨b,off,rfl,hs2⟩:=hs.at (by omega);clear hs;have hs:=hs2;clear hs2
  rw[Qq,yW h,if_pos rfl];exact iB b off len cap at' z w hl h.1 h.2 hs hz
 rw[Qq,BZ h];exact GI a len cap at' w hl h
def Tab(w:World):Prop:=∀i,i<16->w.cell? ⟨0,i,none⟩=some (.int .u32 ((s7.getD i 0:Nat):Int))
theorem Tab.lt(h:Tab w):0<w.heap.size:=World.block_lt_of_cell? w _ (h 0 (by omega))
theorem Tab.below(h:Tab w){B:Nat}(hb:Below B w w')(hB:w.heap.size<=B):Tab w':=λi hi=>(hb.cell (p:=⟨0,i,none⟩) (by have:=h.lt;show 0<B;omega)).trans (h i hi)
theorem Tab.alloc(h:Tab w)(o:Obj):Tab (w.alloc o):=h.below (ag.alloc af o) af
theorem Tab.only(h:Tab w){b:Nat}(hb:az b w w')(hg:b≠0):Tab w':=λi hi=>(hb.cell (p:=⟨0,i,none⟩) (λe=>hg e.symm)).trans (h i hi)
theorem IN(hv:v<4294967296):bits .xor .u32 4294967295 (v:Int)=((4294967295-v:Nat):Int):=by
 have h:=u32_xor_nat 4294967295 v (by omega) hv;rw[show((4294967295:Nat):Int)=4294967295 from rfl] at h;rw[h]
 congr 1
 refine Nat.eq_of_testBit_eq λj=> ?_
 have h1:=Nat.testBit_two_pow_sub_succ (x:=v) (n:=32) hv j;have h2:=Nat.testBit_two_pow_sub_succ (x:=0) (n:=32) (by omega) j;rw[show(2:Nat)^32-(v+1)=4294967295-v by omega] at h1;rw[show(2:Nat)^32-(0+1)=4294967295 by omega] at h2;rw[Nat.testBit_xor,h1,h2,Nat.zero_testBit]
 by_cases hj:j<32
 ·simp[hj]
 rw[Nat.testBit_lt_two_pow (x:=v) (i:=j) (Nat.lt_of_lt_of_le hv (by rw[show(4294967296:Nat)=2^32 from rfl];exact Nat.pow_le_pow_right (by omega) (by omega)))];simp[hj]
theorem uh(v:Nat)(hv:v<4294967296)(hT:Tab w):∃q r t u:Nat,r<16/\u<4294967296/\bits .and .u32 (v:Int) 15=(r:Int)/\(v:Int)/16=(q:Int)/\bits .xor .u32 (q:Int) (t:Int)=(u:Int)/\
  w.cell? ⟨0,r,none⟩=some (.int .u32 (t:Int))/\Hd (FR v=u):=by
 have ht:s7.getD (v%16) 0<4294967296:=by
  have:∀r,r<16->s7.getD r 0<4294967296:=by decide
  exact this _ (Nat.mod_lt _ (by omega))
 refine⟨v/16,v%16,s7.getD (v%16) 0,FR v,Nat.mod_lt _ (by omega),qD 32 (by omega) ht,?_,by omega,?_,hT _ (Nat.mod_lt _ (by omega)),rfl⟩
 ·have:=u32_and_nat v 15 (by omega) (by omega)
  rw[show((15:Nat):Int)=15 from rfl] at this;rw[this,show(15:Nat)=2^4-1 from rfl,Nat.and_two_pow_sub_one_eq_mod]
 exact u32_xor_nat _ _ (by omega) ht
structure Hg(w:World)(a:Option Addr)(m:Nat)(pl:Nat->Nat)(pz:Nat->Nat->Int):Prop where
 at':∀k,k<m->∃b off,a=some ⟨b,off,none⟩/\∃s cap,w.cell? ⟨b,off+k,none⟩=some (.slice s (pl k) cap)/\Row w s (pl k) (pz k)/\(pl k:Int)<=9223372036854775807
theorem AZ(a:Option Addr)(m cap:Nat)(pl:Nat->Nat)(pz:Nat->Nat->Int)(w:World)(hl:(m:Int)<=9223372036854775807)(hp:Hg w a m pl pz)(hz:∀k,bu (pz k))(hT:Tab w):
  Calls Tryz.prog 136 #[.slice a m cap] w λe w'=>e= .returned (.int .u32 ((4294967295-kx 4294967295 pl pz m:Nat):Int))/\w=w':=by
 have HT:=ah hT;have HP:=ah hp;clear hT hp;go_enter Tryz.func136,Tryz.ntmps136
 go_wp2
 go_loop [3,10] (λv k=>∃j:Nat,j<=m/\k= .int .i64 j/\v= .int .u32 ((kx 4294967295 pl pz j:Nat):Int)) (λ_ k=>m-(intOf k).toNat)
 case atStart=>exact⟨0,by omega,rfl,rfl⟩
 obtain⟨j,hj,rfl,rfl⟩:=hrel
 by_cases hlt:j<m
 ·obtain⟨b,off,rfl,s,cap',hc,hr,hlen⟩:=HP.Z.at' j hlt
  have HR:=ah hr;have HV:Hd (kx 4294967295 pl pz j<4294967296):=yV (by omega) hz j;have HS:Hd (fq (kx 4294967295 pl pz j) (pz j) 0=kx 4294967295 pl pz j/\kx 4294967295 pl pz (j+1)=fq (kx 4294967295 pl pz j) (pz j) (pl j)):=⟨rfl,rfl⟩;have YT:=hz j;generalize kx 4294967295 pl pz j=V at*;clear hr
  go_wp2
  go_loop [3,16] (λv k=>∃i:Nat,i<=pl j/\k= .int .i64 i/\v= .int .u32 ((fq V (pz j) i:Nat):Int)) (λ_ k=>pl j-(intOf k).toNat)
  case atStart=>exact⟨0,by omega,rfl,rfl⟩
  obtain⟨i,hi,rfl,rfl⟩:=hrel
  by_cases kf:i<pl j
  ·rcases HR.Z with h0|⟨b',off',rfl,hseg⟩
   ·omega
   have hc':=hseg i kf;have hb:=YT i;have HF:Hd (fq V (pz j) i<4294967296):=n5 HV.Z YT i;have HE:Hd (fq V (pz j) (i+1)=FR (FR (fq V (pz j) i^^^(pz j i).toNat))):=by
    show EV _ _=_;rw[BI,BI];rfl
   generalize fq V (pz j) i=v at*;obtain⟨v1,Kl⟩:=ae (v^^^(pz j i).toNat);have hv1:v1<4294967296:=by rw[<-Kl];exact qD 32 HF.Z (by omega)
   have e1:bits .xor .u32 (v:Int) (pz j i)=(v1:Int):=by rw[u32_xor _ _ (by omega) (by have:=HF.Z;omega) hb.1 (by omega),Int.toNat_natCast,Kl]
   obtain⟨q1,r1,t1,v2,hr1,hv2,e2,e3,e4,adU,xd⟩:=uh v1 hv1 HT.Z;obtain⟨q2,r2,t2,v3,hr2,hv3,e5,e6,e7,adT,Cq⟩:=uh v2 hv2 HT.Z;have IG:Hd (fq V (pz j) (i+1)=v3):=by show _=_;rw[HE.Z,Kl,xd.Z,Cq.Z]
   clear HE xd Cq Kl
   go_wp2
   go_round
   case rel=>exact⟨i+1,by omega,by go_num,by rw[IG.Z]⟩
   simp[intOf];omega
  obtain rfl:i=pl j:=by omega
  go_wp2
  go_round
  case rel=>exact⟨j+1,by omega,by go_num,by rw[HS.Z.2]⟩
  simp[intOf];omega
 obtain rfl:j=m:=by omega
 have HN:Hd (bits .xor .u32 4294967295 ((kx 4294967295 pl pz j:Nat):Int)=((4294967295-kx 4294967295 pl pz j:Nat):Int)):=IN (yV (by omega) hz j)
 go_wp2
 go_ret;exact⟨by rw[show IntKind.u32.max=4294967295 from by decide,HN.Z];rfl,rfl⟩
def iter(f:Nat->Nat):Nat->Nat->Nat
 |0,v=>v
 |k+1,v=>f (iter f k v)
theorem Ah(v:Nat)(hv:v<4294967296)(w:World):Calls Tryz.prog 111 #[.int .u32 (v:Int)] w λe w'=>e= .returned (.int .u32 ((qi v:Nat):Int))/\w=w':=by
 go_enter Tryz.func111,Tryz.ntmps111;have e2:(v:Int).tdiv 2=(v:Int)/2:=Int.tdiv_eq_ediv_of_nonneg (by omega);have e3:(v:Int).tmod 2=(v:Int)%2:=Int.tmod_eq_emod_of_nonneg (by omega)
 by_cases h:v%2=1
 ·have HS:Hd (qi v=(v/2)^^^3988292384):=by show _=_;unfold qi;rw[if_pos h]
  have e1:((v:Int)%2==1)=true:=by simp;omega
  have e4:(v:Int)/2=((v/2:Nat):Int):=by omega
  have e5:bits .xor .u32 ((v/2:Nat):Int) 3988292384=(((v/2)^^^3988292384:Nat):Int):=u32_xor_nat (v/2) 3988292384 (by omega) (by omega);generalize (v/2)^^^3988292384=u at*;generalize v/2=q at*
  go_wp2
  go_ret;exact⟨by rw[HS.Z];rfl,rfl⟩
 have HS:Hd (qi v=v/2):=by show _=_;unfold qi;rw[if_neg h]
 have e1:((v:Int)%2==1)=false:=by simp;omega
 have e4:(v:Int)/2=((v/2:Nat):Int):=by omega
 generalize v/2=q at*
 go_wp2
 go_ret;exact⟨by rw[HS.Z];rfl,rfl⟩
theorem iI(a:Option Addr)(m cap:Nat)(z:Nat->Int)(w:World)(hl:(m:Int)<=9223372036854775807)(hr:Row w a m z)(hz:bu z):
  Calls Tryz.prog 72 #[.slice a m cap] w λe w'=>e= .returned (.int .u32 (kh z m))/\w=w':=by
 have HR:=ah hr;clear hr;go_enter Tryz.func72,Tryz.ntmps72
 go_wp2
 go_loop [3,4] (λv k=>∃j:Nat,j<=m/\k= .int .i64 j/\v= .int .u32 ((fq 4294967295 z j:Nat):Int)) (λ_ k=>m-(intOf k).toNat)
 case atStart=>exact⟨0,by omega,rfl,rfl⟩
 obtain⟨j,hj,rfl,rfl⟩:=hrel
 by_cases hlt:j<m
 ·rcases HR.Z with h0|⟨b',off',rfl,hseg⟩
  ·omega
  have hc':=hseg j hlt;have hb:=hz j;have HF:Hd (fq 4294967295 z j<4294967296):=n5 (by omega) hz j;have HE:Hd (fq 4294967295 z (j+1)=UI (fq 4294967295 z j^^^(z j).toNat)):=rfl;generalize fq 4294967295 z j=v at*;obtain⟨v1,Kl⟩:=ae (v^^^(z j).toNat);have hv1:v1<4294967296:=by rw[<-Kl];exact qD 32 HF.Z (by omega)
  have e1:bits .xor .u32 (v:Int) (z j)=(v1:Int):=by rw[u32_xor _ _ (by omega) (by have:=HF.Z;omega) hb.1 (by omega),Int.toNat_natCast,Kl]
  have IG:Hd (fq 4294967295 z (j+1)=iter qi 8 v1):=by show _=_;rw[HE.Z,Kl];rfl
  clear HE Kl
  go_wp2
  go_loop [3,5] (λv k=>∃i:Nat,i<=8/\k= .int .i64 i/\v= .int .u32 ((iter qi i v1:Nat):Int)) (λ_ k=>8-(intOf k).toNat)
  case atStart=>exact⟨0,by omega,rfl,rfl⟩
  obtain⟨i,hi,rfl,rfl⟩:=hrel
  by_cases kf:i<8
  ·have HI:Hd (iter qi i v1<4294967296):=by
    show _<_;clear kf hi IG
    induction i with
    |zero=>exact hv1
    |succ i ih=>exact qW ih
   have HS:Hd (qi (iter qi i v1)=iter qi (i+1) v1):=rfl;generalize iter qi i v1=u at*;have l1:(i:Int)<8:=by omega
   go_wp2_with fail;refine(Ah u HI.Z _).mono ?_;rintro e wx ⟨rfl,rfl⟩
   go_wp2
   go_round
   case rel=>exact⟨i+1,by omega,by go_num,by rw[HS.Z]⟩
   simp[intOf];omega
  obtain rfl:i=8:=by omega
  go_wp2
  go_round
  case rel=>exact⟨j+1,by omega,by go_num,by rw[IG.Z]⟩
  simp[intOf];omega
 obtain rfl:j=m:=by omega
 have HX:Hd (fq 4294967295 z j<4294967296):=n5 (by omega) hz j;have HC:Hd (kh z j=((4294967295-fq 4294967295 z j:Nat):Int)):=rfl;generalize fq 4294967295 z j=v at*;have e9:(4294967295:Int)-(v:Int)=((4294967295-v:Nat):Int):=by have:=HX.Z;omega
 go_wp2
 go_ret;exact⟨by rw[HC.Z];rfl,rfl⟩
def wz(l:Nat->Int)(i:Nat):Int:=byteOf (l (i/4)) (i%4)
def TZ(l:Nat->Int):Prop:=∀k,0<=l k/\l k<4294967296
theorem EK(l:Nat->Int):bu (wz l):=λi=>gx _ _
theorem zj(j:Nat):byteOf 0 j=0:=by unfold byteOf;simp
def upd(l:Nat->Int)(k:Nat)(v:Int):Nat->Int:=λj=>if j=k then v else l j
theorem Mz(l:Nat->Int)(k:Nat)(v:Int)(i:Nat):over (wz l) (4*k) 4 (byteOf v) i=wz (upd l k v) i:=by
 unfold wz upd
 by_cases h:4*k<=i/\i<4*k+4
 ·rw[gC _ _ _ _ _ h,if_pos (by omega)];congr 1;omega
 rw[cJ _ _ _ _ _ (by omega),if_neg (by omega)]
theorem xy{l m:Nat->Int}(n:Nat)(h:∀k,k<n->l k=m k)(i:Nat)(hi:i<4*n):wz l i=wz m i:=by
 unfold wz;rw[h _ (by omega)]
def jw(kind seq first:Int)(r:Nat->Int)(k:Nat):Int:=if k=0 then 1280199249 else if k=1 then kind else if k=2 then seq else if k=3 then first else r (k-4)
theorem Nh{kind seq first:Int}{r:Nat->Int}(h1:0<=kind/\kind<4294967296)(h2:0<=seq/\seq<4294967296)(h3:0<=first/\first<4294967296)(hr:TZ r):TZ (jw kind seq first r):=by
 intro k;unfold jw;split
 ·omega
 split
 ·exact h1
 split
 ·exact h2
 split
 ·exact h3
 exact hr _
def seqB(s:Int):Bool:=decide (1<=s/\s<=2147483648)
def nz:Nat->Int:=λ_=>0
def hz(l:Nat->Int)(i:Nat):Int:=byteOf (l (i/2)) (i%2)
def hd(z:Nat->Int)(k:Nat):Int:=g16 z (2*k)
theorem oQ(l:Nat->Int):bu (hz l):=λi=>gx _ _
theorem Ns(l:Nat->Int)(k:Nat)(v:Int)(i:Nat):over (hz l) (2*k) 2 (byteOf v) i=hz (upd l k v) i:=by
 unfold over hz upd
 by_cases h:2*k<=i/\i<2*k+2
 ·rw[if_pos h,if_pos (show i/2=k by omega)];congr 1;omega
 rw[if_neg h,if_neg (show¬i/2=k by omega)]
theorem D4(v:Int)(i:Nat)(hi:i<2):byteOf (v%65536) i=byteOf v i:=by
 unfold byteOf;have:i=0\/i=1:=by omega
 rcases this with rfl|rfl
 ·simp<;>omega
 simp<;>omega
theorem D5(v:Int)(i:Nat):byteOf (v/65536) i=byteOf v (i+2):=by
 rw[show i+2=(i+1)+1 by omega,bC,bC]
 congr 1;omega
def qL(l:Nat->Int)(k:Nat)(v:Int):Nat->Int:=upd (upd l k (v%65536)) (k+1) (v/65536)
theorem JL(l:Nat->Int)(k:Nat)(v:Int)(i:Nat):over (hz l) (2*k) 4 (byteOf v) i=hz (qL l k v) i:=by
 unfold over hz qL upd
 by_cases h:2*k<=i/\i<2*k+4
 ·rw[if_pos h]
  by_cases h2:i<2*k+2
  ·rw[if_neg (show¬i/2=k+1 by omega),if_pos (show i/2=k by omega),D4 _ _ (Nat.mod_lt _ (by omega))];congr 1;omega
  rw[if_pos (show i/2=k+1 by omega),D5];congr 1;omega
 rw[if_neg h,if_neg (show¬i/2=k+1 by omega),if_neg (show¬i/2=k by omega)]
theorem BR(i:Nat):hz (λ_=>0) i=0:=zj _
theorem KP(hzb:bu z)(k n:Nat):dw (λi=>z (2*k+i)) (2*n)=dw (λj=>hd z (k+j)) n:=by
 rw[Bool.eq_iff_iff,jO,jO];constructor
 ·intro h j hj
  have h0:=h (2*j) (by omega);have h1:=h (2*j+1) (by omega);show g16 z (2*(k+j))=0;unfold g16;rw[show 2*(k+j)=2*k+2*j by omega,h0,Nat.add_assoc,h1];rfl
 intro h i hi;have hj:g16 z (2*(k+i/2))=0:=h (i/2) (by omega);have b0:=hzb (2*(k+i/2));have b1:=hzb (2*(k+i/2)+1);unfold g16 at hj;have:i=2*(i/2)\/i=2*(i/2)+1:=by omega
 rcases this with e|e
 ·rw[show 2*k+i=2*(k+i/2) by omega];omega
 rw[show 2*k+i=2*(k+i/2)+1 by omega];omega
def me(z:Nat->Int):Nat->Int:=over z 252 4 (byteOf (kh z 252))
def xK(z:Nat->Int):Bool:=cR z 252==kh z 252
theorem oC(h:bu z):bu (me z):=eO h (mT _) _ _
end Go.Proofs.YtphamecphmbipaaGreatDoor
