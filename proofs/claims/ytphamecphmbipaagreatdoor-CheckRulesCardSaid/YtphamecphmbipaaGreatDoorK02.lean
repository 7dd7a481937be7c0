/- Texts of this claim, merged. -/
import Derived.Test.YtphamecphmbipaaGreatDoorK01
import Derived.Test.YtphamecphmbipaaGreatDoorRows
import Derived.Outline
import Derived.Deep.QuietTactic
import Derived.BigQuiet
import Derived.IntWalk
set_option linter.unusedVariables false
set_option maxRecDepth 100000
set_option maxHeartbeats 16000000

namespace Go.Proofs.YtphamecphmbipaaGreatDoor
open Go.RowKit
open Lib (hid)
variable {b v len:Nat} {z:Nat->Int} {at':Int} {w w':World}
def pQ(v:Nat):Nat:=if v%2=1 then(v/2)^^^3988292384 else v/2
def sP:List Nat:=[0,498536548,997073096,651767980,1994146192,1802195444,1303535960,1342533948,3988292384,4027552580,3604390888,3412177804,2607071920,2262029012,2685067896,3183342108]
def Fv(v:Nat):Nat:=(v/16)^^^sP.getD (v%16) 0
def ER(v:Nat):Nat:=pQ (pQ (pQ (pQ v)))
def Uh(v:Nat):Nat:=ER (ER v)
def EC(v x:Nat):Nat:=Uh (v^^^x)
def eW(v:Nat)(z:Nat->Int):Nat->Nat
 |0=>v
 |n+1=>EC (eW v z n) (z n).toNat
def jZ(z:Nat->Int)(n:Nat):Int:=((4294967295-eW 4294967295 z n:Nat):Int)
def kg(v:Nat)(pl:Nat->Nat)(pz:Nat->Nat->Int):Nat->Nat
 |0=>v
 |k+1=>eW (kg v pl pz k) (pz k) (pl k)
theorem Er(a b:Nat):(a^^^b)/2=(a/2)^^^(b/2):=Nat.xor_div_two
theorem Ii(a b:Nat):(a^^^b)%2=(a%2+b%2)%2:=by
 have h:=@Nat.xor_mod_two_eq_one a b;have:a%2<2:=Nat.mod_lt _ (by omega);have:b%2<2:=Nat.mod_lt _ (by omega);have:(a^^^b)%2<2:=Nat.mod_lt _ (by omega)
 by_cases ha:a%2=1<;>by_cases hb:b%2=1
 ·have:¬(a^^^b)%2=1:=λk=>(h.1 k) (by simp[ha,hb])
  omega
 ·have:(a^^^b)%2=1:=h.2 (by simp[ha,hb])
  omega
 ·have:(a^^^b)%2=1:=h.2 (by simp[ha,hb])
  omega
 ·have:¬(a^^^b)%2=1:=λk=>(h.1 k) (by simp[ha,hb])
  omega
theorem pP(a b:Nat):pQ (a^^^b)=pQ a^^^pQ b:=by
 unfold pQ;rw[Ii,Er];have:a%2<2:=Nat.mod_lt _ (by omega);have:b%2<2:=Nat.mod_lt _ (by omega)
 by_cases ha:a%2=1<;>by_cases hb:b%2=1
 ·rw[if_neg (by omega),if_pos ha,if_pos hb,Nat.xor_assoc,Nat.xor_comm (b/2),<-Nat.xor_assoc 3988292384,Nat.xor_self,Nat.zero_xor]
 ·rw[if_pos (by omega),if_pos ha,if_neg hb,Nat.xor_assoc,Nat.xor_comm (b/2),<-Nat.xor_assoc]
 ·rw[if_pos (by omega),if_neg ha,if_pos hb,Nat.xor_assoc]
 ·rw[if_neg (by omega),if_neg ha,if_neg hb]
theorem Iz(a b:Nat):ER (a^^^b)=ER a^^^ER b:=by unfold ER;rw[pP,pP,pP,pP]
theorem Ix(q r:Nat)(hr:r<16):16*q+r=(16*q)^^^r:=by
 refine Nat.eq_of_testBit_eq λj=> ?_
 have h1:=Nat.testBit_two_pow_mul_add q (b:=r) (i:=4) hr j;have h2:=Nat.testBit_two_pow_mul_add q (b:=0) (i:=4) (by omega) j;rw[show(2:Nat)^4=16 from rfl] at h1 h2;rw[Nat.add_zero] at h2;rw[Nat.testBit_xor,h1,h2]
 by_cases hj:j<4
 ·rw[if_pos hj,if_pos hj,Nat.zero_testBit,Bool.false_xor]
 ·rw[if_neg hj,if_neg hj,Nat.testBit_lt_two_pow (x:=r) (i:=j) (Nat.lt_of_lt_of_le hr (by rw[show(16:Nat)=2^4 from rfl];exact Nat.pow_le_pow_right (by omega) (by omega))),Bool.xor_false]
theorem m6(q:Nat):pQ (2*q)=q:=by unfold pQ;rw[if_neg (by omega)];omega
theorem Mk(q:Nat):ER (16*q)=q:=by
 unfold ER;rw[show 16*q=2*(2*(2*(2*q))) by omega,m6,m6,m6,m6]
theorem IA:∀r,r<16->ER r=sP.getD r 0:=by decide
theorem Bu(v:Nat):Fv v=ER v:=by
 have h:=Ix (v/16) (v%16) (Nat.mod_lt _ (by omega));rw[Nat.div_add_mod] at h;rw[h,Iz,Mk,IA _ (Nat.mod_lt _ (by omega)),<-h]
 rfl
theorem qm{a:Nat}(n:Nat)(ha:a<2^n)(hb:b<2^n):a^^^b<2^n:=Nat.xor_lt_two_pow ha hb
theorem qG(h:v<4294967296):pQ v<4294967296:=by
 unfold pQ;split
 ·exact qm 32 (a:=v/2) (b:=3988292384) (by omega) (by decide)
 ·omega
theorem EP(h:v<4294967296):ER v<4294967296:=qG (qG (qG (qG h)))
theorem Mj(h:v<4294967296):Uh v<4294967296:=EP (EP h)
theorem EB{x:Nat}(h:v<4294967296)(hx:x<256):EC v x<4294967296:=Mj (qm 32 h (by omega))
theorem nN(hv:v<4294967296)(hz:bm z)(n:Nat):eW v z n<4294967296:=by
 induction n with
 |zero=>exact hv
 |succ n ih=>exact EB ih (by have:=hz n;omega)
theorem yD{pl:Nat->Nat}{pz:Nat->Nat->Int}(hv:v<4294967296)(hz:∀k,bm (pz k))(m:Nat):kg v pl pz m<4294967296:=by
 induction m with
 |zero=>exact hv
 |succ m ih=>exact nN ih (hz m) _
theorem BT(z:Nat->Int)(n:Nat):0<=jZ z n/\jZ z n<4294967296:=by unfold jZ;omega
theorem qu(n at' size:Int)(w:World)(hn:0<=n)(hl:n<=9223372036854775807)(hs:0<=size)(h:0<=at'/\at'+size<=n):
  Calls Tryz.prog 137 #[.int .i64 n,.int .i64 at',.int .i64 size] w λe w'=>e= .returned (.bool true)/\w=w':=by
 have h1:at'<=n-size:=by omega
 have h2:size<=n:=by omega
 obtain⟨h,_⟩:=h;go_enter Tryz.func137,Tryz.ntmps137
 go_wp2
 go_ret;exact⟨aC (by simp),rfl⟩
theorem Cq(n at' size:Int)(w:World)(hn:0<=n)(hl:n<=9223372036854775807)(hs:0<=size)(h:¬(0<=at'/\at'+size<=n)):
  Calls Tryz.prog 137 #[.int .i64 n,.int .i64 at',.int .i64 size] w λe w'=>e= .returned (.bool false)/\w=w':=by
 by_cases h0:0<=at'
 ·by_cases h2:size<=n
  ·have h1:decide (at'<=n-size)=false:=by simp;omega
   clear h;go_enter Tryz.func137,Tryz.ntmps137
   go_wp2
   go_ret;exact⟨rfl,rfl⟩
  ·clear h
   go_enter Tryz.func137,Tryz.ntmps137
   go_wp2
   go_ret;exact⟨rfl,rfl⟩
 ·clear h
  go_enter Tryz.func137,Tryz.ntmps137
  go_wp2
  go_ret;exact⟨rfl,rfl⟩
theorem As(b off len cap:Nat)(at':Int)(z:Nat->Int)(w:World)(hl:(len:Int)<=9223372036854775807)(h0:0<=at')(h1:at'+2<=len)
  (hs:Seg w b off len z) (hz:bm z):
  Calls Tryz.prog 91 #[.slice (some ⟨b,off,none⟩) len cap,.int .i64 at',.int .i64 2] w λe w'=>e= .returned (.tuple #[.int .u16 (g16 z at'.toNat),.bool true])/\w=w':=by
 obtain⟨i,rfl⟩:=Int.eq_ofNat_of_zero_le h0;have c0:=hs (i) (by omega);have z0:=hz (i);have c1:=hs (i+1) (by omega);have z1:=hz (i+1);have e1:bits BinOp.or IntKind.u16 0 (z (i+1))=z (i+1):=by have:=qF 0 (z (i+1)) (by omega) (by omega) (by omega) (by omega);simpa using this
 have e0:bits BinOp.or IntKind.u16 ((z (i+1))*256) (z i)=(z (i+1))*256+z i:=qF _ _ (by omega) (by omega) (by omega) (by omega);have r:Hid ((z (i+1))*256+z i=g16 z ((i:Int)).toNat):=by show _=_;unfold g16;rw[Int.toNat_natCast];omega
 go_enter Tryz.func91,Tryz.ntmps91;go_wp2_with (go_at_call 137;refine(qu _ _ _ _ (by omega) (by omega) (by omega) (by omega)).mono ?_;rintro e w' ⟨rfl,rfl⟩)
 refine wp_loop_rounds 3 ?_;rw[rounds_succ]
 go_wp2
 rw[rounds_succ]
 go_wp2
 rw[rounds_succ]
 go_wp2
 go_ret2
 exact⟨vp r.out rfl,rfl⟩
theorem ud(b off len cap:Nat)(at':Int)(z:Nat->Int)(w:World)(hl:(len:Int)<=9223372036854775807)(h0:0<=at')(h1:at'+2<=len)
  (hs:Seg w b off len z) (hz:bm z):
  Calls Tryz.prog 50 #[.slice (some ⟨b,off,none⟩) len cap,.int .i64 at'] w λe w'=>e= .returned (.tuple #[.int .u32 (g16 z at'.toNat),.bool true])/\w=w':=by
 have hb:=oD hz at'.toNat;go_enter Tryz.func50,Tryz.ntmps50;go_wp2_with (go_at_call 91;refine(As _ _ _ _ _ z _ hl h0 h1 hs hz).mono ?_;rintro e w' ⟨rfl,rfl⟩)
 go_ret2
 exact⟨rfl,rfl⟩
theorem Ar(b off len cap:Nat)(at':Int)(z:Nat->Int)(w:World)(hl:(len:Int)<=9223372036854775807)(h0:0<=at')(h1:at'+4<=len)
  (hs:Seg w b off len z) (hz:bm z):
  Calls Tryz.prog 92 #[.slice (some ⟨b,off,none⟩) len cap,.int .i64 at',.int .i64 4] w λe w'=>e= .returned (.tuple #[.int .u32 (b9 z at'.toNat),.bool true])/\w=w':=by
 obtain⟨i,rfl⟩:=Int.eq_ofNat_of_zero_le h0;have c0:=hs (i) (by omega);have z0:=hz (i);have c1:=hs (i+1) (by omega);have z1:=hz (i+1);have c2:=hs (i+2) (by omega);have z2:=hz (i+2);have c3:=hs (i+3) (by omega);have z3:=hz (i+3);have e3:bits BinOp.or IntKind.u32 0 (z (i+3))=z (i+3):=by have:=jI 0 (z (i+3)) (by omega) (by omega) (by omega) (by omega);simpa using this
 have e2:bits BinOp.or IntKind.u32 ((z (i+3))*256) (z (i+2))=(z (i+3))*256+z (i+2):=jI _ _ (by omega) (by omega) (by omega) (by omega);have e1:bits BinOp.or IntKind.u32 (((z (i+3))*256+z (i+2))*256) (z (i+1))=((z (i+3))*256+z (i+2))*256+z (i+1):=jI _ _ (by omega) (by omega) (by omega) (by omega);have e0:bits BinOp.or IntKind.u32 ((((z (i+3))*256+z (i+2))*256+z (i+1))*256) (z i)=(((z (i+3))*256+z (i+2))*256+z (i+1))*256+z i:=jI _ _ (by omega) (by omega) (by omega) (by omega);have r:Hid ((((z (i+3))*256+z (i+2))*256+z (i+1))*256+z i=b9 z ((i:Int)).toNat):=by show _=_;unfold b9;rw[Int.toNat_natCast];omega
 go_enter Tryz.func92,Tryz.ntmps92;go_wp2_with (go_at_call 137;refine(qu _ _ _ _ (by omega) (by omega) (by omega) (by omega)).mono ?_;rintro e w' ⟨rfl,rfl⟩)
 refine wp_loop_rounds 5 ?_;rw[rounds_succ]
 go_wp2
 rw[rounds_succ]
 go_wp2
 rw[rounds_succ]
 go_wp2
 rw[rounds_succ]
 go_wp2
 rw[rounds_succ]
 go_wp2
 go_ret2
 exact⟨vp r.out rfl,rfl⟩
theorem Dn(a:Option Addr)(len cap:Nat)(at':Int)(w:World)(hl:(len:Int)<=9223372036854775807)(h:¬(0<=at'/\at'+4<=len)):
  Calls Tryz.prog 92 #[.slice a len cap,.int .i64 at',.int .i64 4] w λe w'=>e= .returned (.tuple #[.int .u32 0,.bool false])/\w=w':=by
 have H:=hid h;clear h;go_enter Tryz.func92,Tryz.ntmps92;go_wp2_with (go_at_call 137;refine(Cq _ _ _ _ (by omega) (by omega) (by omega) H.out).mono ?_;rintro e w' ⟨rfl,rfl⟩)
 go_ret2
 exact⟨rfl,rfl⟩
theorem g7(b off len cap:Nat)(at':Int)(z:Nat->Int)(w:World)(hl:(len:Int)<=9223372036854775807)(h0:0<=at')(h1:at'+4<=len)
  (hs:Seg w b off len z) (hz:bm z):
  Calls Tryz.prog 51 #[.slice (some ⟨b,off,none⟩) len cap,.int .i64 at'] w λe w'=>e= .returned (.tuple #[.int .u32 (b9 z at'.toNat),.bool true])/\w=w':=by
 have hb:=dA hz at'.toNat;go_enter Tryz.func51,Tryz.ntmps51;go_wp2_with (go_at_call 92;refine(Ar _ _ _ _ _ z _ hl h0 h1 hs hz).mono ?_;rintro e w' ⟨rfl,rfl⟩)
 go_ret2
 exact⟨rfl,rfl⟩
theorem Gl(a:Option Addr)(len cap:Nat)(at':Int)(w:World)(hl:(len:Int)<=9223372036854775807)(h:¬(0<=at'/\at'+4<=len)):
  Calls Tryz.prog 51 #[.slice a len cap,.int .i64 at'] w λe w'=>e= .returned (.tuple #[.int .u32 0,.bool false])/\w=w':=by
 have H:=hid h;clear h;go_enter Tryz.func51,Tryz.ntmps51;go_wp2_with (go_at_call 92;refine(Dn _ _ _ _ _ hl H.out).mono ?_;rintro e w' ⟨rfl,rfl⟩)
 go_ret2
 exact⟨rfl,rfl⟩
theorem mV(a:Option Addr)(len cap:Nat)(z:Nat->Int)(w:World)(hl:(len:Int)<=9223372036854775807)(hs:Row w a len z):
  Calls Tryz.prog 49 #[.slice a len cap] w λe w'=>e= .returned (.bool (de z len))/\w=w':=by
 have start:de z 0=true:=by simp[de]
 have START:=hid start;clear start;go_enter Tryz.func49,Tryz.ntmps49
 go_wp2
 go_loop [7] (λk=>∃j:Nat,j<=len/\k= .int .i64 j/\Hid (de z j=true)) (λk=>len-(intOf k).toNat)
 case atStart=>exact⟨0,by omega,rfl,START⟩
 case round=>
  obtain⟨j,hj,rfl,hall⟩:=hrel
  by_cases hlt:j<len
  ·rcases hs with h0|⟨b,off,rfl,hs⟩
   ·omega
   have hc:=hs j hlt
   by_cases hz:z j=0
   ·have hz':(z j !=0)=false:=by simp[hz]
    have HZ:=hid hz;clear hz
    go_wp2
    go_round
    case rel=>exact⟨j+1,by omega,by go_num,by show de z (j+1)=true;rw[ig,hall.out,HZ.out];rfl⟩
    case measure=>simp[intOf];omega
   ·have hz':(z j !=0)=true:=by simp[hz]
    have HZ:=hid (B5 hlt hz);clear hz
    go_wp2
    go_ret;exact⟨aC (by rw[HZ.out]),rfl⟩
  ·obtain rfl:j=len:=by omega
   go_wp2
   go_ret;exact⟨aC (by rw[hall.out]),rfl⟩
theorem oc(a:Option Addr)(len cap:Nat)(z:Nat->Int)(w:World)(hl:(len:Int)<=9223372036854775807)(hs:Row w a len z):
  Calls Tryz.prog 147 #[.slice a len cap] w λe w'=>e= .returned (.bool (de z len))/\w=w':=by
 have start:de z 0=true:=by simp[de]
 have START:=hid start;clear start;go_enter Tryz.func147,Tryz.ntmps147
 go_wp2
 go_loop [3] (λk=>∃j:Nat,j<=len/\k= .int .i64 j/\Hid (de z j=true)) (λk=>len-(intOf k).toNat)
 case atStart=>exact⟨0,by omega,rfl,START⟩
 case round=>
  obtain⟨j,hj,rfl,hall⟩:=hrel
  by_cases hlt:j<len
  ·rcases hs with h0|⟨b,off,rfl,hs⟩
   ·omega
   have hc:=hs j hlt
   by_cases hz:z j=0
   ·have hz':(z j !=0)=false:=by simp[hz]
    have HZ:=hid hz;clear hz
    go_wp2
    go_round
    case rel=>exact⟨j+1,by omega,by go_num,by show de z (j+1)=true;rw[ig,hall.out,HZ.out];rfl⟩
    case measure=>simp[intOf];omega
   ·have hz':(z j !=0)=true:=by simp[hz]
    have HZ:=hid (B5 hlt hz);clear hz
    go_wp2
    go_ret;exact⟨aC (by rw[HZ.out]),rfl⟩
  ·obtain rfl:j=len:=by omega
   go_wp2
   go_ret;exact⟨aC (by rw[hall.out]),rfl⟩
theorem xx(a c:Option Addr)(len cap cap':Nat)(z y:Nat->Int)(w:World)(hl:(len:Int)<=9223372036854775807)(hs:Row w a len z)(hs':Row w c len y):
  Calls Tryz.prog 166 #[.slice a len cap,.slice c len cap'] w λe w'=>e= .returned (.bool (me z y len))/\∃m,w'=w.drewN m:=by
 have start:me z y 0=true:=by simp[me]
 have START:=hid start;clear start;go_enter Tryz.func166,Tryz.ntmps166
 go_wp2
 go_loopw [5] (λk wr=>∃j:Nat,j<=len/\k= .int .i64 j/\Hid (me z y j=true)/\∃m,wr=w.drewN m) (λk _=>len-(intOf k).toNat)
 case atStart=>exact⟨0,by omega,rfl,START,0,rfl⟩
 case round=>
  obtain⟨j,hj,rfl,hall,m,rfl⟩:=hrel
  by_cases hlt:j<len
  ·rcases hs with h0|⟨b,off,rfl,hs⟩
   ·omega
   rcases hs' with h0|⟨b',off',rfl,hs'⟩
   ·omega
   have hc:=hs j hlt;have hc':=hs' j hlt
   by_cases hz:z j=y j
   ·have hz':(z j !=y j)=false:=by simp[hz]
    have HZ:=hid hz;clear hz
    go_wp2
    go_quiet (fail)
    go_wp2
    go_roundw
    case rel=>exact⟨j+1,by omega,by go_num,by show me z y (j+1)=true;rw[yK,hall.out,HZ.out];simp,_,rfl⟩
    case measure=>simp[intOf];omega
   ·have hz':(z j !=y j)=true:=by simp[hz]
    have HZ:=hid (NR hlt hz);clear hz
    go_wp2
    go_quiet (fail)
    go_wp2
    go_ret;exact⟨aC (by rw[HZ.out]),m+nq,by simp⟩
  ·obtain rfl:j=len:=by omega
   go_wp2
   go_ret;exact⟨aC (by rw[hall.out]),_,rfl⟩
theorem mn(b off len cap:Nat)(at':Int)(z:Nat->Int)(w:World)(hl:(len:Int)<=9223372036854775807)(h0:0<=at')(h1:at'+2<=len)
  (hs:Seg w b off len z) (hz:bm z):
  Calls Tryz.prog 143 #[.slice (some ⟨b,off,none⟩) len cap,.int .i64 at'] w λe w'=>e= .returned (.tuple #[.int .u32 (g16 z at'.toNat),.bool true])/\∃m,w'=w.drewN m:=by
 obtain⟨i,rfl⟩:=Int.eq_ofNat_of_zero_le h0;have c0:=hs (i) (by omega);have z0:=hz (i);have c1:=hs (i+1) (by omega);have z1:=hz (i+1);have r:Hid (z i+256*z (i+1)=g16 z ((i:Int)).toNat):=by show _=_;unfold g16;rw[Int.toNat_natCast]
 have d1:decide ((len:Int)<2)=false:=by simp;omega
 have d2:decide ((len:Int)-2<(i:Int))=false:=by simp;omega
 go_enter Tryz.func143,Tryz.ntmps143
 go_wp2
 have e11:IntKind.i64.wrap ((i:Int)+1)=(i:Int)+1:=IntWalk.i64_in _ (by omega);have e12:(0:Int)<=(i:Int)+1:=by omega
 have e13:((i:Int)+1).toNat=i+1:=by omega
 go_quiet (fail)
 go_wp2
 go_ret2
 exact⟨vp r.out rfl,_,rfl⟩
theorem fh(b off len cap:Nat)(at':Int)(z:Nat->Int)(w:World)(hl:(len:Int)<=9223372036854775807)(h0:0<=at')(h1:at'+4<=len)
  (hs:Seg w b off len z) (hz:bm z):
  Calls Tryz.prog 106 #[.slice (some ⟨b,off,none⟩) len cap,.int .i64 at'] w λe w'=>e= .returned (.tuple #[.int .u32 (b9 z at'.toNat),.bool true])/\∃m,w'=w.drewN m:=by
 obtain⟨i,rfl⟩:=Int.eq_ofNat_of_zero_le h0;have c0:=hs (i) (by omega);have z0:=hz (i);have c1:=hs (i+1) (by omega);have z1:=hz (i+1);have c2:=hs (i+2) (by omega);have z2:=hz (i+2);have c3:=hs (i+3) (by omega);have z3:=hz (i+3);have r:Hid (z i+256*z (i+1)+65536*z (i+2)+16777216*z (i+3)=b9 z ((i:Int)).toNat):=by show _=_;unfold b9;rw[Int.toNat_natCast]
 have d1:decide ((len:Int)<4)=false:=by simp;omega
 have d2:decide ((len:Int)-4<(i:Int))=false:=by simp;omega
 go_enter Tryz.func106,Tryz.ntmps106
 go_wp2
 have e11:IntKind.i64.wrap ((i:Int)+1)=(i:Int)+1:=IntWalk.i64_in _ (by omega);have e12:(0:Int)<=(i:Int)+1:=by omega
 have e13:((i:Int)+1).toNat=i+1:=by omega
 have e21:IntKind.i64.wrap ((i:Int)+2)=(i:Int)+2:=IntWalk.i64_in _ (by omega);have e22:(0:Int)<=(i:Int)+2:=by omega
 have e23:((i:Int)+2).toNat=i+2:=by omega
 have e31:IntKind.i64.wrap ((i:Int)+3)=(i:Int)+3:=IntWalk.i64_in _ (by omega);have WO:(0:Int)<=(i:Int)+3:=by omega
 have WN:((i:Int)+3).toNat=i+3:=by omega
 go_quiet (fail)
 go_wp2
 go_ret2
 exact⟨vp r.out rfl,_,rfl⟩
theorem qM(b off len cap:Nat)(at':Int)(v:Int)(z:Nat->Int)(w:World)(hl:(len:Int)<=9223372036854775807)(h0:0<=at')(h1:at'+2<=len)
  (hv:0<=v) (hv2:v<=65535) (hs:Seg w b off len z) (hz:bm z) (hf:Ku w b off len):
  Calls Tryz.prog 97 #[.slice (some ⟨b,off,none⟩) len cap,.int .i64 at',.int .u32 v] w λe w'=>e= .returned (.bool true)/\fN b (off+at'.toNat) 2 (byteOf v) w w':=by
 have HG:Hid (_):=hid (λw' (hs:Seg w' b off len z)=>mn b off len cap at' z w' hl h0 h1 hs hz);obtain⟨i,rfl⟩:=Int.eq_ofNat_of_zero_le h0;rw[Int.toNat_natCast];have c0:=hs i (by omega);have c1:=hs (i+1) (by omega);have f0:=hf i (by omega);have f1:=hf (i+1) (by omega);have HP:Hid (∀w':World,fN b (off+i) 0 (byteOf v) w w'->fN b (off+i) 2 (byteOf v) w ((w'.setCell ⟨b,off+i,none⟩ (.int .u8 (v%256))).setCell ⟨b,off+(i+1),none⟩ (.int .u8 (v/256)))):=by
  intro w' hp;have h1:=hp.snoc (u:=.int .u8 (z i)) (v:=.int .u8 (v%256)) c0 (by rw[dG]);have h2:=h1.snoc (u:=.int .u8 (z (i+1))) (v:=.int .u8 (v/256)) (by rw[Nat.add_assoc];exact c1) (by rw[bf,dG];congr 1;omega);rw[Nat.add_assoc] at h2;exact h2
 go_enter Tryz.func97,Tryz.ntmps97;go_wp2_with (go_at_call 143;refine(HG.out _ hs).mono ?_;rintro e w' ⟨rfl,m,rfl⟩)
 go_ret;exact⟨rfl,HP.out _ ((fN.nil _ _ _ _).drewN m)⟩
theorem cU(b off len cap:Nat)(at':Int)(v:Int)(z:Nat->Int)(w:World)(hl:(len:Int)<=9223372036854775807)(h0:0<=at')(h1:at'+4<=len)
  (hv:0<=v) (hv2:v<4294967296) (hs:Seg w b off len z) (hz:bm z) (hf:Ku w b off len):
  Calls Tryz.prog 71 #[.slice (some ⟨b,off,none⟩) len cap,.int .i64 at',.int .u32 v] w λe w'=>e= .returned (.bool true)/\fN b (off+at'.toNat) 4 (byteOf v) w w':=by
 have HG:Hid (_):=hid (λw' (hs:Seg w' b off len z)=>fh b off len cap at' z w' hl h0 h1 hs hz);obtain⟨i,rfl⟩:=Int.eq_ofNat_of_zero_le h0;rw[Int.toNat_natCast];go_enter Tryz.func71,Tryz.ntmps71;go_wp2_with (go_at_call 106;refine(HG.out _ hs).mono ?_;rintro e w' ⟨rfl,m,rfl⟩)
 go_loopw [2,9] (λu k wr=>∃j:Nat,j<=4/\k= .int .i64 j/\(∃x:Int,0<=x/\x<4294967296/\(∀m,byteOf x m=byteOf v (j+m))/\u= .int .u32 x)/\fN b (off+i) j (byteOf v) w wr) (λ_ k _=>4-(intOf k).toNat)
 case atStart=>exact⟨0,by omega,rfl,⟨v,hv,hv2,λm=>by rw[Nat.zero_add],rfl⟩,(fN.nil _ _ _ _).drewN m⟩
 case round=>
  obtain⟨j,hj,rfl,⟨x,hx0,hx1,hx,rfl⟩,hp⟩:=hrel
  by_cases hlt:j<4
  ·have hcw:=hs (i+j) (by omega)
   have hc:wr.cell? ⟨b,off+(i+j),none⟩=some (.int .u8 (z (i+j))):=by
    have:=hp.cell (off+(i+j));rw[if_neg (by omega)] at this;rw[this];exact hcw
   have Hk:wr.frozen? ⟨b,off+(i+j),none⟩=false:=by rw[hp.only.frozen];exact hf _ (by omega)
   have XP:=hid hcw;have HX:=hid hx;clear hcw hx
   go_wp2
   go_roundw
   case rel=>
    refine⟨j+1,by omega,by go_num,⟨x/256,by omega,by omega,λm=> ?_,rfl⟩,?_⟩
    ·rw[<-bf,HX.out];congr 1;omega
    ·have:=hp.snoc (u:=.int .u8 (z (i+j))) (v:=.int .u8 (x%256)) (by rw[Nat.add_assoc];exact XP.out) (by have:=HX.out 0;rw[dG,Nat.add_zero] at this;rw[this])
     rw[Nat.add_assoc] at this;exact this
   case measure=>simp[intOf];omega
  ·obtain rfl:j=4:=by omega
   go_wp2
   go_ret;exact⟨rfl,hp⟩
def fits(n len:Nat)(at':Int):Bool:=decide (0<=at'/\at'+n<=len)
def PY(z:Nat->Int)(len:Nat)(at':Int):Int:=if fits 4 len at' then b9 z at'.toNat else 0
theorem yE{n:Nat}(h:0<=at'/\at'+n<=len):fits n len at'=true:=by simp[fits,h]
theorem BL{n:Nat}(h:¬(0<=at'/\at'+n<=len)):fits n len at'=false:=by simp[fits];omega
theorem Row.at{a:Option Addr}{n:Nat}(h:Row w a n z)(h0:0<n):∃b off,a=some ⟨b,off,none⟩/\Seg w b off n z:=by
 rcases h with h|h
 ·omega
 ·exact h
theorem ub(a:Option Addr)(len cap:Nat)(at':Int)(z:Nat->Int)(w:World)(hl:(len:Int)<=9223372036854775807)(hs:Row w a len z)(hz:bm z):
  Calls Tryz.prog 51 #[.slice a len cap,.int .i64 at'] w λe w'=>e= .returned (.tuple #[.int .u32 (PY z len at'),.bool (fits 4 len at')])/\w=w':=by
 by_cases h:0<=at'/\at'+4<=len
 ·obtain⟨b,off,rfl,hs2⟩:=hs.at (by omega);clear hs;have hs:=hs2;clear hs2
  rw[PY,yE h,if_pos rfl];exact g7 b off len cap at' z w hl h.1 h.2 hs hz
 ·rw[PY,BL h]
  exact Gl a len cap at' w hl h
def Tab(w:World):Prop:=∀i,i<16->w.cell? ⟨0,i,none⟩=some (.int .u32 ((sP.getD i 0:Nat):Int))
theorem Tab.lt(h:Tab w):0<w.heap.size:=World.block_lt_of_cell? w _ (h 0 (by omega))
theorem Tab.below(h:Tab w){B:Nat}(hb:Below B w w')(hB:w.heap.size<=B):Tab w':=λi hi=>(hb.cell (p:=⟨0,i,none⟩) (by have:=h.lt;show 0<B;omega)).trans (h i hi)
theorem Tab.alloc(h:Tab w)(o:Obj):Tab (w.alloc o):=h.below ((Below.refl _ _).alloc (Nat.le_refl _) o) (Nat.le_refl _)
theorem Tab.only(h:Tab w)(hb:an b w w')(hg:b≠0):Tab w':=λi hi=>(hb.cell (p:=⟨0,i,none⟩) (λe=>hg e.symm)).trans (h i hi)
theorem Ij(hv:v<4294967296):bits .xor .u32 4294967295 (v:Int)=((4294967295-v:Nat):Int):=by
 have h:=u32_xor_nat 4294967295 v (by omega) hv;rw[show((4294967295:Nat):Int)=4294967295 from rfl] at h;rw[h]
 congr 1
 refine Nat.eq_of_testBit_eq λj=> ?_
 have h1:=Nat.testBit_two_pow_sub_succ (x:=v) (n:=32) hv j;have h2:=Nat.testBit_two_pow_sub_succ (x:=0) (n:=32) (by omega) j;rw[show(2:Nat)^32-(v+1)=4294967295-v by omega] at h1;rw[show(2:Nat)^32-(0+1)=4294967295 by omega] at h2;rw[Nat.testBit_xor,h1,h2,Nat.zero_testBit]
 by_cases hj:j<32
 ·simp[hj]
 ·rw[Nat.testBit_lt_two_pow (x:=v) (i:=j) (Nat.lt_of_lt_of_le hv (by rw[show(4294967296:Nat)=2^32 from rfl];exact Nat.pow_le_pow_right (by omega) (by omega)))]
  simp[hj]
theorem tP(v:Nat)(hv:v<4294967296)(hT:Tab w):∃q r t u:Nat,r<16/\u<4294967296/\bits .and .u32 (v:Int) 15=(r:Int)/\(v:Int)/16=(q:Int)/\bits .xor .u32 (q:Int) (t:Int)=(u:Int)/\
  w.cell? ⟨0,r,none⟩=some (.int .u32 (t:Int))/\Hid (Fv v=u):=by
 have ht:sP.getD (v%16) 0<4294967296:=by
  have:∀r,r<16->sP.getD r 0<4294967296:=by decide
  exact this _ (Nat.mod_lt _ (by omega))
 refine⟨v/16,v%16,sP.getD (v%16) 0,Fv v,Nat.mod_lt _ (by omega),qm 32 (by omega) ht,?_,by omega,?_,hT _ (Nat.mod_lt _ (by omega)),rfl⟩
 ·have:=u32_and_nat v 15 (by omega) (by omega)
  rw[show((15:Nat):Int)=15 from rfl] at this;rw[this,show(15:Nat)=2^4-1 from rfl,Nat.and_two_pow_sub_one_eq_mod]
 ·exact u32_xor_nat _ _ (by omega) ht
structure GQ(w:World)(a:Option Addr)(m:Nat)(pl:Nat->Nat)(pz:Nat->Nat->Int):Prop where
 at':∀k,k<m->∃b off,a=some ⟨b,off,none⟩/\∃s cap,w.cell? ⟨b,off+k,none⟩=some (.slice s (pl k) cap)/\Row w s (pl k) (pz k)/\(pl k:Int)<=9223372036854775807
theorem AK(a:Option Addr)(m cap:Nat)(pl:Nat->Nat)(pz:Nat->Nat->Int)(w:World)(hl:(m:Int)<=9223372036854775807)(hp:GQ w a m pl pz)(hz:∀k,bm (pz k))(hT:Tab w):
  Calls Tryz.prog 136 #[.slice a m cap] w λe w'=>e= .returned (.int .u32 ((4294967295-kg 4294967295 pl pz m:Nat):Int))/\w=w':=by
 have HT:=hid hT;have HP:=hid hp;clear hT hp;go_enter Tryz.func136,Tryz.ntmps136
 go_wp2
 go_loop [3,10] (λv k=>∃j:Nat,j<=m/\k= .int .i64 j/\v= .int .u32 ((kg 4294967295 pl pz j:Nat):Int)) (λ_ k=>m-(intOf k).toNat)
 case atStart=>exact⟨0,by omega,rfl,rfl⟩
 case round=>
  obtain⟨j,hj,rfl,rfl⟩:=hrel
  by_cases hlt:j<m
  ·obtain⟨b,off,rfl,s,cap',hc,hr,hlen⟩:=HP.out.at' j hlt
   have HR:=hid hr;have HV:Hid (kg 4294967295 pl pz j<4294967296):=yD (by omega) hz j;have HS:Hid (eW (kg 4294967295 pl pz j) (pz j) 0=kg 4294967295 pl pz j/\kg 4294967295 pl pz (j+1)=eW (kg 4294967295 pl pz j) (pz j) (pl j)):=⟨rfl,rfl⟩;have Ym:=hz j;generalize kg 4294967295 pl pz j=V at*;clear hr
   go_wp2
   go_loop [3,16] (λv k=>∃i:Nat,i<=pl j/\k= .int .i64 i/\v= .int .u32 ((eW V (pz j) i:Nat):Int)) (λ_ k=>pl j-(intOf k).toNat)
   case atStart=>exact⟨0,by omega,rfl,rfl⟩
   case round=>
    obtain⟨i,hi,rfl,rfl⟩:=hrel
    by_cases jX:i<pl j
    ·rcases HR.out with h0|⟨b',off',rfl,hseg⟩
     ·omega
     have hc':=hseg i jX;have hb:=Ym i;have HF:Hid (eW V (pz j) i<4294967296):=nN HV.out Ym i;have HE:Hid (eW V (pz j) (i+1)=Fv (Fv (eW V (pz j) i^^^(pz j i).toNat))):=by
      show EC _ _=_;rw[Bu,Bu];rfl
     generalize eW V (pz j) i=v at*;obtain⟨v1,JV⟩:∃v1,v^^^(pz j i).toNat=v1:=⟨_,rfl⟩;have hv1:v1<4294967296:=by rw[<-JV];exact qm 32 HF.out (by omega)
     have e1:bits .xor .u32 (v:Int) (pz j i)=(v1:Int):=by rw[u32_xor _ _ (by omega) (by have:=HF.out;omega) hb.1 (by omega),Int.toNat_natCast,JV]
     obtain⟨q1,r1,t1,v2,hr1,hv2,e2,e3,e4,adr,wJ⟩:=tP v1 hv1 HT.out;obtain⟨q2,r2,t2,v3,hr2,hv3,e5,e6,e7,adq,zv⟩:=tP v2 hv2 HT.out;have Ie:Hid (eW V (pz j) (i+1)=v3):=by show _=_;rw[HE.out,JV,wJ.out,zv.out]
     clear HE wJ zv JV
     go_wp2
     go_round
     case rel=>exact⟨i+1,by omega,by go_num,by rw[Ie.out]⟩
     case measure=>simp[intOf];omega
    ·obtain rfl:i=pl j:=by omega
     go_wp2
     go_round
     case rel=>exact⟨j+1,by omega,by go_num,by rw[HS.out.2]⟩
     case measure=>simp[intOf];omega
  ·obtain rfl:j=m:=by omega
   have HN:Hid (bits .xor .u32 4294967295 ((kg 4294967295 pl pz j:Nat):Int)=((4294967295-kg 4294967295 pl pz j:Nat):Int)):=Ij (yD (by omega) hz j)
   go_wp2
   go_ret;exact⟨by rw[show IntKind.u32.max=4294967295 from by decide,HN.out];rfl,rfl⟩
def iter(f:Nat->Nat):Nat->Nat->Nat
 |0,v=>v
 |k+1,v=>f (iter f k v)
theorem zV(v:Nat)(hv:v<4294967296)(w:World):Calls Tryz.prog 111 #[.int .u32 (v:Int)] w λe w'=>e= .returned (.int .u32 ((pQ v:Nat):Int))/\w=w':=by
 go_enter Tryz.func111,Tryz.ntmps111;have e2:(v:Int).tdiv 2=(v:Int)/2:=Int.tdiv_eq_ediv_of_nonneg (by omega);have e3:(v:Int).tmod 2=(v:Int)%2:=Int.tmod_eq_emod_of_nonneg (by omega)
 by_cases h:v%2=1
 ·have HS:Hid (pQ v=(v/2)^^^3988292384):=by show _=_;unfold pQ;rw[if_pos h]
  have e1:((v:Int)%2==1)=true:=by simp;omega
  have e4:(v:Int)/2=((v/2:Nat):Int):=by omega
  have e5:bits .xor .u32 ((v/2:Nat):Int) 3988292384=(((v/2)^^^3988292384:Nat):Int):=u32_xor_nat (v/2) 3988292384 (by omega) (by omega);generalize (v/2)^^^3988292384=u at*;generalize v/2=q at*
  go_wp2
  go_ret;exact⟨by rw[HS.out];rfl,rfl⟩
 ·have HS:Hid (pQ v=v/2):=by show _=_;unfold pQ;rw[if_neg h]
  have e1:((v:Int)%2==1)=false:=by simp;omega
  have e4:(v:Int)/2=((v/2:Nat):Int):=by omega
  generalize v/2=q at*
  go_wp2
  go_ret;exact⟨by rw[HS.out];rfl,rfl⟩
theorem iq(a:Option Addr)(m cap:Nat)(z:Nat->Int)(w:World)(hl:(m:Int)<=9223372036854775807)(hr:Row w a m z)(hz:bm z):
  Calls Tryz.prog 72 #[.slice a m cap] w λe w'=>e= .returned (.int .u32 (jZ z m))/\w=w':=by
 have HR:=hid hr;clear hr;go_enter Tryz.func72,Tryz.ntmps72
 go_wp2
 go_loop [3,4] (λv k=>∃j:Nat,j<=m/\k= .int .i64 j/\v= .int .u32 ((eW 4294967295 z j:Nat):Int)) (λ_ k=>m-(intOf k).toNat)
 case atStart=>exact⟨0,by omega,rfl,rfl⟩
 case round=>
  obtain⟨j,hj,rfl,rfl⟩:=hrel
  by_cases hlt:j<m
  ·rcases HR.out with h0|⟨b',off',rfl,hseg⟩
   ·omega
   have hc':=hseg j hlt;have hb:=hz j;have HF:Hid (eW 4294967295 z j<4294967296):=nN (by omega) hz j;have HE:Hid (eW 4294967295 z (j+1)=Uh (eW 4294967295 z j^^^(z j).toNat)):=rfl;generalize eW 4294967295 z j=v at*;obtain⟨v1,JV⟩:∃v1,v^^^(z j).toNat=v1:=⟨_,rfl⟩;have hv1:v1<4294967296:=by rw[<-JV];exact qm 32 HF.out (by omega)
   have e1:bits .xor .u32 (v:Int) (z j)=(v1:Int):=by rw[u32_xor _ _ (by omega) (by have:=HF.out;omega) hb.1 (by omega),Int.toNat_natCast,JV]
   have Ie:Hid (eW 4294967295 z (j+1)=iter pQ 8 v1):=by show _=_;rw[HE.out,JV];rfl
   clear HE JV
   go_wp2
   go_loop [3,5] (λv k=>∃i:Nat,i<=8/\k= .int .i64 i/\v= .int .u32 ((iter pQ i v1:Nat):Int)) (λ_ k=>8-(intOf k).toNat)
   case atStart=>exact⟨0,by omega,rfl,rfl⟩
   case round=>
    obtain⟨i,hi,rfl,rfl⟩:=hrel
    by_cases jX:i<8
    ·have HI:Hid (iter pQ i v1<4294967296):=by
      show _<_;clear jX hi Ie
      induction i with
      |zero=>exact hv1
      |succ i ih=>exact qG ih
     have HS:Hid (pQ (iter pQ i v1)=iter pQ (i+1) v1):=rfl;generalize iter pQ i v1=u at*;have l1:(i:Int)<8:=by omega
     go_wp2_with fail;refine(zV u HI.out _).mono ?_;rintro e wx ⟨rfl,rfl⟩
     go_wp2
     go_round
     case rel=>exact⟨i+1,by omega,by go_num,by rw[HS.out]⟩
     case measure=>simp[intOf];omega
    ·obtain rfl:i=8:=by omega
     go_wp2
     go_round
     case rel=>exact⟨j+1,by omega,by go_num,by rw[Ie.out]⟩
     case measure=>simp[intOf];omega
  ·obtain rfl:j=m:=by omega
   have HX:Hid (eW 4294967295 z j<4294967296):=nN (by omega) hz j;have HC:Hid (jZ z j=((4294967295-eW 4294967295 z j:Nat):Int)):=rfl;generalize eW 4294967295 z j=v at*;have e9:(4294967295:Int)-(v:Int)=((4294967295-v:Nat):Int):=by have:=HX.out;omega
   go_wp2
   go_ret;exact⟨by rw[HC.out];rfl,rfl⟩
def wz(l:Nat->Int)(i:Nat):Int:=byteOf (l (i/4)) (i%4)
def Ty(l:Nat->Int):Prop:=∀k,0<=l k/\l k<4294967296
theorem Es(l:Nat->Int):bm (wz l):=λi=>gg _ _
theorem yV(j:Nat):byteOf 0 j=0:=by unfold byteOf;simp
def upd(l:Nat->Int)(k:Nat)(v:Int):Nat->Int:=λj=>if j=k then v else l j
theorem L8(l:Nat->Int)(k:Nat)(v:Int)(i:Nat):over (wz l) (4*k) 4 (byteOf v) i=wz (upd l k v) i:=by
 unfold wz upd
 by_cases h:4*k<=i/\i<4*k+4
 ·rw[gl _ _ _ _ _ h,if_pos (by omega)];congr 1;omega
 ·rw[bY _ _ _ _ _ (by omega),if_neg (by omega)]
theorem xd{l m:Nat->Int}(n:Nat)(h:∀k,k<n->l k=m k)(i:Nat)(hi:i<4*n):wz l i=wz m i:=by
 unfold wz;rw[h _ (by omega)]
def jw(kind seq first:Int)(r:Nat->Int)(k:Nat):Int:=if k=0 then 1280199249 else if k=1 then kind else if k=2 then seq else if k=3 then first else r (k-4)
theorem MJ{kind seq first:Int}{r:Nat->Int}(h1:0<=kind/\kind<4294967296)(h2:0<=seq/\seq<4294967296)(h3:0<=first/\first<4294967296)(hr:Ty r):Ty (jw kind seq first r):=by
 intro k;unfold jw;split
 ·omega
 ·split
  ·exact h1
  ·split
   ·exact h2
   ·split
    ·exact h3
    ·exact hr _
def seqB(s:Int):Bool:=decide (1<=s/\s<=2147483648)
def nz:Nat->Int:=λ_=>0
def hz(l:Nat->Int)(i:Nat):Int:=byteOf (l (i/2)) (i%2)
def hd(z:Nat->Int)(k:Nat):Int:=g16 z (2*k)
theorem oB(l:Nat->Int):bm (hz l):=λi=>gg _ _
theorem MV(l:Nat->Int)(k:Nat)(v:Int)(i:Nat):over (hz l) (2*k) 2 (byteOf v) i=hz (upd l k v) i:=by
 unfold over hz upd
 by_cases h:2*k<=i/\i<2*k+2
 ·rw[if_pos h,if_pos (show i/2=k by omega)];congr 1;omega
 ·rw[if_neg h,if_neg (show¬i/2=k by omega)]
theorem DP(v:Int)(i:Nat)(hi:i<2):byteOf (v%65536) i=byteOf v i:=by
 unfold byteOf;have:i=0\/i=1:=by omega
 rcases this with rfl|rfl
 ·simp<;>omega
 ·simp<;>omega
theorem DQ(v:Int)(i:Nat):byteOf (v/65536) i=byteOf v (i+2):=by
 rw[show i+2=(i+1)+1 by omega,bf,bf]
 congr 1;omega
def qw(l:Nat->Int)(k:Nat)(v:Int):Nat->Int:=upd (upd l k (v%65536)) (k+1) (v/65536)
theorem Jk(l:Nat->Int)(k:Nat)(v:Int)(i:Nat):over (hz l) (2*k) 4 (byteOf v) i=hz (qw l k v) i:=by
 unfold over hz qw upd
 by_cases h:2*k<=i/\i<2*k+4
 ·rw[if_pos h]
  by_cases h2:i<2*k+2
  ·rw[if_neg (show¬i/2=k+1 by omega),if_pos (show i/2=k by omega),DP _ _ (Nat.mod_lt _ (by omega))];congr 1;omega
  ·rw[if_pos (show i/2=k+1 by omega),DQ];congr 1;omega
 ·rw[if_neg h,if_neg (show¬i/2=k+1 by omega),if_neg (show¬i/2=k by omega)]
theorem BE(i:Nat):hz (λ_=>0) i=0:=yV _
theorem Kp(hzb:bm z)(k n:Nat):de (λi=>z (2*k+i)) (2*n)=de (λj=>hd z (k+j)) n:=by
 rw[Bool.eq_iff_iff,jz,jz];constructor
 ·intro h j hj
  have h0:=h (2*j) (by omega);have h1:=h (2*j+1) (by omega);show g16 z (2*(k+j))=0;unfold g16;rw[show 2*(k+j)=2*k+2*j by omega,h0,Nat.add_assoc,h1];rfl
 ·intro h i hi
  have hj:g16 z (2*(k+i/2))=0:=h (i/2) (by omega);have b0:=hzb (2*(k+i/2));have b1:=hzb (2*(k+i/2)+1);unfold g16 at hj;have:i=2*(i/2)\/i=2*(i/2)+1:=by omega
  rcases this with e|e
  ·rw[show 2*k+i=2*(k+i/2) by omega];omega
  ·rw[show 2*k+i=2*(k+i/2)+1 by omega];omega
def lS(z:Nat->Int):Nat->Int:=over z 252 4 (byteOf (jZ z 252))
def xr(z:Nat->Int):Bool:=b9 z 252==jZ z 252
theorem oa(h:bm z):bm (lS z):=eY h (r5 _) _ _
end Go.Proofs.YtphamecphmbipaaGreatDoor
