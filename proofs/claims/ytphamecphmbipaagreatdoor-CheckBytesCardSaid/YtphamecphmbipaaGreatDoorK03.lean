/- Texts of this claim, merged by a program (a claim may have 60 files): CrcP, NumsAny, Crc, AppendB, PutsIf, Wz, U6p, Slice, Ino, Tell, MakeB. -/
import Derived.Test.YtphamecphmbipaaGreatDoorK01
import Derived.Test.YtphamecphmbipaaGreatDoorK02
import Derived.Shelf.Abstract
import Derived.TacticsInMore
import Derived.LoopNIn
import Derived.LoopIn
import Derived.Lib.LazyBuf
import Derived.Laws.OwnMore
namespace Go.Proofs.YtphamecphmbipaaGreatDoor
set_option linter.unusedVariables false
def shN (v:Nat):Nat:=if v % 2 = 1 then (v / 2) ^^^ 3988292384 else v / 2
def tabN:List Nat:=[0,498536548,997073096,651767980,1994146192,1802195444,1303535960,1342533948,3988292384,4027552580,3604390888,3412177804,2607071920,2262029012,2685067896,3183342108]
def nibN (v:Nat):Nat:=(v / 16) ^^^ tabN.getD (v % 16) 0
def sh4 (v:Nat):Nat:=shN (shN (shN (shN v)))
def sh8 (v:Nat):Nat:=sh4 (sh4 v)
def stepN (v x:Nat):Nat:=sh8 (v ^^^ x)
def foldN (v:Nat) (z:Nat → Int):Nat → Nat
 | 0 => v
 | n + 1 => stepN (foldN v z n) (z n).toNat
def crcZ (z:Nat → Int) (n:Nat):Int:=((4294967295 - foldN 4294967295 z n:Nat):Int)
def foldP (v:Nat) (pl:Nat → Nat) (pz:Nat → Nat → Int):Nat → Nat
 | 0 => v
 | k + 1 => foldN (foldP v pl pz k) (pz k) (pl k)
theorem xor_half (a b:Nat):(a ^^^ b) / 2 = (a / 2) ^^^ (b / 2):=Nat.xor_div_two
theorem xor_odd (a b:Nat):(a ^^^ b) % 2 = (a % 2 + b % 2) % 2:=by
 have h:=@Nat.xor_mod_two_eq_one a b
 have:a % 2 < 2:=Nat.mod_lt _ (by omega)
 have:b % 2 < 2:=Nat.mod_lt _ (by omega)
 have:(a ^^^ b) % 2 < 2:=Nat.mod_lt _ (by omega)
 by_cases ha:a % 2 = 1 <;> by_cases hb:b % 2 = 1
 ·have:¬ (a ^^^ b) % 2 = 1:=fun k => (h.1 k) (by simp [ha,hb])
  omega
 ·have:(a ^^^ b) % 2 = 1:=h.2 (by simp [ha,hb])
  omega
 ·have:(a ^^^ b) % 2 = 1:=h.2 (by simp [ha,hb])
  omega
 ·have:¬ (a ^^^ b) % 2 = 1:=fun k => (h.1 k) (by simp [ha,hb])
  omega
theorem shN_xor (a b:Nat):shN (a ^^^ b) = shN a ^^^ shN b:=by
 unfold shN
 rw [xor_odd,xor_half]
 have:a % 2 < 2:=Nat.mod_lt _ (by omega)
 have:b % 2 < 2:=Nat.mod_lt _ (by omega)
 by_cases ha:a % 2 = 1 <;> by_cases hb:b % 2 = 1
 ·rw [if_neg (by omega),if_pos ha,if_pos hb,Nat.xor_assoc,Nat.xor_comm (b / 2),← Nat.xor_assoc 3988292384,Nat.xor_self,Nat.zero_xor]
 ·rw [if_pos (by omega),if_pos ha,if_neg hb,Nat.xor_assoc,Nat.xor_comm (b / 2),← Nat.xor_assoc]
 ·rw [if_pos (by omega),if_neg ha,if_pos hb,Nat.xor_assoc]
 ·rw [if_neg (by omega),if_neg ha,if_neg hb]
theorem sh4_xor (a b:Nat):sh4 (a ^^^ b) = sh4 a ^^^ sh4 b:=by unfold sh4;rw [shN_xor,shN_xor,shN_xor,shN_xor]
theorem split16 (q r:Nat) (hr:r < 16):16 * q + r = (16 * q) ^^^ r:=by
 refine Nat.eq_of_testBit_eq fun j => ?_
 have h1:=Nat.testBit_two_pow_mul_add q (b:=r) (i:=4) hr j
 have h2:=Nat.testBit_two_pow_mul_add q (b:=0) (i:=4) (by omega) j
 rw [show (2:Nat) ^ 4 = 16 from rfl] at h1 h2
 rw [Nat.add_zero] at h2
 rw [Nat.testBit_xor,h1,h2]
 by_cases hj:j < 4
 ·rw [if_pos hj,if_pos hj,Nat.zero_testBit,Bool.false_xor]
 ·rw [if_neg hj,if_neg hj,Nat.testBit_lt_two_pow (x:=r) (i:=j) (Nat.lt_of_lt_of_le hr (by rw [show (16:Nat) = 2 ^ 4 from rfl];exact Nat.pow_le_pow_right (by omega) (by omega))),Bool.xor_false]
theorem shN_even (q:Nat):shN (2 * q) = q:=by unfold shN;rw [if_neg (by omega)];omega
theorem sh4_16 (q:Nat):sh4 (16 * q) = q:=by
 unfold sh4
 rw [show 16 * q = 2 * (2 * (2 * (2 * q))) by omega,shN_even,shN_even,shN_even,shN_even]
theorem sh4_tab:∀ r,r < 16 → sh4 r = tabN.getD r 0:=by decide
theorem nib_sh4 (v:Nat):nibN v = sh4 v:=by
 have h:=split16 (v / 16) (v % 16) (Nat.mod_lt _ (by omega))
 rw [Nat.div_add_mod] at h
 rw [h,sh4_xor,sh4_16,sh4_tab _ (Nat.mod_lt _ (by omega)),← h]
 rfl
theorem xor_lt {a b:Nat} (n:Nat) (ha:a < 2 ^ n) (hb:b < 2 ^ n):a ^^^ b < 2 ^ n:=Nat.xor_lt_two_pow ha hb
theorem shN_lt {v:Nat} (h:v < 4294967296):shN v < 4294967296:=by
 unfold shN
 split
 ·exact xor_lt 32 (a:=v / 2) (b:=3988292384) (by omega) (by decide)
 ·omega
theorem sh4_lt {v:Nat} (h:v < 4294967296):sh4 v < 4294967296:=shN_lt (shN_lt (shN_lt (shN_lt h)))
theorem sh8_lt {v:Nat} (h:v < 4294967296):sh8 v < 4294967296:=sh4_lt (sh4_lt h)
theorem stepN_lt {v x:Nat} (h:v < 4294967296) (hx:x < 256):stepN v x < 4294967296:=sh8_lt (xor_lt 32 h (by omega))
theorem foldN_lt {v:Nat} {z:Nat → Int} (hv:v < 4294967296) (hz:Byt z) (n:Nat):foldN v z n < 4294967296:=by
 induction n with
 | zero => exact hv
 | succ n ih => exact stepN_lt ih (by have:=hz n;omega)
theorem foldP_lt {v:Nat} {pl:Nat → Nat} {pz:Nat → Nat → Int} (hv:v < 4294967296) (hz:∀ k,Byt (pz k)) (m:Nat):foldP v pl pz m < 4294967296:=by
 induction m with
 | zero => exact hv
 | succ m ih => exact foldN_lt ih (hz m) _
theorem foldN_congr {v:Nat} {z y:Nat → Int} {n:Nat} (h:∀ i,i < n → z i = y i):foldN v z n = foldN v y n:=by
 induction n with
 | zero => rfl
 | succ n ih => show stepN _ _ = stepN _ _;rw [ih fun i hi => h i (by omega),h n (by omega)]
theorem crcZ_bd (z:Nat → Int) (n:Nat):0 ≤ crcZ z n ∧ crcZ z n < 4294967296:=by unfold crcZ;omega
theorem crcZ_congr {z y:Nat → Int} {n:Nat} (h:∀ i,i < n → z i = y i):crcZ z n = crcZ y n:=by unfold crcZ;rw [foldN_congr h]
end Go.Proofs.YtphamecphmbipaaGreatDoor

namespace Go.Proofs.YtphamecphmbipaaGreatDoor
open Go.RowKit
set_option linter.unusedVariables false
def fits (n len:Nat) (at':Int):Bool:=decide (0 ≤ at' ∧ at' + n ≤ len)
def o32 (z:Nat → Int) (len:Nat) (at':Int):Int:=if fits 4 len at' then g32 z at'.toNat else 0
theorem fits_yes {n len:Nat} {at':Int} (h:0 ≤ at' ∧ at' + n ≤ len):fits n len at' = true:=by simp [fits,h]
theorem fits_no {n len:Nat} {at':Int} (h:¬ (0 ≤ at' ∧ at' + n ≤ len)):fits n len at' = false:=by simp [fits];omega
theorem Row.at {w:World} {a:Option Addr} {n:Nat} {z:Nat → Int} (h:Row w a n z) (h0:0 < n):∃ b off,a = some ⟨b,off,none⟩ ∧ Seg w b off n z:=by
 rcases h with h | h
 ·omega
 ·exact h
theorem Row.drewN {w:World} {a:Option Addr} {n:Nat} {z:Nat → Int} (h:Row w a n z) (m:Nat):Row (w.drewN m) a n z:=h
theorem get32_any (a:Option Addr) (len cap:Nat) (at':Int) (z:Nat → Int) (w:World) (hl:(len:Int) ≤ 9223372036854775807) (hs:Row w a len z) (hz:Byt z) :
  Calls Tryz.prog 51 #[.slice a len cap,.int .i64 at'] w fun e w' => e = .returned (.tuple #[.int .u32 (o32 z len at'),.bool (fits 4 len at')]) ∧ w = w':=by
 by_cases h:0 ≤ at' ∧ at' + 4 ≤ len
 ·obtain ⟨b,off,rfl,hs2⟩:=hs.at (by omega);clear hs;have hs:=hs2;clear hs2
  rw [o32,fits_yes h,if_pos rfl]
  exact get32_yes b off len cap at' z w hl h.1 h.2 hs hz
 ·rw [o32,fits_no h]
  exact get32_no a len cap at' w hl h
def Tab (w:World):Prop:=∀ i,i < 16 → w.cell? ⟨0,i,none⟩ = some (.int .u32 ((tabN.getD i 0:Nat):Int))
theorem Tab.lt {w:World} (h:Tab w):0 < w.heap.size:=World.block_lt_of_cell? w _ (h 0 (by omega))
theorem Tab.below {w w':World} (h:Tab w) {B:Nat} (hb:Below B w w') (hB:w.heap.size ≤ B):Tab w':=fun i hi => (hb.cell (p:=⟨0,i,none⟩) (by have:=h.lt;show 0 < B;omega)).trans (h i hi)
theorem Tab.alloc {w:World} (h:Tab w) (o:Obj):Tab (w.alloc o):=h.below ((Below.refl _ _).alloc (Nat.le_refl _) o) (Nat.le_refl _)
theorem Tab.only {w w':World} (h:Tab w) {b:Nat} (hb:Only b w w') (hg:b ≠ 0):Tab w':=fun i hi => (hb.cell (p:=⟨0,i,none⟩) (fun e => hg e.symm)).trans (h i hi)
theorem xor_max {v:Nat} (hv:v < 4294967296):bits .xor .u32 4294967295 (v:Int) = ((4294967295 - v:Nat):Int):=by
 have h:=u32_xor_nat 4294967295 v (by omega) hv
 rw [show ((4294967295:Nat):Int) = 4294967295 from rfl] at h
 rw [h]
 congr 1
 refine Nat.eq_of_testBit_eq fun j => ?_
 have h1:=Nat.testBit_two_pow_sub_succ (x:=v) (n:=32) hv j
 have h2:=Nat.testBit_two_pow_sub_succ (x:=0) (n:=32) (by omega) j
 rw [show (2:Nat) ^ 32 - (v + 1) = 4294967295 - v by omega] at h1
 rw [show (2:Nat) ^ 32 - (0 + 1) = 4294967295 by omega] at h2
 rw [Nat.testBit_xor,h1,h2,Nat.zero_testBit]
 by_cases hj:j < 32
 ·simp [hj]
 ·rw [Nat.testBit_lt_two_pow (x:=v) (i:=j) (Nat.lt_of_lt_of_le hv (by rw [show (4294967296:Nat) = 2 ^ 32 from rfl];exact Nat.pow_le_pow_right (by omega) (by omega)))]
  simp [hj]
theorem nib_facts (v:Nat) (hv:v < 4294967296) {w:World} (hT:Tab w):∃ q r t u:Nat,r < 16 ∧ u < 4294967296 ∧ bits .and .u32 (v:Int) 15 = (r:Int) ∧ (v:Int) / 16 = (q:Int) ∧ bits .xor .u32 (q:Int) (t:Int) = (u:Int) ∧
  w.cell? ⟨0,r,none⟩ = some (.int .u32 (t:Int)) ∧ Hid (nibN v = u):=by
 have ht:tabN.getD (v % 16) 0 < 4294967296:=by
  have:∀ r,r < 16 → tabN.getD r 0 < 4294967296:=by decide
  exact this _ (Nat.mod_lt _ (by omega))
 refine ⟨v / 16,v % 16,tabN.getD (v % 16) 0,nibN v,Nat.mod_lt _ (by omega),xor_lt 32 (by omega) ht,?_,by omega,?_,hT _ (Nat.mod_lt _ (by omega)),rfl⟩
 ·have:=u32_and_nat v 15 (by omega) (by omega)
  rw [show ((15:Nat):Int) = 15 from rfl] at this
  rw [this,show (15:Nat) = 2 ^ 4 - 1 from rfl,Nat.and_two_pow_sub_one_eq_mod]
 ·exact u32_xor_nat _ _ (by omega) ht
structure Pieces (w:World) (a:Option Addr) (m:Nat) (pl:Nat → Nat) (pz:Nat → Nat → Int):Prop where
 at':∀ k,k < m → ∃ b off,a = some ⟨b,off,none⟩ ∧ ∃ s cap,w.cell? ⟨b,off + k,none⟩ = some (.slice s (pl k) cap) ∧ Row w s (pl k) (pz k) ∧ (pl k:Int) ≤ 9223372036854775807
set_option maxRecDepth 100000 in
set_option maxHeartbeats 2000000 in
theorem crcSum_any (a:Option Addr) (m cap:Nat) (pl:Nat → Nat) (pz:Nat → Nat → Int) (w:World) (hl:(m:Int) ≤ 9223372036854775807) (hp:Pieces w a m pl pz) (hz:∀ k,Byt (pz k)) (hT:Tab w) :
  Calls Tryz.prog 136 #[.slice a m cap] w fun e w' => e = .returned (.int .u32 ((4294967295 - foldP 4294967295 pl pz m:Nat):Int)) ∧ w = w':=by
 have HT:=Lib.hid hT
 have HP:=Lib.hid hp
 clear hT hp
 go_enter Tryz.func136,Tryz.ntmps136
 go_wp2
 go_loop [3,10] (fun v k => ∃ j:Nat,j ≤ m ∧ k = .int .i64 j ∧ v = .int .u32 ((foldP 4294967295 pl pz j:Nat):Int)) (fun _ k => m - (intOf k).toNat)
 case atStart => exact ⟨0,by omega,rfl,rfl⟩
 case round =>
  obtain ⟨j,hj,rfl,rfl⟩:=hrel
  by_cases hlt:j < m
  ·obtain ⟨b,off,rfl,s,cap',hc,hr,hlen⟩:=HP.out.at' j hlt
   have HR:=Lib.hid hr
   have HV:Hid (foldP 4294967295 pl pz j < 4294967296):=foldP_lt (by omega) hz j
   have HS:Hid (foldN (foldP 4294967295 pl pz j) (pz j) 0 = foldP 4294967295 pl pz j ∧ foldP 4294967295 pl pz (j + 1) = foldN (foldP 4294967295 pl pz j) (pz j) (pl j)):=⟨rfl,rfl⟩
   have hzj:=hz j
   generalize foldP 4294967295 pl pz j = V at *
   clear hr
   go_wp2
   go_loop [3,16] (fun v k => ∃ i:Nat,i ≤ pl j ∧ k = .int .i64 i ∧ v = .int .u32 ((foldN V (pz j) i:Nat):Int)) (fun _ k => pl j - (intOf k).toNat)
   case atStart => exact ⟨0,by omega,rfl,rfl⟩
   case round =>
    obtain ⟨i,hi,rfl,rfl⟩:=hrel
    by_cases hlt2:i < pl j
    ·rcases HR.out with h0 | ⟨b',off',rfl,hseg⟩
     ·omega
     have hc':=hseg i hlt2
     have hb:=hzj i
     have HF:Hid (foldN V (pz j) i < 4294967296):=foldN_lt HV.out hzj i
     have HE:Hid (foldN V (pz j) (i + 1) = nibN (nibN (foldN V (pz j) i ^^^ (pz j i).toNat))):=by
      show stepN _ _ = _
      rw [nib_sh4,nib_sh4];rfl
     generalize foldN V (pz j) i = v at *
     obtain ⟨v1,ev1⟩:∃ v1,v ^^^ (pz j i).toNat = v1:=⟨_,rfl⟩
     have hv1:v1 < 4294967296:=by rw [← ev1];exact xor_lt 32 HF.out (by omega)
     have e1:bits .xor .u32 (v:Int) (pz j i) = (v1:Int):=by rw [u32_xor _ _ (by omega) (by have:=HF.out;omega) hb.1 (by omega),Int.toNat_natCast,ev1]
     obtain ⟨q1,r1,t1,v2,hr1,hv2,e2,e3,e4,hct1,HN1⟩:=nib_facts v1 hv1 HT.out
     obtain ⟨q2,r2,t2,v3,hr2,hv3,e5,e6,e7,hct2,HN2⟩:=nib_facts v2 hv2 HT.out
     have HE2:Hid (foldN V (pz j) (i + 1) = v3):=by show _ = _;rw [HE.out,ev1,HN1.out,HN2.out]
     clear HE HN1 HN2 ev1
     go_wp2
     go_round
     case rel => exact ⟨i + 1,by omega,by go_num,by rw [HE2.out]⟩
     case measure => simp [intOf];omega
    ·obtain rfl:i = pl j:=by omega
     go_wp2
     go_round
     case rel => exact ⟨j + 1,by omega,by go_num,by rw [HS.out.2]⟩
     case measure => simp [intOf];omega
  ·obtain rfl:j = m:=by omega
   have HN:Hid (bits .xor .u32 4294967295 ((foldP 4294967295 pl pz j:Nat):Int) = ((4294967295 - foldP 4294967295 pl pz j:Nat):Int)):=xor_max (foldP_lt (by omega) hz j)
   go_wp2
   go_ret
   exact ⟨by rw [show IntKind.u32.max = 4294967295 from by decide,HN.out];rfl,rfl⟩
def iter (f:Nat → Nat):Nat → Nat → Nat
 | 0,v => v
 | k + 1,v => f (iter f k v)
theorem rshift_any (v:Nat) (hv:v < 4294967296) (w:World):Calls Tryz.prog 111 #[.int .u32 (v:Int)] w fun e w' => e = .returned (.int .u32 ((shN v:Nat):Int)) ∧ w = w':=by
 go_enter Tryz.func111,Tryz.ntmps111
 have e2:(v:Int).tdiv 2 = (v:Int) / 2:=Int.tdiv_eq_ediv_of_nonneg (by omega)
 have e3:(v:Int).tmod 2 = (v:Int) % 2:=Int.tmod_eq_emod_of_nonneg (by omega)
 by_cases h:v % 2 = 1
 ·have HS:Hid (shN v = (v / 2) ^^^ 3988292384):=by show _ = _;unfold shN;rw [if_pos h]
  have e1:((v:Int) % 2 == 1) = true:=by simp;omega
  have e4:(v:Int) / 2 = ((v / 2:Nat):Int):=by omega
  have e5:bits .xor .u32 ((v / 2:Nat):Int) 3988292384 = (((v / 2) ^^^ 3988292384:Nat):Int):=u32_xor_nat (v / 2) 3988292384 (by omega) (by omega)
  generalize (v / 2) ^^^ 3988292384 = u at *
  generalize v / 2 = q at *
  go_wp2
  go_ret
  exact ⟨by rw [HS.out];rfl,rfl⟩
 ·have HS:Hid (shN v = v / 2):=by show _ = _;unfold shN;rw [if_neg h]
  have e1:((v:Int) % 2 == 1) = false:=by simp;omega
  have e4:(v:Int) / 2 = ((v / 2:Nat):Int):=by omega
  generalize v / 2 = q at *
  go_wp2
  go_ret
  exact ⟨by rw [HS.out];rfl,rfl⟩
set_option maxRecDepth 100000 in
set_option maxHeartbeats 2000000 in
theorem rSum_any (a:Option Addr) (m cap:Nat) (z:Nat → Int) (w:World) (hl:(m:Int) ≤ 9223372036854775807) (hr:Row w a m z) (hz:Byt z) :
  Calls Tryz.prog 72 #[.slice a m cap] w fun e w' => e = .returned (.int .u32 (crcZ z m)) ∧ w = w':=by
 have HR:=Lib.hid hr
 clear hr
 go_enter Tryz.func72,Tryz.ntmps72
 go_wp2
 go_loop [3,4] (fun v k => ∃ j:Nat,j ≤ m ∧ k = .int .i64 j ∧ v = .int .u32 ((foldN 4294967295 z j:Nat):Int)) (fun _ k => m - (intOf k).toNat)
 case atStart => exact ⟨0,by omega,rfl,rfl⟩
 case round =>
  obtain ⟨j,hj,rfl,rfl⟩:=hrel
  by_cases hlt:j < m
  ·rcases HR.out with h0 | ⟨b',off',rfl,hseg⟩
   ·omega
   have hc':=hseg j hlt
   have hb:=hz j
   have HF:Hid (foldN 4294967295 z j < 4294967296):=foldN_lt (by omega) hz j
   have HE:Hid (foldN 4294967295 z (j + 1) = sh8 (foldN 4294967295 z j ^^^ (z j).toNat)):=rfl
   generalize foldN 4294967295 z j = v at *
   obtain ⟨v1,ev1⟩:∃ v1,v ^^^ (z j).toNat = v1:=⟨_,rfl⟩
   have hv1:v1 < 4294967296:=by rw [← ev1];exact xor_lt 32 HF.out (by omega)
   have e1:bits .xor .u32 (v:Int) (z j) = (v1:Int):=by rw [u32_xor _ _ (by omega) (by have:=HF.out;omega) hb.1 (by omega),Int.toNat_natCast,ev1]
   have HE2:Hid (foldN 4294967295 z (j + 1) = iter shN 8 v1):=by show _ = _;rw [HE.out,ev1];rfl
   clear HE ev1
   go_wp2
   go_loop [3,5] (fun v k => ∃ i:Nat,i ≤ 8 ∧ k = .int .i64 i ∧ v = .int .u32 ((iter shN i v1:Nat):Int)) (fun _ k => 8 - (intOf k).toNat)
   case atStart => exact ⟨0,by omega,rfl,rfl⟩
   case round =>
    obtain ⟨i,hi,rfl,rfl⟩:=hrel
    by_cases hlt2:i < 8
    ·have HI:Hid (iter shN i v1 < 4294967296):=by
      show _ < _
      clear hlt2 hi HE2
      induction i with
      | zero => exact hv1
      | succ i ih => exact shN_lt ih
     have HS:Hid (shN (iter shN i v1) = iter shN (i + 1) v1):=rfl
     generalize iter shN i v1 = u at *
     have l1:(i:Int) < 8:=by omega
     go_wp2_with fail
     refine (rshift_any u HI.out _).mono ?_
     rintro e wx ⟨rfl,rfl⟩
     go_wp2
     go_round
     case rel => exact ⟨i + 1,by omega,by go_num,by rw [HS.out]⟩
     case measure => simp [intOf];omega
    ·obtain rfl:i = 8:=by omega
     go_wp2
     go_round
     case rel => exact ⟨j + 1,by omega,by go_num,by rw [HE2.out]⟩
     case measure => simp [intOf];omega
  ·obtain rfl:j = m:=by omega
   have HX:Hid (foldN 4294967295 z j < 4294967296):=foldN_lt (by omega) hz j
   have HC:Hid (crcZ z j = ((4294967295 - foldN 4294967295 z j:Nat):Int)):=rfl
   generalize foldN 4294967295 z j = v at *
   have e9:(4294967295:Int) - (v:Int) = ((4294967295 - v:Nat):Int):=by have:=HX.out;omega
   go_wp2
   go_ret
   exact ⟨by rw [HC.out];rfl,rfl⟩
end Go.Proofs.YtphamecphmbipaaGreatDoor

namespace Go.Proofs.YtphamecphmbipaaGreatDoor
open Go.RowKit
theorem info8:(Tryz.prog.info? 5).map (fun i => (i.zero,i.size,i.bytes)) = some (some (.int .u8 0),1,1):=by kernel_rfl
theorem wp_appendB {w:World} {ops:Array Oper} {rest:List Oper} {o:Oper} {a:Act} {Q:Exit → Act → World → Prop} (hgd:o.guard = none) (s x:Operand)
  (ho:o.op = .call { callee:=.builtin .append,args:=#[s,x],argTypes:=#[119,119] }) (base:Nat)
  (sa:Option Addr) (n cap:Nat) (z:Nat → Int) (hs:a.eval s = .slice sa n cap) (hown:Mine w base 5 sa n cap z)
  (xa:Option Addr) (m c:Nat) (y:Nat → Int) (hx:a.eval x = .slice xa m c) (hc:xa = none → c = 0) (hr:Row w xa m y)
  (hm:n + m ≤ 140737488355328) (hbase:base ≤ w.heap.size)
  (h:∀ sa' cap' w',Mine w' base 5 sa' (n + m) cap' (cat z n y) → w.grownBy w' (Value.slice sa n cap).ownBlock → (sa' = none → n + m = 0) → wpList Tryz.prog ops Q rest (a.put o.dst (.slice sa' (n + m) cap')) w') :
  wpList Tryz.prog ops Q (o :: rest) a w:=by
 obtain ⟨i0,hi,hz0,hz1,hz2⟩:=info_parts info8
 exact wpList_append_bytes hgd s x _ ho base _ i0 Tryz.underlying119 hi hz0 hz1 hz2 sa n cap z hs hown xa m c y hx hc hr hm hbase h
end Go.Proofs.YtphamecphmbipaaGreatDoor

namespace Go.Proofs.YtphamecphmbipaaGreatDoor
open Go.RowKit
end Go.Proofs.YtphamecphmbipaaGreatDoor

namespace Go.Proofs.YtphamecphmbipaaGreatDoor
open Go.RowKit
set_option linter.unusedVariables false
def wz (l:Nat → Int) (i:Nat):Int:=byteOf (l (i / 4)) (i % 4)
def Wds (l:Nat → Int):Prop:=∀ k,0 ≤ l k ∧ l k < 4294967296
theorem wz_byt (l:Nat → Int):Byt (wz l):=fun i => byteOf_bd _ _
theorem byteOf_0 (j:Nat):byteOf 0 j = 0:=by unfold byteOf;simp
def upd (l:Nat → Int) (k:Nat) (v:Int):Nat → Int:=fun j => if j = k then v else l j
theorem wz_put (l:Nat → Int) (k:Nat) (v:Int) (i:Nat):over (wz l) (4 * k) 4 (byteOf v) i = wz (upd l k v) i:=by
 unfold wz upd
 by_cases h:4 * k ≤ i ∧ i < 4 * k + 4
 ·rw [over_in _ _ _ _ _ h,if_pos (by omega)];congr 1;omega
 ·rw [over_out _ _ _ _ _ (by omega),if_neg (by omega)]
theorem wz_congr {l m:Nat → Int} (n:Nat) (h:∀ k,k < n → l k = m k) (i:Nat) (hi:i < 4 * n):wz l i = wz m i:=by
 unfold wz;rw [h _ (by omega)]
def jw (kind seq first:Int) (r:Nat → Int) (k:Nat):Int:=if k = 0 then 1280199249 else if k = 1 then kind else if k = 2 then seq else if k = 3 then first else r (k - 4)
theorem jw_wds {kind seq first:Int} {r:Nat → Int} (h1:0 ≤ kind ∧ kind < 4294967296) (h2:0 ≤ seq ∧ seq < 4294967296) (h3:0 ≤ first ∧ first < 4294967296) (hr:Wds r):Wds (jw kind seq first r):=by
 intro k;unfold jw
 split
 ·omega
 ·split
  ·exact h1
  ·split
   ·exact h2
   ·split
    ·exact h3
    ·exact hr _
def seqB (s:Int):Bool:=decide (1 ≤ s ∧ s ≤ 2147483648)
def nz:Nat → Int:=fun _ => 0
end Go.Proofs.YtphamecphmbipaaGreatDoor

namespace Go.Proofs.YtphamecphmbipaaGreatDoor
set_option linter.unusedVariables false
def hz (l:Nat → Int) (i:Nat):Int:=byteOf (l (i / 2)) (i % 2)
def hd (z:Nat → Int) (k:Nat):Int:=g16 z (2 * k)
def Hvs (l:Nat → Int):Prop:=∀ k,0 ≤ l k ∧ l k < 65536
theorem hz_byt (l:Nat → Int):Byt (hz l):=fun i => byteOf_bd _ _
theorem g16_hz {l:Nat → Int} (k:Nat) (hl:0 ≤ l k ∧ l k < 65536):g16 (hz l) (2 * k) = l k:=by
 unfold g16 hz
 rw [show 2 * k / 2 = k by omega,show (2 * k + 1) / 2 = k by omega,show 2 * k % 2 = 0 by omega,show (2 * k + 1) % 2 = 1 by omega]
 exact byteOf_sum2 _ hl.1 hl.2
theorem hz_put (l:Nat → Int) (k:Nat) (v:Int) (i:Nat):over (hz l) (2 * k) 2 (byteOf v) i = hz (upd l k v) i:=by
 unfold over hz upd
 by_cases h:2 * k ≤ i ∧ i < 2 * k + 2
 ·rw [if_pos h,if_pos (show i / 2 = k by omega)];congr 1;omega
 ·rw [if_neg h,if_neg (show ¬ i / 2 = k by omega)]
theorem byteOf_lo (v:Int) (i:Nat) (hi:i < 2):byteOf (v % 65536) i = byteOf v i:=by
 unfold byteOf
 have:i = 0 ∨ i = 1:=by omega
 rcases this with rfl | rfl
 ·simp <;> omega
 ·simp <;> omega
theorem byteOf_hi (v:Int) (i:Nat):byteOf (v / 65536) i = byteOf v (i + 2):=by
 rw [show i + 2 = (i + 1) + 1 by omega,byteOf_succ,byteOf_succ]
 congr 1;omega
def upd2 (l:Nat → Int) (k:Nat) (v:Int):Nat → Int:=upd (upd l k (v % 65536)) (k + 1) (v / 65536)
theorem hz_put4 (l:Nat → Int) (k:Nat) (v:Int) (i:Nat):over (hz l) (2 * k) 4 (byteOf v) i = hz (upd2 l k v) i:=by
 unfold over hz upd2 upd
 by_cases h:2 * k ≤ i ∧ i < 2 * k + 4
 ·rw [if_pos h]
  by_cases h2:i < 2 * k + 2
  ·rw [if_neg (show ¬ i / 2 = k + 1 by omega),if_pos (show i / 2 = k by omega),byteOf_lo _ _ (Nat.mod_lt _ (by omega))];congr 1;omega
  ·rw [if_pos (show i / 2 = k + 1 by omega),byteOf_hi];congr 1;omega
 ·rw [if_neg h,if_neg (show ¬ i / 2 = k + 1 by omega),if_neg (show ¬ i / 2 = k by omega)]
theorem hz_zero (i:Nat):hz (fun _ => 0) i = 0:=byteOf_0 _
theorem g32_hz {l:Nat → Int} (hl:Hvs l) (k:Nat):g32 (hz l) (2 * k) = l k + 65536 * l (k + 1):=by
 rw [g32_halves,g16_hz k (hl k),show 2 * k + 2 = 2 * (k + 1) by omega,g16_hz (k + 1) (hl _)]
theorem upd_hvs {l:Nat → Int} (hl:Hvs l) (k:Nat) {v:Int} (hv:0 ≤ v ∧ v < 65536):Hvs (upd l k v):=by
 intro j;unfold upd;split
 ·exact hv
 ·exact hl j
theorem upd2_hvs {l:Nat → Int} (hl:Hvs l) (k:Nat) {v:Int} (hv:0 ≤ v ∧ v < 4294967296):Hvs (upd2 l k v):=upd_hvs (upd_hvs hl _ (by omega)) _ (by omega)
theorem allZ_hd {z:Nat → Int} (hzb:Byt z) (k n:Nat):allZ (fun i => z (2 * k + i)) (2 * n) = allZ (fun j => hd z (k + j)) n:=by
 rw [Bool.eq_iff_iff,allZ_iff,allZ_iff]
 constructor
 ·intro h j hj
  have h0:=h (2 * j) (by omega)
  have h1:=h (2 * j + 1) (by omega)
  show g16 z (2 * (k + j)) = 0
  unfold g16
  rw [show 2 * (k + j) = 2 * k + 2 * j by omega,h0,Nat.add_assoc,h1];rfl
 ·intro h i hi
  have hj:g16 z (2 * (k + i / 2)) = 0:=h (i / 2) (by omega)
  have b0:=hzb (2 * (k + i / 2))
  have b1:=hzb (2 * (k + i / 2) + 1)
  unfold g16 at hj
  have:i = 2 * (i / 2) ∨ i = 2 * (i / 2) + 1:=by omega
  rcases this with e | e
  ·rw [show 2 * k + i = 2 * (k + i / 2) by omega];omega
  ·rw [show 2 * k + i = 2 * (k + i / 2) + 1 by omega];omega
def sealZ (z:Nat → Int):Nat → Int:=over z 252 4 (byteOf (crcZ z 252))
def sumB (z:Nat → Int):Bool:=g32 z 252 == crcZ z 252
theorem sealZ_byt {z:Nat → Int} (h:Byt z):Byt (sealZ z):=byt_over h (byt_byteOf _) _ _
theorem sealZ_low (z:Nat → Int) (i:Nat) (hi:i < 252):sealZ z i = z i:=over_out _ _ _ _ _ (.inl hi)
theorem crc_seal (z:Nat → Int):crcZ (sealZ z) 252 = crcZ z 252:=crcZ_congr fun i hi => sealZ_low z i hi
theorem sumB_seal (z:Nat → Int):sumB (sealZ z) = true:=by
 unfold sumB
 rw [crc_seal]
 unfold sealZ
 rw [g32_over _ _ _ (crcZ_bd _ _).1 (crcZ_bd _ _).2]
 simp
end Go.Proofs.YtphamecphmbipaaGreatDoor

namespace Go.Proofs.YtphamecphmbipaaGreatDoor
open Go.RowKit
def slAt (a:Option Addr) (k cap:Nat):Option Addr:=if cap = k then a else a.map (·.add k)
theorem Row.slice {w:World} {a:Option Addr} {len cap k:Nat} {z:Nat → Int} (h:Row w a len z) (hk:k ≤ len) (hc:len ≤ cap):Row w (slAt a k cap) (len - k) (fun i => z (k + i)):=by
 by_cases h0:len - k = 0
 ·exact .inl h0
 ·rcases h with h | ⟨b,off,rfl,hs⟩
  ·omega
  ·unfold slAt
   rw [if_neg (by omega)]
   refine .inr ⟨b,off + k,?_,hs.sub k _ (by omega)⟩
   simp only [Option.map_some,Addr.add]
   by_cases hk0:k = 0
   ·subst hk0;rw [if_pos rfl,Nat.add_zero]
   ·rw [if_neg hk0]
theorem run_sl_low (a:Option Addr) (len cap k:Nat) (K:Int) (hK:K = (k:Int)) (hk:k ≤ len) (w:World) :
  (Instr.slice 119 (.slice a len cap) (some (.int .i64 K)) none none).run Tryz.prog w = .ok (.slice (slAt a k cap) (len - k) (cap - k)) w:=by
 subst hK
 have hsz:(Go.sizeOf 5).run Tryz.prog w = .ok 1 w:=by kernel_rfl
 rw [run_slice_l w 119 a len cap (by kernel_rfl) .i64 (k:Int) (by omega) (by omega),show Tryz.prog.elem 119 = 5 from by kernel_rfl,hsz]
 simp only [Result.andThen,sliced,slAt,Int.toNat_natCast,Nat.mul_one]
end Go.Proofs.YtphamecphmbipaaGreatDoor

namespace Go.Proofs.YtphamecphmbipaaGreatDoor
open Go.RowKit
set_option linter.unusedVariables false
structure Ino where
 kind:Int
 links:Int
 gen:Int
 size:Int
 p:Nat → Int
 next:Int
abbrev Ino.val (x:Ino):Value:=.agg #[.int .u8 x.kind,.int .i64 x.links,.int .u32 x.gen,.int .i64 x.size,.int .u32 (x.p 0),.int .u32 (x.p 1),.int .u32 (x.p 2),.int .u32 (x.p 3),.int .u32 (x.p 4),.int .u32 (x.p 5),.int .u32 (x.p 6),.int .u32 (x.p 7),.int .u32 (x.p 8),.int .u32 (x.p 9),.int .u32 (x.p 10),.int .u32 x.next]
structure Ino.Ok (x:Ino):Prop where
 kind:0 ≤ x.kind ∧ x.kind < 256
 links:-9223372036854775808 ≤ x.links ∧ x.links ≤ 9223372036854775807
 gen:0 ≤ x.gen ∧ x.gen < 4294967296
 size:-9223372036854775808 ≤ x.size ∧ x.size ≤ 9223372036854775807
 p:∀ i,0 ≤ x.p i ∧ x.p i < 4294967296
 next:0 ≤ x.next ∧ x.next < 4294967296
def Ino.May (x:Ino):Prop :=
 (x.kind = 0 ∧ x.links = 0 ∧ x.size = 0 ∧ x.next = 0 ∧ allZ x.p 11 = true) ∨
 (x.kind = 1 ∧ 0 ≤ x.links ∧ x.links ≤ 1000 ∧ 0 ≤ x.size ∧ x.size ≤ 16777216) ∨
 (x.kind = 2 ∧ x.links = 1 ∧ 0 ≤ x.size ∧ x.size ≤ 16777216 ∧ x.size % 256 = 0 ∧ x.next = 0)
instance (x:Ino):Decidable x.May:=by unfold Ino.May;infer_instance
def inoEq (x y:Ino):Bool:=x.kind == y.kind && (x.links == y.links && (x.gen == y.gen && (x.size == y.size && (eqB x.p y.p 11 && x.next == y.next))))
theorem inoEq_iff (x y:Ino):inoEq x y = true ↔ x.kind = y.kind ∧ x.links = y.links ∧ x.gen = y.gen ∧ x.size = y.size ∧ (∀ i,i < 11 → x.p i = y.p i) ∧ x.next = y.next:=by
 unfold inoEq;simp only [Bool.and_eq_true,beq_iff_eq,eqB_iff]
theorem run_eql_ino (x y:Ino) (w:World):(binOp .eql 63 x.val y.val).run Tryz.prog w = .ok (.bool (inoEq x y)) w:=by
 obtain ⟨i,hi,_⟩:=info_parts (show (Tryz.prog.info? 45).map (fun i => (i.zero,i.size,i.bytes)) = some (some (.int .u32 0),1,4) by kernel_rfl)
 have hS:Tryz.prog.underlying 63 = some (.struct (Tryz.prog.fieldsOf 63)):=by kernel_rfl
 have hp:Tryz.prog.stoodInHeld 63 = false:=by kernel_rfl
 have ha:=fun w => run_equalIn_ints (P:=Tryz.prog) w 9997 (t:=61) (e:=45) (n:=11) (k:=.u32) Tryz.underlying61 hi Tryz.underlying45 (by kernel_rfl) x.p y.p
 have ex:∀ u:Nat → Int,(Ks .u32 11 u).toArray = #[.int .u32 (u 0),.int .u32 (u 1),.int .u32 (u 2),.int .u32 (u 3),.int .u32 (u 4),.int .u32 (u 5),.int .u32 (u 6),.int .u32 (u 7),.int .u32 (u 8),.int .u32 (u 9),.int .u32 (u 10)]:=fun u => rfl
 rw [ex,ex] at ha
 rw [run_eql_struct,show (10000:Nat) = 9999 + 1 from rfl,run_equalIn_agg w 9999 _ _ _ hS hp]
 simp only [Program.fieldsOf,Tryz.underlying63]
 clear hi hS hp ex
 go_simp
 clear ha
 unfold inoEq
 by_cases h1:x.kind = y.kind
 rotate_left
 ·simp [*]
 by_cases h2:x.links = y.links
 rotate_left
 ·simp [*]
 by_cases h3:x.gen = y.gen
 rotate_left
 ·simp [*]
 by_cases h4:x.size = y.size
 rotate_left
 ·simp [*]
 cases h5:eqB x.p y.p 11 with
 | false => simp [h1,h2,h3,h4]
 | true =>
  by_cases h6:x.next = y.next
  ·simp [h1,h2,h3,h4,h6]
  ·have h7:(x.next == y.next) = false:=by simp [h6]
   simp [h1,h2,h3,h4,h6]
def placeB (a:Int):Bool:=decide (a = 0 ∨ a = 64 ∨ a = 128 ∨ a = 192)
theorem placeB_iff (a:Int):placeB a = true ↔ a = 0 ∨ a = 64 ∨ a = 128 ∨ a = 192:=by simp [placeB]
theorem placeB_no {a:Int} (h:¬ (a = 0 ∨ a = 64 ∨ a = 128 ∨ a = 192)):placeB a = false:=by simp only [placeB,decide_eq_false_iff_not];exact h
theorem place_any (a:Int) (w:World) (h0:-9223372036854775808 ≤ a) (h1:a ≤ 9223372036854775807) :
  Calls Tryz.prog 48 #[.int .i64 a] w fun e w' => e = .returned (.bool (placeB a)) ∧ w = w':=by
 by_cases c1:0 ≤ a
 ·by_cases c2:a < 256
  ·by_cases c3:a % 64 = 0
   ·have q:(a % 64 == 0) = true:=by simp [c3]
    have hd:Hid (placeB a = true):=(placeB_iff a).2 (by omega)
    clear c3
    go_enter Tryz.func48,Tryz.ntmps48
    go_wp2
    go_ret
    exact ⟨ret_bool hd.out.symm,rfl⟩
   ·have q:(a % 64 == 0) = false:=by simp [c3]
    have hd:Hid (placeB a = false):=placeB_no (by omega)
    clear c3
    go_enter Tryz.func48,Tryz.ntmps48
    go_wp2
    go_ret
    exact ⟨ret_bool hd.out.symm,rfl⟩
  ·have hd:Hid (placeB a = false):=placeB_no (by omega)
   go_enter Tryz.func48,Tryz.ntmps48
   go_wp2
   go_ret
   exact ⟨ret_bool hd.out.symm,rfl⟩
 ·have hd:Hid (placeB a = false):=placeB_no (by omega)
  go_enter Tryz.func48,Tryz.ntmps48
  go_wp2
  go_ret
  exact ⟨ret_bool hd.out.symm,rfl⟩
theorem may_0 (l g s n:Int) (p:Nat → Int):decide (Ino.May ⟨0,l,g,s,p,n⟩) = inoEq ⟨0,l,g,s,p,n⟩ ⟨0,0,g,0,fun _ => 0,0⟩:=by
 rw [Bool.eq_iff_iff,inoEq_iff,decide_eq_true_eq]
 unfold Ino.May
 simp only [allZ_iff]
 constructor
 ·rintro (⟨_,h1,h2,h3,h4⟩ | ⟨h,_⟩ | ⟨h,_⟩)
  ·exact ⟨trivial,h1,trivial,h2,h4,h3⟩
  ·omega
  ·omega
 ·rintro ⟨_,h1,_,h2,h4,h3⟩
  exact .inl ⟨trivial,h1,h2,h3,h4⟩
theorem may_1 (l g s n:Int) (p:Nat → Int):decide (Ino.May ⟨1,l,g,s,p,n⟩) = decide (0 ≤ l ∧ l ≤ 1000 ∧ 0 ≤ s ∧ s ≤ 16777216):=by
 rw [decide_eq_decide];unfold Ino.May;simp
theorem may_2 (l g s n:Int) (p:Nat → Int):decide (Ino.May ⟨2,l,g,s,p,n⟩) = decide (l = 1 ∧ 0 ≤ s ∧ s ≤ 16777216 ∧ s % 256 = 0 ∧ n = 0):=by
 rw [decide_eq_decide];unfold Ino.May;simp
theorem may_3 (k l g s n:Int) (p:Nat → Int) (h:k ≠ 0 ∧ k ≠ 1 ∧ k ≠ 2):decide (Ino.May ⟨k,l,g,s,p,n⟩) = false:=by
 rw [decide_eq_false_iff_not];unfold Ino.May;simp only;omega
set_option maxHeartbeats 4000000 in
theorem may_any (x:Ino) (hx:x.Ok) (w:World) :
  Calls Tryz.prog 53 #[x.val] w fun e w' => e = .returned (.bool (decide x.May)) ∧ Below w.heap.size w w':=by
 obtain ⟨k,l,g,s,p,n⟩:=x
 obtain ⟨⟨hk0,hk1⟩,⟨hl0,hl1⟩,_,⟨hs0,hs1⟩,_,_⟩:=hx
 dsimp only at hk0 hk1 hl0 hl1 hs0 hs1
 dsimp only [Ino.val]
 have fin:∀ t,Hid (Below w.heap.size w (w.alloc t)):=fun t => (Below.refl _ _).alloc (Nat.le_refl _) _
 generalize hD':decide (Ino.May ⟨k,l,g,s,p,n⟩) = D
 have hD:=Lib.hid hD'
 clear hD'
 by_cases k0:k = 0
 ·subst k0
  have hq:=fun w => run_eql_ino ⟨0,l,g,s,p,n⟩ ⟨0,0,g,0,fun _ => 0,0⟩ w
  dsimp only [Ino.val] at hq
  have HD:=hD.out
  rw [may_0] at HD
  rw [HD] at hq
  clear HD
  go_enter Tryz.func53,Tryz.ntmps53
  go_wp2
  go_ret
  exact ⟨rfl,(fin _).out⟩
 have q0:(k == 0) = false:=by simp [k0]
 by_cases k2:k = 2
 ·subst k2
  by_cases c1:l = 1
  ·subst c1
   by_cases c4:0 ≤ s
   ·by_cases c2:s % 256 = 0
    ·have d2:(s % 256 != 0) = false:=by simp [c2]
     by_cases c3:n = 0
     ·subst c3
      by_cases c5:s ≤ 16777216
      ·have HD:Hid (D = true):=by show D = true;rw [← hD.out,may_2];simp;omega
       clear c2
       go_enter Tryz.func53,Tryz.ntmps53
       go_wp2
       go_ret
       exact ⟨ret_bool HD.out.symm,(fin _).out⟩
      ·have HD:Hid (D = false):=by show D = false;rw [← hD.out,may_2];simp;omega
       clear c2
       go_enter Tryz.func53,Tryz.ntmps53
       go_wp2
       go_ret
       exact ⟨ret_bool HD.out.symm,(fin _).out⟩
     ·have HD:Hid (D = false):=by show D = false;rw [← hD.out,may_2];simp;omega
      have d3:(n != 0) = true:=by simp [c3]
      clear c2 c3
      go_enter Tryz.func53,Tryz.ntmps53
      go_wp2
      go_ret
      exact ⟨ret_bool HD.out.symm,(fin _).out⟩
    ·have HD:Hid (D = false):=by show D = false;rw [← hD.out,may_2];simp;omega
     have d2:(s % 256 != 0) = true:=by simp [c2]
     clear c2
     go_enter Tryz.func53,Tryz.ntmps53
     go_wp2
     go_ret
     exact ⟨ret_bool HD.out.symm,(fin _).out⟩
   ·by_cases c2:s.tmod 256 = 0
    ·have d2:(s.tmod 256 != 0) = false:=by simp [c2]
     by_cases c3:n = 0
     ·subst c3
      have HD:Hid (D = false):=by show D = false;rw [← hD.out,may_2];simp;omega
      clear c2
      go_enter Tryz.func53,Tryz.ntmps53
      go_wp2
      go_ret
      exact ⟨ret_bool HD.out.symm,(fin _).out⟩
     ·have HD:Hid (D = false):=by show D = false;rw [← hD.out,may_2];simp;omega
      have d3:(n != 0) = true:=by simp [c3]
      clear c2 c3
      go_enter Tryz.func53,Tryz.ntmps53
      go_wp2
      go_ret
      exact ⟨ret_bool HD.out.symm,(fin _).out⟩
    ·have HD:Hid (D = false):=by show D = false;rw [← hD.out,may_2];simp;omega
     have d2:(s.tmod 256 != 0) = true:=by simp [c2]
     clear c2
     go_enter Tryz.func53,Tryz.ntmps53
     go_wp2
     go_ret
     exact ⟨ret_bool HD.out.symm,(fin _).out⟩
  ·have HD:Hid (D = false):=by show D = false;rw [← hD.out,may_2];simp;omega
   have d1:(l != 1) = true:=by simp [c1]
   clear c1
   go_enter Tryz.func53,Tryz.ntmps53
   go_wp2
   go_ret
   exact ⟨ret_bool HD.out.symm,(fin _).out⟩
 have q2:(k == 2) = false:=by simp [k2]
 by_cases k1:k = 1
 ·subst k1
  by_cases c1:0 ≤ l
  ·by_cases c2:l ≤ 1000
   ·by_cases c3:0 ≤ s
    ·by_cases c4:s ≤ 16777216
     ·have HD:Hid (D = true):=by show D = true;rw [← hD.out,may_1];simp;omega
      go_enter Tryz.func53,Tryz.ntmps53
      go_wp2
      go_ret
      exact ⟨ret_bool HD.out.symm,(fin _).out⟩
     ·have HD:Hid (D = false):=by show D = false;rw [← hD.out,may_1];simp;omega
      go_enter Tryz.func53,Tryz.ntmps53
      go_wp2
      go_ret
      exact ⟨ret_bool HD.out.symm,(fin _).out⟩
    ·have HD:Hid (D = false):=by show D = false;rw [← hD.out,may_1];simp;omega
     go_enter Tryz.func53,Tryz.ntmps53
     go_wp2
     go_ret
     exact ⟨ret_bool HD.out.symm,(fin _).out⟩
   ·have HD:Hid (D = false):=by show D = false;rw [← hD.out,may_1];simp;omega
    go_enter Tryz.func53,Tryz.ntmps53
    go_wp2
    go_ret
    exact ⟨ret_bool HD.out.symm,(fin _).out⟩
  ·have HD:Hid (D = false):=by show D = false;rw [← hD.out,may_1];simp;omega
   go_enter Tryz.func53,Tryz.ntmps53
   go_wp2
   go_ret
   exact ⟨ret_bool HD.out.symm,(fin _).out⟩
 have q1:(k == 1) = false:=by simp [k1]
 have HD:Hid (D = false):=by show D = false;rw [← hD.out];exact may_3 _ _ _ _ _ _ (by omega)
 go_enter Tryz.func53,Tryz.ntmps53
 go_wp2
 go_ret
 exact ⟨ret_bool HD.out.symm,(fin _).out⟩
end Go.Proofs.YtphamecphmbipaaGreatDoor

namespace Go.Proofs.YtphamecphmbipaaGreatDoor
open Go.RowKit Go.Shelf
set_option linter.unusedVariables false
attribute [local go_sem] Oper.semAt_some
theorem cell_boxed (w:World) (v:Value) (t:TypeId):(w.alloc (.cells #[v] t)).cell? ⟨w.heap.size,0,none⟩ = some v:=by
 simp only [World.cell?,heap_alloc_new];rfl
theorem clone_any (a:Option Addr) (len cap:Nat) (z:Nat → Int) (w:World) (hr:Row w a len z) (hc:a = none → cap = 0 ∧ len = 0) (hl:len ≤ 140737488355328) (base:Nat) (hb:base ≤ w.heap.size) :
  Calls Tryz.prog 93 #[.slice a len cap] w fun e w' => ∃ sa cap',e = .returned (.slice sa len cap') ∧ Mine w' base 5 sa len cap' z ∧ Below w.heap.size w w':=by
 have hq:=fun w => run_eql_slice_nil (P:=Tryz.prog) w 119 5 a len cap Tryz.underlying119
 have hcz:Hid (cat (fun _ => 0) 0 z = z):=by show _ = _;funext i;simp [cat]
 cases a with
 | none =>
  obtain ⟨rfl,rfl⟩:=hc rfl
  go_enter Tryz.func93,Tryz.ntmps93
  go_wp2_with fail
  go_ret
  exact ⟨none,0,rfl,Mine.nil _ _ _ _,Below.refl _ _⟩
 | some x =>
  go_enter Tryz.func93,Tryz.ntmps93
  go_wp2_with (at_builtin;refine wp_appendB rfl (.tmp 5) (.tmp 6) rfl base _ 0 0 (fun _ => 0) rfl (Mine.made w base _ _ hb) (some x) len cap z rfl (fun h => by cases h) (hr.alloc _) (by omega) (by simp;omega) ?_)
  intro sa cap' w1 hm hg _
  rw [hcz.out] at hm
  go_wp2_with fail
  go_ret
  exact ⟨sa,cap',rfl,hm,((Below.refl _ _).alloc (Nat.le_refl _) _).grown hg (by simp) (fun k hk => by cases hk;exact Nat.le_refl _)⟩
def TellNeed (B:Nat) (sa:Option Addr) (len cap:Nat) (z:Nat → Int):Nat → World → Prop:=fun _ W => W.cell? ⟨B,0,none⟩ = some (.slice sa len cap) ∧ Row W sa len z
def tellEnc (z:Nat → Int) (k:Nat):Array Value:=#[.int .i64 (4 * (k:Int)),.int .u32 (g32 z (4 * k))]
theorem yield_not_nil (l:Nat) (W:World):(binOp .eql 171 (.func (.yield l) #[] #[]) .nilFunc).run Tryz.prog W = .ok (.bool false) W:=by kernel_rfl
set_option maxRecDepth 100000 in
set_option maxHeartbeats 2000000 in
theorem tell_iter (n:Nat) (hn:1 ≤ n) (B:Nat) (sa:Option Addr) (len cap:Nat) (z:Nat → Int) (hz:Byt z) (hl:(len:Int) ≤ 140737488355328) :
  IterIx Fence.wide n Tryz.prog 94 #[.pointer (some ⟨B,0,none⟩)] (tellEnc z) (len / 4) (fun _ => False) (TellNeed B sa len cap z):=by
 intro l J Jx W _ _ hY h0 hN
 have HY:=Lib.hid hY
 clear hY
 have hnil:=fun W => yield_not_nil l W
 refine callsIn_of_wp Tryz.func94 rfl trivial ?_ rfl
 simp only [Tryz.ntmps94,List.size_toArray,List.length_cons,List.length_nil,Nat.reduceAdd,Nat.reduceSub,Array.replicate_succ,Array.replicate_zero,List.push_toArray,List.append_toArray,List.nil_append,List.cons_append]
 gi_wp2
 gi_loopw [3] (fun i wr => ∃ k:Nat,k ≤ len / 4 ∧ i = .int .i64 (4 * (k:Int)) ∧ J k wr ∧ TellNeed B sa len cap z k wr) (fun i _ => len + 4 - (intOf i).toNat)
 case atStart => exact ⟨0,Nat.zero_le _,rfl,h0,hN⟩
 case round =>
  obtain ⟨k,hk,rfl,hJ,hnd⟩:=hrel
  have hcB:=hnd.1
  have hrow:=hnd.2
  have HND:=Lib.hid hnd
  clear hnd
  by_cases hlt:k < len / 4
  ·have f4:Hid (fits 4 len (4 * (k:Int)) = true):=fits_yes ⟨by omega,by omega⟩
   have e4:Hid ((4 * (k:Int)).toNat = 4 * k):=by show _ = _;omega
   obtain ⟨fn,tmps,assign,body,hy,hR⟩:=HY.out k wr hlt hJ HND.out
   dsimp only [tellEnc] at hy
   have HHY:=Lib.hid hy
   clear hy
   gi_wp2_with (refine ⟨trivial,?_⟩;gi_at_call 51;refine (callsIn_wide.2 (get32_any _ _ _ _ z _ (by omega) (by exact hrow) hz)).mono ?_;rintro e w' ⟨rfl,rfl⟩;rw [o32,f4.out,if_pos rfl,e4.out];have hy:=HHY.out)
   refine hR.mono ?_
   rintro e W3 (⟨rfl,hJ3,hN3⟩ | ⟨rfl,hJx3⟩)
   ·gi_wp2
    go_roundw
    case rel => exact ⟨k + 1,by omega,int_eq (by omega),hJ3,hN3⟩
    case measure => simp [intOf];omega
   ·gi_wp2
    refine bodyPost_ret (results_none rfl _ _ _) rfl ?_
    exact ⟨⟨_,rfl⟩,.inr ⟨k,hlt,hJx3⟩⟩
  ·have HK:Hid (k = len / 4):=by show _ = _;omega
   have f4:Hid (fits 4 len (4 * (k:Int)) = false):=fits_no (by omega)
   gi_wp2_with (refine ⟨trivial,?_⟩;gi_at_call 51;refine (callsIn_wide.2 (get32_any _ _ _ _ z _ (by omega) (by exact hrow) hz)).mono ?_;rintro e w' ⟨rfl,rfl⟩;rw [o32,f4.out,if_neg (by decide)])
   refine ⟨fun _ h => (by cases h),?_⟩
   gi_wp2
   refine bodyPost_ret (results_none rfl _ _ _) rfl ?_
   exact ⟨⟨_,rfl⟩,.inl (by rw [← HK.out];exact hJ)⟩
theorem tell_any (a:Option Addr) (len cap:Nat) (z:Nat → Int) (w:World) (hr:Row w a len z) (hc:a = none → cap = 0 ∧ len = 0) (hl:len ≤ 140737488355328) :
  Calls Tryz.prog 52 #[.slice a len cap] w fun e w' => ∃ B sa cap',e = .returned (.func (.func 94) #[] #[.pointer (some ⟨B,0,none⟩)]) ∧ TellNeed B sa len cap' z 0 w' ∧ Below w.heap.size w w'
   ∧ w.heap.size ≤ B ∧ B < w'.heap.size ∧ (∀ x,sa = some x → w.heap.size ≤ x.block ∧ x.block < w'.heap.size):=by
 go_enter Tryz.func52,Tryz.ntmps52
 go_wp2_with fail
 refine (clone_any a len cap z w hr hc hl w.heap.size (Nat.le_refl _)).mono ?_
 rintro e w1 ⟨sa,cap',rfl,hm,hb⟩
 have hsz:=hb.size
 go_wp2_with fail
 go_ret
 exact ⟨w1.heap.size,sa,cap',rfl,⟨cell_boxed _ _ _,hm.row.alloc _⟩,hb.alloc hsz _,hsz,by simp,fun x hx => by have:=hm.le x hx;simp;omega⟩
end Go.Proofs.YtphamecphmbipaaGreatDoor

namespace Go.Proofs.YtphamecphmbipaaGreatDoor
open Go.RowKit
theorem made_Bs (n:Nat):(madeCells (Value.int .u8 0).cells (n * 1)).toList = Bs n (fun _ => 0):=by
 rw [show (Value.int .u8 0).cells = #[.int .u8 0] from rfl,Nat.mul_one,toList_madeCells_one]
 apply List.ext_getElem?
 intro i
 by_cases h:i < n
 ·rw [Bs_get _ _ _ h];simp [h]
 ·rw [List.getElem?_eq_none (by simp;omega),List.getElem?_eq_none (by rw [Bs_length];omega)]
theorem wp_makeB {w:World} {ops:Array Oper} {rest:List Oper} {o:Oper} {a:Act} {Q:Exit → Act → World → Prop} (hgd:o.guard = none) (l c:Operand)
  (ho:o.op = Op.makeSlice 119 l c) (base:Nat) (L:Int) (n:Nat) (hl:a.eval l = .int .i64 L) (hc:a.eval c = .int .i64 L) (hL:L = (n:Int)) (hn:n ≤ 140737488355328) (hbase:base ≤ w.heap.size)
  (h:∀ w',Mine w' base 5 (some ⟨w.heap.size,0,none⟩) n n (fun _ => 0) → w.grownBy w' none → wpList Tryz.prog ops Q rest (a.put o.dst (.slice (some ⟨w.heap.size,0,none⟩) n n)) w') :
  wpList Tryz.prog ops Q (o :: rest) a w:=by
 obtain ⟨i0,hi,hz0,hz1,hz2⟩:=info_parts info8
 refine wpList_make_full w hgd l c _ ho base _ i0 (.int .u8 0) 1 Tryz.underlying119 hi hz0 hz1 _ _ L L n hl hc hL hL (by rw [hz2];omega) (by unfold maxLen;omega) hbase ?_
 intro w' h1 h2
 rw [made_Bs] at h1
 exact h w' h1 h2
end Go.Proofs.YtphamecphmbipaaGreatDoor
