/- Texts of this claim, merged. -/
import Derived.Test.YtphamecphmbipaaGreatDoorK02
set_option maxRecDepth 100000
set_option maxHeartbeats 16000000

namespace Go.Proofs.YtphamecphmbipaaGreatDoor
set_option linter.unusedVariables false
def shN (v:Nat):Nat:=if v % 2 = 1 then (v / 2) ^^^ 3988292384 else v / 2
def tabN:List Nat:=[0,498536548,997073096,651767980,1994146192,1802195444,1303535960,1342533948,3988292384,4027552580,3604390888,3412177804,2607071920,2262029012,2685067896,3183342108]
def nibN (v:Nat):Nat:=(v / 16) ^^^ tabN.getD (v % 16) 0
def sh4 (v:Nat):Nat:=shN (shN (shN (shN v)))
def sh8 (v:Nat):Nat:=sh4 (sh4 v)
def stepN (v x:Nat):Nat:=sh8 (v ^^^ x)
def foldN (v:Nat) (z:Nat → Int):Nat → Nat
 | 0 => v
 | n + 1 => stepN (foldN v z n) (z n).toNat
def crcZ (z:Nat → Int) (n:Nat):Int:=((4294967295 - foldN 4294967295 z n:Nat):Int)
def foldP (v:Nat) (pl:Nat → Nat) (pz:Nat → Nat → Int):Nat → Nat
 | 0 => v
 | k + 1 => foldN (foldP v pl pz k) (pz k) (pl k)
theorem xor_half (a b:Nat):(a ^^^ b) / 2 = (a / 2) ^^^ (b / 2):=Nat.xor_div_two
theorem xor_odd (a b:Nat):(a ^^^ b) % 2 = (a % 2 + b % 2) % 2:=by
 have h:=@Nat.xor_mod_two_eq_one a b
 have:a % 2 < 2:=Nat.mod_lt _ (by omega)
 have:b % 2 < 2:=Nat.mod_lt _ (by omega)
 have:(a ^^^ b) % 2 < 2:=Nat.mod_lt _ (by omega)
 by_cases ha:a % 2 = 1 <;> by_cases hb:b % 2 = 1
 ·have:¬ (a ^^^ b) % 2 = 1:=fun k => (h.1 k) (by simp [ha,hb])
  omega
 ·have:(a ^^^ b) % 2 = 1:=h.2 (by simp [ha,hb])
  omega
 ·have:(a ^^^ b) % 2 = 1:=h.2 (by simp [ha,hb])
  omega
 ·have:¬ (a ^^^ b) % 2 = 1:=fun k => (h.1 k) (by simp [ha,hb])
  omega
theorem shN_xor (a b:Nat):shN (a ^^^ b) = shN a ^^^ shN b:=by
 unfold shN
 rw [xor_odd,xor_half]
 have:a % 2 < 2:=Nat.mod_lt _ (by omega)
 have:b % 2 < 2:=Nat.mod_lt _ (by omega)
 by_cases ha:a % 2 = 1 <;> by_cases hb:b % 2 = 1
 ·rw [if_neg (by omega),if_pos ha,if_pos hb,Nat.xor_assoc,Nat.xor_comm (b / 2),← Nat.xor_assoc 3988292384,Nat.xor_self,Nat.zero_xor]
 ·rw [if_pos (by omega),if_pos ha,if_neg hb,Nat.xor_assoc,Nat.xor_comm (b / 2),← Nat.xor_assoc]
 ·rw [if_pos (by omega),if_neg ha,if_pos hb,Nat.xor_assoc]
 ·rw [if_neg (by omega),if_neg ha,if_neg hb]
theorem sh4_xor (a b:Nat):sh4 (a ^^^ b) = sh4 a ^^^ sh4 b:=by unfold sh4;rw [shN_xor,shN_xor,shN_xor,shN_xor]
theorem split16 (q r:Nat) (hr:r < 16):16 * q + r = (16 * q) ^^^ r:=by
 refine Nat.eq_of_testBit_eq fun j => ?_
 have h1:=Nat.testBit_two_pow_mul_add q (b:=r) (i:=4) hr j
 have h2:=Nat.testBit_two_pow_mul_add q (b:=0) (i:=4) (by omega) j
 rw [show (2:Nat) ^ 4 = 16 from rfl] at h1 h2
 rw [Nat.add_zero] at h2
 rw [Nat.testBit_xor,h1,h2]
 by_cases hj:j < 4
 ·rw [if_pos hj,if_pos hj,Nat.zero_testBit,Bool.false_xor]
 ·rw [if_neg hj,if_neg hj,Nat.testBit_lt_two_pow (x:=r) (i:=j) (Nat.lt_of_lt_of_le hr (by rw [show (16:Nat) = 2 ^ 4 from rfl];exact Nat.pow_le_pow_right (by omega) (by omega))),Bool.xor_false]
theorem shN_even (q:Nat):shN (2 * q) = q:=by unfold shN;rw [if_neg (by omega)];omega
theorem sh4_16 (q:Nat):sh4 (16 * q) = q:=by
 unfold sh4
 rw [show 16 * q = 2 * (2 * (2 * (2 * q))) by omega,shN_even,shN_even,shN_even,shN_even]
theorem sh4_tab:∀ r,r < 16 → sh4 r = tabN.getD r 0:=by decide
theorem nib_sh4 (v:Nat):nibN v = sh4 v:=by
 have h:=split16 (v / 16) (v % 16) (Nat.mod_lt _ (by omega))
 rw [Nat.div_add_mod] at h
 rw [h,sh4_xor,sh4_16,sh4_tab _ (Nat.mod_lt _ (by omega)),← h]
 rfl
theorem xor_lt {a b:Nat} (n:Nat) (ha:a < 2 ^ n) (hb:b < 2 ^ n):a ^^^ b < 2 ^ n:=Nat.xor_lt_two_pow ha hb
theorem shN_lt {v:Nat} (h:v < 4294967296):shN v < 4294967296:=by
 unfold shN
 split
 ·exact xor_lt 32 (a:=v / 2) (b:=3988292384) (by omega) (by decide)
 ·omega
theorem sh4_lt {v:Nat} (h:v < 4294967296):sh4 v < 4294967296:=shN_lt (shN_lt (shN_lt (shN_lt h)))
theorem sh8_lt {v:Nat} (h:v < 4294967296):sh8 v < 4294967296:=sh4_lt (sh4_lt h)
theorem stepN_lt {v x:Nat} (h:v < 4294967296) (hx:x < 256):stepN v x < 4294967296:=sh8_lt (xor_lt 32 h (by omega))
theorem foldN_lt {v:Nat} {z:Nat → Int} (hv:v < 4294967296) (hz:Byt z) (n:Nat):foldN v z n < 4294967296:=by
 induction n with
 | zero => exact hv
 | succ n ih => exact stepN_lt ih (by have:=hz n;omega)
theorem foldP_lt {v:Nat} {pl:Nat → Nat} {pz:Nat → Nat → Int} (hv:v < 4294967296) (hz:∀ k,Byt (pz k)) (m:Nat):foldP v pl pz m < 4294967296:=by
 induction m with
 | zero => exact hv
 | succ m ih => exact foldN_lt ih (hz m) _
theorem foldN_congr {v:Nat} {z y:Nat → Int} {n:Nat} (h:∀ i,i < n → z i = y i):foldN v z n = foldN v y n:=by
 induction n with
 | zero => rfl
 | succ n ih => show stepN _ _ = stepN _ _;rw [ih fun i hi => h i (by omega),h n (by omega)]
theorem crcZ_bd (z:Nat → Int) (n:Nat):0 ≤ crcZ z n ∧ crcZ z n < 4294967296:=by unfold crcZ;omega
theorem crcZ_congr {z y:Nat → Int} {n:Nat} (h:∀ i,i < n → z i = y i):crcZ z n = crcZ y n:=by unfold crcZ;rw [foldN_congr h]
end Go.Proofs.YtphamecphmbipaaGreatDoor

namespace Go.Proofs.YtphamecphmbipaaGreatDoor
open Go.RowKit
set_option linter.unusedVariables false
def fits (n len:Nat) (at':Int):Bool:=decide (0 ≤ at' ∧ at' + n ≤ len)
def o32 (z:Nat → Int) (len:Nat) (at':Int):Int:=if fits 4 len at' then g32 z at'.toNat else 0
theorem fits_yes {n len:Nat} {at':Int} (h:0 ≤ at' ∧ at' + n ≤ len):fits n len at' = true:=by simp [fits,h]
theorem fits_no {n len:Nat} {at':Int} (h:¬ (0 ≤ at' ∧ at' + n ≤ len)):fits n len at' = false:=by simp [fits];omega
theorem Row.at {w:World} {a:Option Addr} {n:Nat} {z:Nat → Int} (h:Row w a n z) (h0:0 < n):∃ b off,a = some ⟨b,off,none⟩ ∧ Seg w b off n z:=by
 rcases h with h | h
 ·omega
 ·exact h
theorem Row.below {w w':World} {a:Option Addr} {n:Nat} {z:Nat → Int} (h:Row w a n z) {B:Nat} (hb:Below B w w') (hB:w.heap.size ≤ B):Row w' a n z:=by
 rcases h with h | ⟨b,off,rfl,hs⟩
 ·exact .inl h
 ·refine .inr ⟨b,off,rfl,fun i hi => ?_⟩
  have:=World.block_lt_of_cell? w _ (hs i hi)
  rw [hb.cell (p:=⟨b,off + i,none⟩) (by simp at this ⊢;omega)];exact hs i hi
theorem Row.drewN {w:World} {a:Option Addr} {n:Nat} {z:Nat → Int} (h:Row w a n z) (m:Nat):Row (w.drewN m) a n z:=h
theorem get32_any (a:Option Addr) (len cap:Nat) (at':Int) (z:Nat → Int) (w:World) (hl:(len:Int) ≤ 9223372036854775807) (hs:Row w a len z) (hz:Byt z) :
  Calls Tryz.prog 51 #[.slice a len cap,.int .i64 at'] w fun e w' => e = .returned (.tuple #[.int .u32 (o32 z len at'),.bool (fits 4 len at')]) ∧ w = w':=by
 by_cases h:0 ≤ at' ∧ at' + 4 ≤ len
 ·obtain ⟨b,off,rfl,hs2⟩:=hs.at (by omega);clear hs;have hs:=hs2;clear hs2
  rw [o32,fits_yes h,if_pos rfl]
  exact get32_yes b off len cap at' z w hl h.1 h.2 hs hz
 ·rw [o32,fits_no h]
  exact get32_no a len cap at' w hl h
def Tab (w:World):Prop:=∀ i,i < 16 → w.cell? ⟨0,i,none⟩ = some (.int .u32 ((tabN.getD i 0:Nat):Int))
theorem Tab.lt {w:World} (h:Tab w):0 < w.heap.size:=World.block_lt_of_cell? w _ (h 0 (by omega))
theorem Tab.below {w w':World} (h:Tab w) {B:Nat} (hb:Below B w w') (hB:w.heap.size ≤ B):Tab w':=fun i hi => (hb.cell (p:=⟨0,i,none⟩) (by have:=h.lt;show 0 < B;omega)).trans (h i hi)
theorem Tab.alloc {w:World} (h:Tab w) (o:Obj):Tab (w.alloc o):=h.below ((Below.refl _ _).alloc (Nat.le_refl _) o) (Nat.le_refl _)
theorem Tab.only {w w':World} (h:Tab w) {b:Nat} (hb:Only b w w') (hg:b ≠ 0):Tab w':=fun i hi => (hb.cell (p:=⟨0,i,none⟩) (fun e => hg e.symm)).trans (h i hi)
theorem xor_max {v:Nat} (hv:v < 4294967296):bits .xor .u32 4294967295 (v:Int) = ((4294967295 - v:Nat):Int):=by
 have h:=u32_xor_nat 4294967295 v (by omega) hv
 rw [show ((4294967295:Nat):Int) = 4294967295 from rfl] at h
 rw [h]
 congr 1
 refine Nat.eq_of_testBit_eq fun j => ?_
 have h1:=Nat.testBit_two_pow_sub_succ (x:=v) (n:=32) hv j
 have h2:=Nat.testBit_two_pow_sub_succ (x:=0) (n:=32) (by omega) j
 rw [show (2:Nat) ^ 32 - (v + 1) = 4294967295 - v by omega] at h1
 rw [show (2:Nat) ^ 32 - (0 + 1) = 4294967295 by omega] at h2
 rw [Nat.testBit_xor,h1,h2,Nat.zero_testBit]
 by_cases hj:j < 32
 ·simp [hj]
 ·rw [Nat.testBit_lt_two_pow (x:=v) (i:=j) (Nat.lt_of_lt_of_le hv (by rw [show (4294967296:Nat) = 2 ^ 32 from rfl];exact Nat.pow_le_pow_right (by omega) (by omega)))]
  simp [hj]
theorem nib_facts (v:Nat) (hv:v < 4294967296) {w:World} (hT:Tab w):∃ q r t u:Nat,r < 16 ∧ u < 4294967296 ∧ bits .and .u32 (v:Int) 15 = (r:Int) ∧ (v:Int) / 16 = (q:Int) ∧ bits .xor .u32 (q:Int) (t:Int) = (u:Int) ∧
  w.cell? ⟨0,r,none⟩ = some (.int .u32 (t:Int)) ∧ Hid (nibN v = u):=by
 have ht:tabN.getD (v % 16) 0 < 4294967296:=by
  have:∀ r,r < 16 → tabN.getD r 0 < 4294967296:=by decide
  exact this _ (Nat.mod_lt _ (by omega))
 refine ⟨v / 16,v % 16,tabN.getD (v % 16) 0,nibN v,Nat.mod_lt _ (by omega),xor_lt 32 (by omega) ht,?_,by omega,?_,hT _ (Nat.mod_lt _ (by omega)),rfl⟩
 ·have:=u32_and_nat v 15 (by omega) (by omega)
  rw [show ((15:Nat):Int) = 15 from rfl] at this
  rw [this,show (15:Nat) = 2 ^ 4 - 1 from rfl,Nat.and_two_pow_sub_one_eq_mod]
 ·exact u32_xor_nat _ _ (by omega) ht
structure Pieces (w:World) (a:Option Addr) (m:Nat) (pl:Nat → Nat) (pz:Nat → Nat → Int):Prop where
 at':∀ k,k < m → ∃ b off,a = some ⟨b,off,none⟩ ∧ ∃ s cap,w.cell? ⟨b,off + k,none⟩ = some (.slice s (pl k) cap) ∧ Row w s (pl k) (pz k) ∧ (pl k:Int) ≤ 9223372036854775807
theorem crcSum_any (a:Option Addr) (m cap:Nat) (pl:Nat → Nat) (pz:Nat → Nat → Int) (w:World) (hl:(m:Int) ≤ 9223372036854775807) (hp:Pieces w a m pl pz) (hz:∀ k,Byt (pz k)) (hT:Tab w) :
  Calls Tryz.prog 136 #[.slice a m cap] w fun e w' => e = .returned (.int .u32 ((4294967295 - foldP 4294967295 pl pz m:Nat):Int)) ∧ w = w':=by
 have HT:=Lib.hid hT
 have HP:=Lib.hid hp
 clear hT hp
 go_enter Tryz.func136,Tryz.ntmps136
 go_wp2
 go_loop [3,10] (fun v k => ∃ j:Nat,j ≤ m ∧ k = .int .i64 j ∧ v = .int .u32 ((foldP 4294967295 pl pz j:Nat):Int)) (fun _ k => m - (intOf k).toNat)
 case atStart => exact ⟨0,by omega,rfl,rfl⟩
 case round =>
  obtain ⟨j,hj,rfl,rfl⟩:=hrel
  by_cases hlt:j < m
  ·obtain ⟨b,off,rfl,s,cap',hc,hr,hlen⟩:=HP.out.at' j hlt
   have HR:=Lib.hid hr
   have HV:Hid (foldP 4294967295 pl pz j < 4294967296):=foldP_lt (by omega) hz j
   have HS:Hid (foldN (foldP 4294967295 pl pz j) (pz j) 0 = foldP 4294967295 pl pz j ∧ foldP 4294967295 pl pz (j + 1) = foldN (foldP 4294967295 pl pz j) (pz j) (pl j)):=⟨rfl,rfl⟩
   have hzj:=hz j
   generalize foldP 4294967295 pl pz j = V at *
   clear hr
   go_wp2
   go_loop [3,16] (fun v k => ∃ i:Nat,i ≤ pl j ∧ k = .int .i64 i ∧ v = .int .u32 ((foldN V (pz j) i:Nat):Int)) (fun _ k => pl j - (intOf k).toNat)
   case atStart => exact ⟨0,by omega,rfl,rfl⟩
   case round =>
    obtain ⟨i,hi,rfl,rfl⟩:=hrel
    by_cases hlt2:i < pl j
    ·rcases HR.out with h0 | ⟨b',off',rfl,hseg⟩
     ·omega
     have hc':=hseg i hlt2
     have hb:=hzj i
     have HF:Hid (foldN V (pz j) i < 4294967296):=foldN_lt HV.out hzj i
     have HE:Hid (foldN V (pz j) (i + 1) = nibN (nibN (foldN V (pz j) i ^^^ (pz j i).toNat))):=by
      show stepN _ _ = _
      rw [nib_sh4,nib_sh4];rfl
     generalize foldN V (pz j) i = v at *
     obtain ⟨v1,ev1⟩:∃ v1,v ^^^ (pz j i).toNat = v1:=⟨_,rfl⟩
     have hv1:v1 < 4294967296:=by rw [← ev1];exact xor_lt 32 HF.out (by omega)
     have e1:bits .xor .u32 (v:Int) (pz j i) = (v1:Int):=by rw [u32_xor _ _ (by omega) (by have:=HF.out;omega) hb.1 (by omega),Int.toNat_natCast,ev1]
     obtain ⟨q1,r1,t1,v2,hr1,hv2,e2,e3,e4,hct1,HN1⟩:=nib_facts v1 hv1 HT.out
     obtain ⟨q2,r2,t2,v3,hr2,hv3,e5,e6,e7,hct2,HN2⟩:=nib_facts v2 hv2 HT.out
     have HE2:Hid (foldN V (pz j) (i + 1) = v3):=by show _ = _;rw [HE.out,ev1,HN1.out,HN2.out]
     clear HE HN1 HN2 ev1
     go_wp2
     go_round
     case rel => exact ⟨i + 1,by omega,by go_num,by rw [HE2.out]⟩
     case measure => simp [intOf];omega
    ·obtain rfl:i = pl j:=by omega
     go_wp2
     go_round
     case rel => exact ⟨j + 1,by omega,by go_num,by rw [HS.out.2]⟩
     case measure => simp [intOf];omega
  ·obtain rfl:j = m:=by omega
   have HN:Hid (bits .xor .u32 4294967295 ((foldP 4294967295 pl pz j:Nat):Int) = ((4294967295 - foldP 4294967295 pl pz j:Nat):Int)):=xor_max (foldP_lt (by omega) hz j)
   go_wp2
   go_ret
   exact ⟨by rw [show IntKind.u32.max = 4294967295 from by decide,HN.out];rfl,rfl⟩
def iter (f:Nat → Nat):Nat → Nat → Nat
 | 0,v => v
 | k + 1,v => f (iter f k v)
theorem rshift_any (v:Nat) (hv:v < 4294967296) (w:World):Calls Tryz.prog 111 #[.int .u32 (v:Int)] w fun e w' => e = .returned (.int .u32 ((shN v:Nat):Int)) ∧ w = w':=by
 go_enter Tryz.func111,Tryz.ntmps111
 have e2:(v:Int).tdiv 2 = (v:Int) / 2:=Int.tdiv_eq_ediv_of_nonneg (by omega)
 have e3:(v:Int).tmod 2 = (v:Int) % 2:=Int.tmod_eq_emod_of_nonneg (by omega)
 by_cases h:v % 2 = 1
 ·have HS:Hid (shN v = (v / 2) ^^^ 3988292384):=by show _ = _;unfold shN;rw [if_pos h]
  have e1:((v:Int) % 2 == 1) = true:=by simp;omega
  have e4:(v:Int) / 2 = ((v / 2:Nat):Int):=by omega
  have e5:bits .xor .u32 ((v / 2:Nat):Int) 3988292384 = (((v / 2) ^^^ 3988292384:Nat):Int):=u32_xor_nat (v / 2) 3988292384 (by omega) (by omega)
  generalize (v / 2) ^^^ 3988292384 = u at *
  generalize v / 2 = q at *
  go_wp2
  go_ret
  exact ⟨by rw [HS.out];rfl,rfl⟩
 ·have HS:Hid (shN v = v / 2):=by show _ = _;unfold shN;rw [if_neg h]
  have e1:((v:Int) % 2 == 1) = false:=by simp;omega
  have e4:(v:Int) / 2 = ((v / 2:Nat):Int):=by omega
  generalize v / 2 = q at *
  go_wp2
  go_ret
  exact ⟨by rw [HS.out];rfl,rfl⟩
theorem rSum_any (a:Option Addr) (m cap:Nat) (z:Nat → Int) (w:World) (hl:(m:Int) ≤ 9223372036854775807) (hr:Row w a m z) (hz:Byt z) :
  Calls Tryz.prog 72 #[.slice a m cap] w fun e w' => e = .returned (.int .u32 (crcZ z m)) ∧ w = w':=by
 have HR:=Lib.hid hr
 clear hr
 go_enter Tryz.func72,Tryz.ntmps72
 go_wp2
 go_loop [3,4] (fun v k => ∃ j:Nat,j ≤ m ∧ k = .int .i64 j ∧ v = .int .u32 ((foldN 4294967295 z j:Nat):Int)) (fun _ k => m - (intOf k).toNat)
 case atStart => exact ⟨0,by omega,rfl,rfl⟩
 case round =>
  obtain ⟨j,hj,rfl,rfl⟩:=hrel
  by_cases hlt:j < m
  ·rcases HR.out with h0 | ⟨b',off',rfl,hseg⟩
   ·omega
   have hc':=hseg j hlt
   have hb:=hz j
   have HF:Hid (foldN 4294967295 z j < 4294967296):=foldN_lt (by omega) hz j
   have HE:Hid (foldN 4294967295 z (j + 1) = sh8 (foldN 4294967295 z j ^^^ (z j).toNat)):=rfl
   generalize foldN 4294967295 z j = v at *
   obtain ⟨v1,ev1⟩:∃ v1,v ^^^ (z j).toNat = v1:=⟨_,rfl⟩
   have hv1:v1 < 4294967296:=by rw [← ev1];exact xor_lt 32 HF.out (by omega)
   have e1:bits .xor .u32 (v:Int) (z j) = (v1:Int):=by rw [u32_xor _ _ (by omega) (by have:=HF.out;omega) hb.1 (by omega),Int.toNat_natCast,ev1]
   have HE2:Hid (foldN 4294967295 z (j + 1) = iter shN 8 v1):=by show _ = _;rw [HE.out,ev1];rfl
   clear HE ev1
   go_wp2
   go_loop [3,5] (fun v k => ∃ i:Nat,i ≤ 8 ∧ k = .int .i64 i ∧ v = .int .u32 ((iter shN i v1:Nat):Int)) (fun _ k => 8 - (intOf k).toNat)
   case atStart => exact ⟨0,by omega,rfl,rfl⟩
   case round =>
    obtain ⟨i,hi,rfl,rfl⟩:=hrel
    by_cases hlt2:i < 8
    ·have HI:Hid (iter shN i v1 < 4294967296):=by
      show _ < _
      clear hlt2 hi HE2
      induction i with
      | zero => exact hv1
      | succ i ih => exact shN_lt ih
     have HS:Hid (shN (iter shN i v1) = iter shN (i + 1) v1):=rfl
     generalize iter shN i v1 = u at *
     have l1:(i:Int) < 8:=by omega
     go_wp2_with fail
     refine (rshift_any u HI.out _).mono ?_
     rintro e wx ⟨rfl,rfl⟩
     go_wp2
     go_round
     case rel => exact ⟨i + 1,by omega,by go_num,by rw [HS.out]⟩
     case measure => simp [intOf];omega
    ·obtain rfl:i = 8:=by omega
     go_wp2
     go_round
     case rel => exact ⟨j + 1,by omega,by go_num,by rw [HE2.out]⟩
     case measure => simp [intOf];omega
  ·obtain rfl:j = m:=by omega
   have HX:Hid (foldN 4294967295 z j < 4294967296):=foldN_lt (by omega) hz j
   have HC:Hid (crcZ z j = ((4294967295 - foldN 4294967295 z j:Nat):Int)):=rfl
   generalize foldN 4294967295 z j = v at *
   have e9:(4294967295:Int) - (v:Int) = ((4294967295 - v:Nat):Int):=by have:=HX.out;omega
   go_wp2
   go_ret
   exact ⟨by rw [HC.out];rfl,rfl⟩
end Go.Proofs.YtphamecphmbipaaGreatDoor

namespace Go.Proofs.YtphamecphmbipaaGreatDoor
open Go.RowKit
end Go.Proofs.YtphamecphmbipaaGreatDoor

namespace Go.Proofs.YtphamecphmbipaaGreatDoor
open Go.RowKit
set_option linter.unusedVariables false
def wz (l:Nat → Int) (i:Nat):Int:=byteOf (l (i / 4)) (i % 4)
def Wds (l:Nat → Int):Prop:=∀ k,0 ≤ l k ∧ l k < 4294967296
theorem wz_byt (l:Nat → Int):Byt (wz l):=fun i => byteOf_bd _ _
theorem byteOf_0 (j:Nat):byteOf 0 j = 0:=by unfold byteOf;simp
def upd (l:Nat → Int) (k:Nat) (v:Int):Nat → Int:=fun j => if j = k then v else l j
theorem wz_put (l:Nat → Int) (k:Nat) (v:Int) (i:Nat):over (wz l) (4 * k) 4 (byteOf v) i = wz (upd l k v) i:=by
 unfold wz upd
 by_cases h:4 * k ≤ i ∧ i < 4 * k + 4
 ·rw [over_in _ _ _ _ _ h,if_pos (by omega)];congr 1;omega
 ·rw [over_out _ _ _ _ _ (by omega),if_neg (by omega)]
theorem wz_congr {l m:Nat → Int} (n:Nat) (h:∀ k,k < n → l k = m k) (i:Nat) (hi:i < 4 * n):wz l i = wz m i:=by
 unfold wz;rw [h _ (by omega)]
def jw (kind seq first:Int) (r:Nat → Int) (k:Nat):Int:=if k = 0 then 1280199249 else if k = 1 then kind else if k = 2 then seq else if k = 3 then first else r (k - 4)
theorem jw_wds {kind seq first:Int} {r:Nat → Int} (h1:0 ≤ kind ∧ kind < 4294967296) (h2:0 ≤ seq ∧ seq < 4294967296) (h3:0 ≤ first ∧ first < 4294967296) (hr:Wds r):Wds (jw kind seq first r):=by
 intro k;unfold jw
 split
 ·omega
 ·split
  ·exact h1
  ·split
   ·exact h2
   ·split
    ·exact h3
    ·exact hr _
def seqB (s:Int):Bool:=decide (1 ≤ s ∧ s ≤ 2147483648)
def nz:Nat → Int:=fun _ => 0
end Go.Proofs.YtphamecphmbipaaGreatDoor

namespace Go.Proofs.YtphamecphmbipaaGreatDoor
set_option linter.unusedVariables false
def hz (l:Nat → Int) (i:Nat):Int:=byteOf (l (i / 2)) (i % 2)
def hd (z:Nat → Int) (k:Nat):Int:=g16 z (2 * k)
def Hvs (l:Nat → Int):Prop:=∀ k,0 ≤ l k ∧ l k < 65536
theorem hz_byt (l:Nat → Int):Byt (hz l):=fun i => byteOf_bd _ _
theorem g16_hz {l:Nat → Int} (k:Nat) (hl:0 ≤ l k ∧ l k < 65536):g16 (hz l) (2 * k) = l k:=by
 unfold g16 hz
 rw [show 2 * k / 2 = k by omega,show (2 * k + 1) / 2 = k by omega,show 2 * k % 2 = 0 by omega,show (2 * k + 1) % 2 = 1 by omega]
 exact byteOf_sum2 _ hl.1 hl.2
theorem hz_put (l:Nat → Int) (k:Nat) (v:Int) (i:Nat):over (hz l) (2 * k) 2 (byteOf v) i = hz (upd l k v) i:=by
 unfold over hz upd
 by_cases h:2 * k ≤ i ∧ i < 2 * k + 2
 ·rw [if_pos h,if_pos (show i / 2 = k by omega)];congr 1;omega
 ·rw [if_neg h,if_neg (show ¬ i / 2 = k by omega)]
theorem byteOf_lo (v:Int) (i:Nat) (hi:i < 2):byteOf (v % 65536) i = byteOf v i:=by
 unfold byteOf
 have:i = 0 ∨ i = 1:=by omega
 rcases this with rfl | rfl
 ·simp <;> omega
 ·simp <;> omega
theorem byteOf_hi (v:Int) (i:Nat):byteOf (v / 65536) i = byteOf v (i + 2):=by
 rw [show i + 2 = (i + 1) + 1 by omega,byteOf_succ,byteOf_succ]
 congr 1;omega
def upd2 (l:Nat → Int) (k:Nat) (v:Int):Nat → Int:=upd (upd l k (v % 65536)) (k + 1) (v / 65536)
theorem hz_put4 (l:Nat → Int) (k:Nat) (v:Int) (i:Nat):over (hz l) (2 * k) 4 (byteOf v) i = hz (upd2 l k v) i:=by
 unfold over hz upd2 upd
 by_cases h:2 * k ≤ i ∧ i < 2 * k + 4
 ·rw [if_pos h]
  by_cases h2:i < 2 * k + 2
  ·rw [if_neg (show ¬ i / 2 = k + 1 by omega),if_pos (show i / 2 = k by omega),byteOf_lo _ _ (Nat.mod_lt _ (by omega))];congr 1;omega
  ·rw [if_pos (show i / 2 = k + 1 by omega),byteOf_hi];congr 1;omega
 ·rw [if_neg h,if_neg (show ¬ i / 2 = k + 1 by omega),if_neg (show ¬ i / 2 = k by omega)]
theorem hz_zero (i:Nat):hz (fun _ => 0) i = 0:=byteOf_0 _
theorem g32_hz {l:Nat → Int} (hl:Hvs l) (k:Nat):g32 (hz l) (2 * k) = l k + 65536 * l (k + 1):=by
 rw [g32_halves,g16_hz k (hl k),show 2 * k + 2 = 2 * (k + 1) by omega,g16_hz (k + 1) (hl _)]
theorem upd_hvs {l:Nat → Int} (hl:Hvs l) (k:Nat) {v:Int} (hv:0 ≤ v ∧ v < 65536):Hvs (upd l k v):=by
 intro j;unfold upd;split
 ·exact hv
 ·exact hl j
theorem upd2_hvs {l:Nat → Int} (hl:Hvs l) (k:Nat) {v:Int} (hv:0 ≤ v ∧ v < 4294967296):Hvs (upd2 l k v):=upd_hvs (upd_hvs hl _ (by omega)) _ (by omega)
theorem allZ_hd {z:Nat → Int} (hzb:Byt z) (k n:Nat):allZ (fun i => z (2 * k + i)) (2 * n) = allZ (fun j => hd z (k + j)) n:=by
 rw [Bool.eq_iff_iff,allZ_iff,allZ_iff]
 constructor
 ·intro h j hj
  have h0:=h (2 * j) (by omega)
  have h1:=h (2 * j + 1) (by omega)
  show g16 z (2 * (k + j)) = 0
  unfold g16
  rw [show 2 * (k + j) = 2 * k + 2 * j by omega,h0,Nat.add_assoc,h1];rfl
 ·intro h i hi
  have hj:g16 z (2 * (k + i / 2)) = 0:=h (i / 2) (by omega)
  have b0:=hzb (2 * (k + i / 2))
  have b1:=hzb (2 * (k + i / 2) + 1)
  unfold g16 at hj
  have:i = 2 * (i / 2) ∨ i = 2 * (i / 2) + 1:=by omega
  rcases this with e | e
  ·rw [show 2 * k + i = 2 * (k + i / 2) by omega];omega
  ·rw [show 2 * k + i = 2 * (k + i / 2) + 1 by omega];omega
def sealZ (z:Nat → Int):Nat → Int:=over z 252 4 (byteOf (crcZ z 252))
def sumB (z:Nat → Int):Bool:=g32 z 252 == crcZ z 252
theorem sealZ_byt {z:Nat → Int} (h:Byt z):Byt (sealZ z):=byt_over h (byt_byteOf _) _ _
theorem sealZ_low (z:Nat → Int) (i:Nat) (hi:i < 252):sealZ z i = z i:=over_out _ _ _ _ _ (.inl hi)
theorem crc_seal (z:Nat → Int):crcZ (sealZ z) 252 = crcZ z 252:=crcZ_congr fun i hi => sealZ_low z i hi
theorem sumB_seal (z:Nat → Int):sumB (sealZ z) = true:=by
 unfold sumB
 rw [crc_seal]
 unfold sealZ
 rw [g32_over _ _ _ (crcZ_bd _ _).1 (crcZ_bd _ _).2]
 simp
end Go.Proofs.YtphamecphmbipaaGreatDoor
