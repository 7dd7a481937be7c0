/- Texts of this claim, merged. -/
import Derived.Test.YtphamecphmbipaaGreatDoorK39
import Derived.Test.YtphamecphmbipaaGreatDoorK21
set_option maxRecDepth 100000
set_option maxHeartbeats 16000000

namespace Go.Proofs.YtphamecphmbipaaGreatDoor
open Go.RowKit
set_option linter.unusedVariables false
def ones8 (v:Nat):Nat:=(v.testBit 0).toNat + (v.testBit 1).toNat + (v.testBit 2).toNat + (v.testBit 3).toNat + (v.testBit 4).toNat + (v.testBit 5).toNat + (v.testBit 6).toNat + (v.testBit 7).toNat
theorem ones_b8:∀ a b c d e f g h:Bool,ones8 (b8 a b c d e f g h) = a.toNat + b.toNat + c.toNat + d.toNat + e.toNat + f.toNat + g.toNat + h.toNat:=by decide
theorem cntB_one (P:Nat → Bool) (n:Nat):cntB P (n + 1) = cntB P n + (P n).toNat:=by
 rw [cntB];cases P n <;> rfl
theorem cntB_eight (P:Nat → Bool) (k:Nat):cntB P (8 * (k + 1)) = cntB P (8 * k) + ones8 (by8 P k):=by
 unfold by8
 rw [ones_b8,show 8 * (k + 1) = 8 * k + 1 + 1 + 1 + 1 + 1 + 1 + 1 + 1 by omega]
 simp only [cntB_one,Nat.add_assoc,Nat.reduceAdd]
theorem cntB_zero {P:Nat → Bool} {n:Nat} (h:∀ i,i < n → P i = false):cntB P n = 0:=cntB_low (u:=0) (Nat.zero_le _) fun k hk => by rw [h k hk];simp
theorem an_low0:∀ a b c d e f g h:Bool,b8 a b c d e f g h &&& 0 = b8 false false false false false false false false:=by decide
theorem an_low1:∀ a b c d e f g h:Bool,b8 a b c d e f g h &&& 1 = b8 a false false false false false false false:=by decide
theorem an_low2:∀ a b c d e f g h:Bool,b8 a b c d e f g h &&& 3 = b8 a b false false false false false false:=by decide
theorem an_low3:∀ a b c d e f g h:Bool,b8 a b c d e f g h &&& 7 = b8 a b c false false false false false:=by decide
theorem an_low4:∀ a b c d e f g h:Bool,b8 a b c d e f g h &&& 15 = b8 a b c d false false false false:=by decide
theorem an_low5:∀ a b c d e f g h:Bool,b8 a b c d e f g h &&& 31 = b8 a b c d e false false false:=by decide
theorem an_low6:∀ a b c d e f g h:Bool,b8 a b c d e f g h &&& 63 = b8 a b c d e f false false:=by decide
theorem an_low7:∀ a b c d e f g h:Bool,b8 a b c d e f g h &&& 127 = b8 a b c d e f g false:=by decide
theorem cntB_part (P:Nat → Bool) (k j:Nat) (hj:j < 8):cntB P (8 * k + j) = cntB P (8 * k) + ones8 (by8 P k &&& (2 ^ j - 1)):=by
 unfold by8
 have:j = 0 ∨ j = 1 ∨ j = 2 ∨ j = 3 ∨ j = 4 ∨ j = 5 ∨ j = 6 ∨ j = 7:=by omega
 rcases this with rfl | rfl | rfl | rfl | rfl | rfl | rfl | rfl
 ·rw [show 2 ^ 0 - 1 = 0 from rfl,an_low0,ones_b8];simp
 ·rw [show 2 ^ 1 - 1 = 1 from rfl,an_low1,ones_b8];simp [cntB_one]
 ·rw [show 2 ^ 2 - 1 = 3 from rfl,an_low2,ones_b8,show 8 * k + 2 = 8 * k + 1 + 1 by omega];simp only [cntB_one,Nat.add_assoc,Nat.reduceAdd,Bool.toNat_false,Nat.add_zero]
 ·rw [show 2 ^ 3 - 1 = 7 from rfl,an_low3,ones_b8,show 8 * k + 3 = 8 * k + 1 + 1 + 1 by omega];simp only [cntB_one,Nat.add_assoc,Nat.reduceAdd,Bool.toNat_false,Nat.add_zero]
 ·rw [show 2 ^ 4 - 1 = 15 from rfl,an_low4,ones_b8,show 8 * k + 4 = 8 * k + 1 + 1 + 1 + 1 by omega];simp only [cntB_one,Nat.add_assoc,Nat.reduceAdd,Bool.toNat_false,Nat.add_zero]
 ·rw [show 2 ^ 5 - 1 = 31 from rfl,an_low5,ones_b8,show 8 * k + 5 = 8 * k + 1 + 1 + 1 + 1 + 1 by omega];simp only [cntB_one,Nat.add_assoc,Nat.reduceAdd,Bool.toNat_false,Nat.add_zero]
 ·rw [show 2 ^ 6 - 1 = 63 from rfl,an_low6,ones_b8,show 8 * k + 6 = 8 * k + 1 + 1 + 1 + 1 + 1 + 1 by omega];simp only [cntB_one,Nat.add_assoc,Nat.reduceAdd,Bool.toNat_false,Nat.add_zero]
 ·rw [show 2 ^ 7 - 1 = 127 from rfl,an_low7,ones_b8,show 8 * k + 7 = 8 * k + 1 + 1 + 1 + 1 + 1 + 1 + 1 by omega];simp only [cntB_one,Nat.add_assoc,Nat.reduceAdd,Bool.toNat_false,Nat.add_zero]
theorem ones_any (v:Nat) (hv:v < 256) (w:World):Calls Tryz.prog 159 #[.int .u8 (v:Int)] w fun e w' => e = .returned (.int .i64 ((ones8 v:Nat):Int)) ∧ w = w':=by
 have h0:(0:Int) ≤ (v:Int):=by omega
 have h1:(v:Int) < 256:=by omega
 go_enter Tryz.func159,Tryz.ntmps159
 go_wp2_with fail
 go_ret
 refine ⟨congrArg (fun z => Ending.returned (Value.int .i64 z)) ?_,rfl⟩
 show wrap64 _ = _
 rw [← getElem!_pos]
 have key:∀ T:ByteArray,(List.range 256).all (fun v => decide (wrap64 ((T[v]!.toNat:Nat):Int) = ((ones8 v:Nat):Int))) = true → ∀ v,v < 256 → wrap64 ((T[v]!.toNat:Nat):Int) = ((ones8 v:Nat):Int):=fun T h v hv => of_decide_eq_true (List.all_eq_true.1 h v (List.mem_range.2 hv))
 exact key _ (by kernel_rfl) v hv
theorem bZ_zero {P:Nat → Bool} {n:Nat} (h:eqB (bZ P) (fun _ => 0) 256 = true) (hn:n ≤ 2048):cntB P n = 0:=by
 refine cntB_zero fun i hi => ?_
 have h1:=(eqB_iff _ _ _).1 h (i / 8) (by omega)
 have h2:=by8_and P (i / 8) (i % 8) (Nat.mod_lt _ (by decide))
 have h3:by8 P (i / 8) = 0:=by unfold bZ at h1;omega
 rw [h3,show 8 * (i / 8) + i % 8 = i by omega,Nat.zero_and] at h2
 have hp:0 < 2 ^ (i % 8):=Nat.two_pow_pos _
 cases hP:P i with
 | false => rfl
 | true => rw [hP] at h2;simp at h2;omega
theorem cntB_bd (P:Nat → Bool) (n:Nat):cntB P n ≤ n:=cntB_le P n
theorem run_sliceBlkTo (g k:Nat) (L:Int) (hL:L = (k:Int)) (h3:k ≤ 256) (W:World) :
  (Instr.sliceAt 32 (.pointer (some ⟨g,0,none⟩)) none (some (.int .i64 L)) none).run Tryz.prog W = .ok (.slice (some ⟨g,0,none⟩) k 256) W:=by
 subst hL
 have hal:Tryz.prog.arrayLen 32 = 256:=by kernel_rfl
 have hsz:∀ W,(Go.sizeOf (Tryz.prog.elem 32)).run Tryz.prog W = .ok 1 W:=fun W => by kernel_rfl
 rw [run_sliceAt_array_h W 32 _ (by kernel_rfl) .i64 (k:Int) (by omega) (by rw [hal];omega),hsz,hal]
 simp only [Result.andThen,slicedAt,Int.toNat_natCast,Nat.mul_one]
 rfl
theorem ones8_le (v:Nat):ones8 v ≤ 8:=by
 have h:∀ b:Bool,b.toNat ≤ 1:=by decide
 unfold ones8
 have:=h (v.testBit 0);have:=h (v.testBit 1);have:=h (v.testBit 2);have:=h (v.testBit 3)
 have:=h (v.testBit 4);have:=h (v.testBit 5);have:=h (v.testBit 6);have:=h (v.testBit 7)
 omega
theorem bitCount_any (P:Nat → Bool) (n:Nat) (hn:n ≤ 2048) (w:World) :
  Calls Tryz.prog 134 #[bval (bZ P),.int .i64 (n:Int)] w fun e w' => e = .returned (.int .i64 ((cntB P n:Nat):Int)) ∧ Below w.heap.size w w':=by
 have ST:Hid (HsS w P (w.alloc (.cells (Ks .u8 256 (bZ P)).toArray 32))):=⟨Blk.new w _ _ _,(Below.refl _ _).alloc (Nat.le_refl _) _⟩
 have m2:min (n:Int) 2048 = (n:Int):=by omega
 have m3:max (n:Int) 0 = (n:Int):=by omega
 have h0:(n:Int).tdiv 8 = ((n / 8:Nat):Int):=by rw [Int.tdiv_eq_ediv_of_nonneg (by omega)];omega
 have h1:(n:Int).tmod 8 = ((n % 8:Nat):Int):=by rw [Int.tmod_eq_emod_of_nonneg (by omega)];omega
 by_cases hn0:n = 0
 ·have q0:((n:Int) == 0) = true:=by simp [hn0]
  have HN0:=Lib.hid hn0
  clear hn0 m3
  have m3:max (n:Int) 0 = (n:Int):=by omega
  go_enter Tryz.func134,Tryz.ntmps134
  go_wp2_with fail
  go_ret
  exact ⟨by rw [HN0.out];rfl,ST.out.bel⟩
 have q0:((n:Int) == 0) = false:=by simp;omega
 have hz0:=zero_block
 have hql:∀ W,(binOp .eql 32 (bval (bZ P)) (bval fun _ => 0)).run Tryz.prog W = .ok (.bool (eqB (bZ P) (fun _ => 0) 256)) W:=fun W => run_eql_block _ _ W
 have hB:=ST.out.b
 obtain ⟨c,hc⟩:∃ c,c = eqB (bZ P) (fun _ => 0) 256:=⟨_,rfl⟩
 rw [← hc] at hql
 have HC:=Lib.hid hc
 clear hc hn0
 obtain ⟨m,hm⟩:∃ m,m = n / 8:=⟨_,rfl⟩
 have hm9:m ≤ 256:=by omega
 have hsl:=fun W => run_sliceBlkTo w.heap.size m ((n:Int) / 8) (by omega) hm9 W
 cases c with
 | true =>
  go_enter Tryz.func134,Tryz.ntmps134
  go_wp2_with (first | (refine wp_loadBlkG rfl (.tmp 2) rfl w.heap.size (bZ P) rfl hB ?_))
  go_ret
  exact ⟨by rw [bZ_zero HC.out.symm hn];rfl,ST.out.bel⟩
 | false =>
  go_enter Tryz.func134,Tryz.ntmps134
  go_wp2_with (first | (refine wp_loadBlkG rfl (.tmp 2) rfl w.heap.size (bZ P) rfl hB ?_))
  clear hB hql hz0
  go_loopw [5,22] (fun v u wr => ∃ k:Nat,k ≤ m ∧ u = .int .i64 (k:Int) ∧ v = .int .i64 ((cntB P (8 * k):Nat):Int) ∧ HsS w P wr) (fun _ u _ => m - (intOf u).toNat)
  case atStart => exact ⟨0,Nat.zero_le _,rfl,rfl,ST.out⟩
  case round =>
   clear ST
   obtain ⟨k,hk,rfl,rfl,st⟩:=hrel
   have ST:=Lib.hid st
   clear st
   by_cases hkm:k < m
   ·have hk':(k:Int) < (m:Int):=by omega
    have k0:(0:Int) ≤ (k:Int):=by omega
    have hc:wr.cell? ⟨w.heap.size,k,none⟩ = some (.int .u8 ((by8 P k:Nat):Int)):=by have:=ST.out.b.seg k (by omega);rwa [Nat.zero_add] at this
    obtain ⟨v,hv⟩:∃ v,v = by8 P k:=⟨_,rfl⟩
    have hv9:v < 256:=by rw [hv];exact by8_lt P k
    obtain ⟨a,ha⟩:∃ a,a = cntB P (8 * k):=⟨_,rfl⟩
    have ha9:a ≤ 2048:=by have:=cntB_bd P (8 * k);omega
    have hnx:cntB P (8 * (k + 1)) = a + ones8 v:=by rw [cntB_eight,ha,hv]
    have HNX:=Lib.hid hnx
    rw [← hv] at hc
    rw [← ha]
    clear hv ha hnx
    have ho9:=ones8_le v
    have HO:Hid (∀ W,Calls Tryz.prog 159 #[.int .u8 (v:Int)] W fun e w' => e = .returned (.int .i64 ((ones8 v:Nat):Int)) ∧ W = w'):=fun W => ones_any v hv9 W
    generalize ones8 v = o at *
    go_wp2_with fail
    refine (HO.out _).mono ?_
    rintro e w1 ⟨rfl,rfl⟩
    go_wp2_with fail
    go_roundw
    case rel => first | exact ⟨k + 1,by omega,by first | rfl | go_num,by rw [HNX.out];first | rfl | go_num,ST.out⟩ | ((repeat apply Exists.intro);exact ⟨⟨k + 1,by omega,by first | rfl | go_num,by rw [HNX.out];first | rfl | go_num,ST.out⟩,rfl⟩)
    case measure => simp [intOf] <;> omega
   ·obtain rfl:k = m:=by omega
    have hpt:=cntB_part P k (n % 8) (Nat.mod_lt _ (by decide))
    rw [show 8 * k + n % 8 = n by omega] at hpt
    have HPT:=Lib.hid hpt
    obtain ⟨r,hr⟩:∃ r,r = n % 8:=⟨_,rfl⟩
    have hcb:=cntB_bd P n
    have hcb8:=cntB_bd P (8 * k)
    rw [← hr] at h1 hpt HPT
    have h1e:(n:Int) % 8 = (r:Int):=by omega
    by_cases hr0:r = 0
    ·have HN:Hid (cntB P n = cntB P (8 * k)):=by show _ = _;rw [show n = 8 * k by omega]
     have q1:((r:Int) != 0) = false:=by simp [hr0]
     clear hpt HPT hr0 hr
     go_wp2_with fail
     go_ret
     exact ⟨by rw [HN.out];rfl,ST.out.bel⟩
    ·have q1:((r:Int) != 0) = true:=by simp;omega
     have hM:(2:Nat) ^ r - 1 < 256:=by have:=pow_lt8 n;rw [← hr] at this;omega
     have hA:bits .and .u8 ((by8 P k:Nat):Int) ((2 ^ r - 1:Nat):Int) = ((by8 P k &&& (2 ^ r - 1):Nat):Int):=u8_and_nat _ _ (by8_lt _ _) hM
     have hp1:0 < (2:Nat) ^ r:=Nat.two_pow_pos _
     have hp2:(2:Nat) ^ r < 256:=by have:=pow_lt8 n;rwa [← hr] at this
     have HMK:Hid (∀ W,Calls Tryz.prog 46 #[.int .i64 (n:Int)] W fun e w' => e = .returned (.int .u8 ((2 ^ r:Nat):Int)) ∧ W = w'):=fun W => by rw [hr];exact bitMask_any n (by omega) W
     have hS:(((2 ^ r:Nat):Int) - 1) = ((2 ^ r - 1:Nat):Int):=by omega
     obtain ⟨V,hV⟩:∃ V,V = by8 P k &&& (2 ^ r - 1):=⟨_,rfl⟩
     have hV9:V < 256:=by rw [hV];exact Nat.lt_of_le_of_lt Nat.and_le_left (by8_lt P k)
     rw [← hV] at hA hpt
     have HO:Hid (∀ W,Calls Tryz.prog 159 #[.int .u8 (V:Int)] W fun e w' => e = .returned (.int .i64 ((ones8 V:Nat):Int)) ∧ W = w'):=fun W => ones_any V hV9 W
     have HPT:=Lib.hid hpt
     obtain ⟨a,ha⟩:∃ a,a = cntB P (8 * k):=⟨_,rfl⟩
     rw [← ha] at hcb8 HPT hpt ⊢
     have hk8:k < 256:=by omega
     have HSB:Hid (∀ W,HsS w P W → W.cell? ⟨w.heap.size,k,none⟩ = some (.int .u8 ((by8 P k:Nat):Int))):=fun W h => by have:=h.b.seg k hk8;rwa [Nat.zero_add] at this
     obtain ⟨B,hB⟩:∃ B,B = by8 P k:=⟨_,rfl⟩
     rw [← hB] at hA HSB
     obtain ⟨M,hMM⟩:∃ M,M = (2:Nat) ^ r:=⟨_,rfl⟩
     rw [← hMM] at hA HMK hS hp1 hp2
     generalize ones8 V = o at *
     have hao:a + o ≤ 2048:=by omega
     have HAA:=Lib.hid hA
     have HS:=Lib.hid hS
     clear hpt hr hr0 hV ha hA hB hMM hM hS hcb hcb8
     have h0':(n:Int) / 8 = (k:Int):=by omega
     have k0:(0:Int) ≤ (k:Int):=by omega
     have k256:(k:Int) < 256:=by omega
     rw [← hm] at h0 ⊢
     clear hm
     go_wp2_with fail
     refine wp_region_S (HsS w P) (by kernel_rfl) (by kernel_rfl) ⟨ST.out.b,ST.out.bel.drew⟩ ?_
     clear ST
     intro hne
     have hc:∀ y:InW (HsS w P),y.W.cell? ⟨w.heap.size,k,none⟩ = some (.int .u8 (B:Int)):=fun y => HSB.out _ y.h
     repeat (first | go_big_quiet_skip | (go_big_quiet_want;go_big_quiet_op;go_big_quiet_on))
     go_big_quiet_want
     go_big_quiet_op
     refine ⟨_,fun s => q_call s (fun W hW => (HMK.out W).mono fun e w' h => ⟨h.1,h.2 ▸ hW⟩),?_⟩
     go_big_quiet_on
     have hA:=HAA.out
     have hS:=HS.out
     repeat (first | go_big_quiet_skip | (go_big_quiet_want;go_big_quiet_op;go_big_quiet_on))
     go_big_quiet_want
     go_big_quiet_op
     refine ⟨_,fun s => q_call s (fun W hW => (HO.out W).mono fun e w' h => ⟨h.1,h.2 ▸ hW⟩),?_⟩
     go_big_quiet_on
     repeat (first | go_big_quiet_skip | (go_big_quiet_want;go_big_quiet_op;go_big_quiet_on))
     refine wpQuiet_nil ?_
     intro w5 h5
     have st5:=h5.out
     clear h5 hne hc hA hS
     go_wp2_with fail
     go_ret
     exact ⟨by rw [HPT.out];rfl,st5.bel⟩
theorem bitCount_z {z:Nat → Int} (hz:Byt z) (I:Int) (i:Nat) (h0:I = (i:Int)) (hi:i ≤ 2048) (w:World) :
  Calls Tryz.prog 134 #[bval z,.int .i64 I] w fun e w' => e = .returned (.int .i64 ((cntB (bt z) i:Nat):Int)) ∧ Below w.heap.size w w':=by
 rw [bval_bits hz,h0];exact bitCount_any (bt z) i hi w
structure CnS (w:World) (p b off:Nat) (x:Im) (cs:Array Value) (q db:Nat) (do_:Nat) (W:World):Prop where
 s:CkX w p b off x cs q W
 d:RSeg W db do_ 3 x.g (df (rB (x.L 1)) (rI (x.L 1)) (rD (x.L 1)))
 dl:db < w.heap.size
 bel:Below w.heap.size w W
theorem CnS.below {w:World} {p b off:Nat} {x:Im} {cs:Array Value} {q db do_:Nat} {W W':World} (h:CnS w p b off x cs q db do_ W) (hb:Below W.heap.size W W'):CnS w p b off x cs q db do_ W' :=
 ⟨h.s.below hb,RSeg.below h.d hb (Nat.lt_of_lt_of_le h.dl h.bel.size),h.dl,h.bel.trans (hb.mono h.bel.size)⟩
structure CnG (w:World) (p b off:Nat) (x:Im) (cs:Array Value) (q db:Nat) (do_:Nat) (G:Nat) (u v n:Int) (W:World):Prop where
 s:CnS w p b off x cs q db do_ W
 g:At W G 67 #[.int .i64 u,.int .i64 v,.int .i64 n]
 lo:w.heap.size ≤ G
theorem CnG.below {w:World} {p b off:Nat} {x:Im} {cs:Array Value} {q db do_:Nat} {G:Nat} {u v n:Int} {W W':World} (h:CnG w p b off x cs q db do_ G u v n W) (hb:Below W.heap.size W W'):CnG w p b off x cs q db do_ G u v n W' :=
 ⟨h.s.below hb,h.g.below hb h.g.lt,h.lo⟩
theorem CnG.set {w:World} {p b off:Nat} {x:Im} {cs:Array Value} {q db do_:Nat} {G:Nat} {u v n:Int} {W:World} (h:CnG w p b off x cs q db do_ G u v n W) (hp:p < w.heap.size) (hb:b < w.heap.size) (hq:q < w.heap.size) (i:Nat) (z:Value) {u' v' n':Int} (he:(#[.int .i64 u,.int .i64 v,.int .i64 n]:Array Value).setIfInBounds i z = #[.int .i64 u',.int .i64 v',.int .i64 n']) :
  CnG w p b off x cs q db do_ G u' v' n' (W.setCell ⟨G,i,none⟩ z):=by
 have ho:Only G W (W.setCell ⟨G,i,none⟩ z):=Only.setCell W ⟨G,i,none⟩ z
 have hl:=h.lo
 have hd:=h.s.dl
 refine ⟨⟨h.s.s.only ho (by omega) (by omega) (by omega) hl,RSeg.only h.s.d ho (by omega),hd,h.s.bel.trans ((ho.below (Nat.le_refl _)).mono hl)⟩,?_,hl⟩
 have:=h.g.set1 i z
 rw [he] at this
 exact this
theorem ckCounts_any (p b off cap dc:Nat) (x:Im) (hx:x.Ok) (orp own sl un:Value) (q db do_:Nat) (w:World) (hpw:p < w.heap.size) (hbw:b < w.heap.size) (hqw:q < w.heap.size) (hdw:db < w.heap.size)
  (h:CkX w p b off x (XC b off cap x (.slice (some ⟨db,do_,none⟩) x.g dc) (.slice (some ⟨q,0,none⟩) (x.ni + 1) (x.ni + 1)) orp own sl un) q w)
  (hd:RSeg w db do_ 3 x.g (df (rB (x.L 1)) (rI (x.L 1)) (rD (x.L 1)))) :
  Calls Tryz.prog 86 #[.pointer (some ⟨p,0,none⟩)] w fun e w' => Said (allB x.ck12 x.g) 12 e ∧ Below w.heap.size w w':=by
 have HX:=Lib.hid hx
 obtain ⟨h1,h2,h3,h4,h5,h6,h7,h8,h9,h10,h11⟩:=mayN hx.may
 have hn9:=hx.n_le
 have hni:x.ni ≤ 256:=gi_bd hx.may
 obtain ⟨cs,hcs⟩:∃ cs,cs = XC b off cap x (.slice (some ⟨db,do_,none⟩) x.g dc) (.slice (some ⟨q,0,none⟩) (x.ni + 1) (x.ni + 1)) orp own sl un:=⟨_,rfl⟩
 have HCS:Hid (∀ W,At W p 105 cs → W.cell? ⟨p,0,none⟩ = some (.slice (some ⟨b,off,none⟩) x.n cap) ∧ W.cell? ⟨p,10,none⟩ = some (.slice (some ⟨db,do_,none⟩) x.g dc) ∧ W.cell? ⟨p,11,none⟩ = some (.slice (some ⟨q,0,none⟩) (x.ni + 1) (x.ni + 1)) ∧ W.cell? ⟨p,6,none⟩ = some (.int .i64 (x.g:Int)) ∧ W.cell? ⟨p,7,none⟩ = some (.int .i64 (x.s:Int)) ∧ W.cell? ⟨p,8,none⟩ = some (.int .i64 (x.i:Int)) ∧ XG p x.g x.s x.i x.j W):=fun W h => by
  rw [hcs] at h
  exact ⟨h.cell (i:=0) rfl,h.cell (i:=10) rfl,h.cell (i:=11) rfl,h.cell (i:=6) rfl,h.cell (i:=7) rfl,h.cell (i:=8) rfl,XG.of h⟩
 rw [← hcs] at h
 have ST0:Hid (CnS w p b off x cs q db do_ w):=⟨h,hd,hdw,Below.refl _ _⟩
 have c6:=(HCS.out _ h.a).2.2.2.1
 clear h hcs hx hd
 have hzd:=zero_desc
 go_enter Tryz.func86,Tryz.ntmps86
 go_wp2_with fail
 clear c6
 go_loopw [11] (fun u wr => ∃ k:Nat,k ≤ x.g ∧ u = .int .i64 (k:Int) ∧ (∀ γ,γ < k → x.ck12 γ = true) ∧ CnS w p b off x cs q db do_ wr) (fun u _ => x.g - (intOf u).toNat)
 case atStart => exact ⟨0,Nat.zero_le _,rfl,fun q h => by omega,ST0.out⟩
 case round =>
  clear ST0
  obtain ⟨k,hk,rfl,hP,st⟩:=hrel
  have HPP:=Lib.hid hP
  have ST:=Lib.hid st
  clear hP st
  by_cases hlt:k < x.g
  ·have hlt':(k:Int) < (x.g:Int):=by omega
   have HNO:Hid (x.ck12 k = false → Said (allB x.ck12 x.g) 12 (.panicked (brk 12))):=fun h => .inr ⟨allB_no hlt h,rfl⟩
   have HAL:Hid (x.ck12 k = true → ∀ γ,γ < k + 1 → x.ck12 γ = true):=fun hc γ hγ => by
    rcases Nat.lt_succ_iff_lt_or_eq.1 hγ with h | h
    ·exact HPP.out γ h
    ·rw [h];exact hc
   go_wp2_with fail
   refine (ckStart_any p x.g x.s x.i x.j k HX.out.may hlt wr (HCS.out _ ST.out.s.a).2.2.2.2.2.2).mono ?_
   rintro e w1 ⟨rfl,hb1⟩
   have ST1:=ST.out.below hb1
   have HQ:Hid (2 + x.j + k * x.s = x.st k):=rfl
   rw [HQ.out]
   obtain ⟨Q,hQ⟩:∃ Q,Q = x.st k:=⟨_,rfl⟩
   have HQQ:=Lib.hid hQ
   have hQ0:Q < x.n:=by have:=HX.out.st hlt (d:=0) (by omega);rw [Nat.add_zero] at this;omega
   have hQ1:Q + 1 < x.n:=by have:=HX.out.st hlt (d:=1) (by omega);omega
   have hQ0':(Q:Int) < (x.n:Int):=by omega
   have hQ1':(Q:Int) + 1 < (x.n:Int):=by omega
   have Qn0:(0:Int) ≤ (Q:Int):=by omega
   have Qn1:(0:Int) ≤ (Q:Int) + 1:=by omega
   have STG:Hid (CnG w p b off x cs q db do_ w1.heap.size 0 0 0 (w1.alloc (.cells #[.int .i64 0,.int .i64 0,.int .i64 0] 67))) :=
    ⟨ST1.below ((Below.refl _ _).alloc (Nat.le_refl _) _),At.new _ _ _,ST1.bel.size⟩
   rw [← hQ]
   clear hQ HQ ST ST1 hb1
   go_wp2_with fail
   obtain ⟨G,hG⟩:∃ G,G = w1.heap.size:=⟨_,rfl⟩
   rw [← hG] at STG ⊢
   clear hG
   have hb0:=cntB_bd (bt (x.L Q)) x.s
   obtain ⟨c0,hc0⟩:∃ c,c = cntB (bt (x.L Q)) x.s:=⟨_,rfl⟩
   have HC0:=Lib.hid hc0
   have HCN0:Hid (∀ W,Calls Tryz.prog 134 #[bval (x.L Q),.int .i64 (x.s:Int)] W fun e w' => e = .returned (.int .i64 ((c0:Nat):Int)) ∧ Below W.heap.size W w'):=fun W => by rw [hc0];exact bitCount_z (HX.out.byt Q) _ x.s rfl (by omega) W
   rw [← hc0] at hb0
   clear hc0
   have hb0':(c0:Int) ≤ (x.s:Int):=by omega
   refine wp_region_bar2 (CnG w p b off x cs q db do_ G 0 0 0) 20 (by kernel_rfl) (by kernel_rfl) (by kernel_rfl) (by kernel_rfl) (by kernel_rfl) (by decide) (STG.out.below (Below.refl _ _).drew) ?_
   clear STG
   simp only [List.take_succ_cons,List.take_zero,List.drop_succ_cons,List.drop_zero]
   intro hne
   have hci:∀ z:InW (CnG w p b off x cs q db do_ G 0 0 0),z.W.cell? ⟨p,0,none⟩ = some (.slice (some ⟨b,off,none⟩) x.n cap):=fun z => (HCS.out _ z.h.s.s.a).1
   have hc7:∀ z:InW (CnG w p b off x cs q db do_ G 0 0 0),z.W.cell? ⟨p,7,none⟩ = some (.int .i64 (x.s:Int)):=fun z => (HCS.out _ z.h.s.s.a).2.2.2.2.1
   repeat (first | go_big_quiet_skip | (go_big_quiet_want;go_big_quiet_op;go_big_quiet_on))
   refine q_load rfl 32 (.tmp 27) rfl b (off + Q * 256) rfl (bkF x.L Q) _ (fun W h => RSeg.range h.s.s.i Q hQ0) Tryz.underlying32 rfl (by rw [bkF_len];exact info_block) ?_
   refine wpQuiet_frame (by simp only [Act.put,List.setIfInBounds_toArray,List.set_cons_succ,List.set_cons_zero];exact rfl) ?_
   repeat (first | go_big_quiet_skip | (go_big_quiet_want;go_big_quiet_op;go_big_quiet_on))
   go_big_quiet_want
   go_big_quiet_op
   refine ⟨_,fun s => q_call s (fun W hW => (HCN0.out W).mono fun e w' h => ⟨h.1,hW.below h.2⟩),?_⟩
   go_big_quiet_on
   repeat (first | go_big_quiet_skip | (go_big_quiet_want;go_big_quiet_op;go_big_quiet_on))
   refine wpQuiet_nil ?_
   intro w6 h6'
   have STG:=Lib.hid h6'.out
   clear h6' hne hci hc7
   have cG0:=STG.out.g.cell (i:=0) (v:=.int .i64 0) rfl
   have fG0:w6.frozen? ⟨G,0,none⟩ = false:=soft_of_heap STG.out.g 0
   have STH:Hid (CnG w p b off x cs q db do_ G ((x.s:Int) - (c0:Int)) 0 0 (w6.setCell ⟨G,0,none⟩ (.int .i64 ((x.s:Int) - (c0:Int))))):=STG.out.set hpw hbw hqw 0 _ rfl
   clear STG
   go_wp2_with fail
   obtain ⟨F,hF⟩:∃ F,F = (x.s:Int) - (c0:Int):=⟨_,rfl⟩
   have HF:=Lib.hid hF
   rw [← hF] at STH ⊢
   clear hF
   generalize w6.setCell ⟨G,0,none⟩ (.int .i64 F) = w7 at STH ⊢
   clear cG0 fG0 hb0 hb0' HCN0
   have hb1:=cntB_bd (bt (x.L (Q + 1))) x.i
   obtain ⟨c1,hc1⟩:∃ c,c = cntB (bt (x.L (Q + 1))) x.i:=⟨_,rfl⟩
   have HC1:=Lib.hid hc1
   have HCN1:Hid (∀ W,Calls Tryz.prog 134 #[bval (x.L (Q + 1)),.int .i64 (x.i:Int)] W fun e w' => e = .returned (.int .i64 ((c1:Nat):Int)) ∧ Below W.heap.size W w'):=fun W => by rw [hc1];exact bitCount_z (HX.out.byt (Q + 1)) _ x.i rfl (by omega) W
   rw [← hc1] at hb1
   clear hc1
   have hb1':(c1:Int) ≤ (x.i:Int):=by omega
   refine wp_region_bar2 (CnG w p b off x cs q db do_ G F 0 0) 21 (by kernel_rfl) (by kernel_rfl) (by kernel_rfl) (by kernel_rfl) (by kernel_rfl) (by decide) (STH.out.below (Below.refl _ _).drew) ?_
   clear STH
   simp only [List.take_succ_cons,List.take_zero,List.drop_succ_cons,List.drop_zero]
   intro hne
   have hci:∀ z:InW (CnG w p b off x cs q db do_ G F 0 0),z.W.cell? ⟨p,0,none⟩ = some (.slice (some ⟨b,off,none⟩) x.n cap):=fun z => (HCS.out _ z.h.s.s.a).1
   have hc8:∀ z:InW (CnG w p b off x cs q db do_ G F 0 0),z.W.cell? ⟨p,8,none⟩ = some (.int .i64 (x.i:Int)):=fun z => (HCS.out _ z.h.s.s.a).2.2.2.2.2.1
   repeat (first | go_big_quiet_skip | (go_big_quiet_want;go_big_quiet_op;go_big_quiet_on))
   refine q_load rfl 32 (.tmp 48) rfl b (off + (Q + 1) * 256) rfl (bkF x.L (Q + 1)) _ (fun W h => RSeg.range h.s.s.i (Q + 1) hQ1) Tryz.underlying32 rfl (by rw [bkF_len];exact info_block) ?_
   refine wpQuiet_frame (by simp only [Act.put,List.setIfInBounds_toArray,List.set_cons_succ,List.set_cons_zero];exact rfl) ?_
   repeat (first | go_big_quiet_skip | (go_big_quiet_want;go_big_quiet_op;go_big_quiet_on))
   go_big_quiet_want
   go_big_quiet_op
   refine ⟨_,fun s => q_call s (fun W hW => (HCN1.out W).mono fun e w' h => ⟨h.1,hW.below h.2⟩),?_⟩
   go_big_quiet_on
   repeat (first | go_big_quiet_skip | (go_big_quiet_want;go_big_quiet_op;go_big_quiet_on))
   refine wpQuiet_nil ?_
   intro w8 h8'
   have STG:=Lib.hid h8'.out
   clear h8' hne hci hc8
   have cG1:=STG.out.g.cell (i:=1) (v:=.int .i64 0) rfl
   have fG1:w8.frozen? ⟨G,1,none⟩ = false:=soft_of_heap STG.out.g 1
   have STH:Hid (CnG w p b off x cs q db do_ G F ((x.i:Int) - (c1:Int)) 0 (w8.setCell ⟨G,1,none⟩ (.int .i64 ((x.i:Int) - (c1:Int))))):=STG.out.set hpw hbw hqw 1 _ rfl
   have c8:=(HCS.out _ STH.out.s.s.a).2.2.2.2.2.1
   clear STG
   go_wp2_with fail
   clear c8
   obtain ⟨E,hE⟩:∃ E,E = (x.i:Int) - (c1:Int):=⟨_,rfl⟩
   have HE:=Lib.hid hE
   clear hE cG1 fG1 hb1 hb1' HCN1
   go_loopw [63] (fun u wr => ∃ d:Nat,d ≤ x.i ∧ u = .int .i64 (d:Int) ∧ CnG w p b off x cs q db do_ G F E ((cntB (fun b => (x.ino (k * x.i + b + 1)).kind == 2) d:Nat):Int) wr) (fun u _ => x.i - (intOf u).toNat)
   case atStart => exact ⟨0,Nat.zero_le _,rfl,by rw [HE.out];exact STH.out⟩
   case round =>
    clear STH
    obtain ⟨d,hd,rfl,st⟩:=hrel
    have ST:=Lib.hid st
    clear st
    by_cases hdi:d < x.i
    ·have hdi':(d:Int) < (x.i:Int):=by omega
     have d0:(0:Int) ≤ (d:Int):=by omega
     have hkn:k * x.i + d + 1 < x.ni + 1:=by
      have h1:=Nat.mul_le_mul_right x.i (show k + 1 ≤ x.g from hlt)
      rw [Nat.succ_mul] at h1
      unfold Im.ni;omega
     obtain ⟨cn,hcn⟩:∃ cn,cn = cntB (fun b => (x.ino (k * x.i + b + 1)).kind == 2) d:=⟨_,rfl⟩
     have hcn9:cn ≤ d:=by rw [hcn];exact cntB_bd _ _
     obtain ⟨t,ht⟩:∃ t,t = k * x.i + d + 1:=⟨_,rfl⟩
     have hnx:cntB (fun b => (x.ino (k * x.i + b + 1)).kind == 2) (d + 1) = cn + ((x.ino t).kind == 2).toNat:=by rw [cntB_one,← hcn,ht]
     have HNX:=Lib.hid hnx
     have HNU:Hid (∀ W,Calls Tryz.prog 135 #[gval x.g x.s x.i x.j,.int .i64 (k:Int),.int .i64 (d:Int)] W fun e w' => e = .returned (.int .i64 ((t:Nat):Int)) ∧ Below W.heap.size W w'):=fun W => by rw [ht];exact geoNumber_yes x.g x.s x.i x.j k d HX.out.may hlt hdi W
     rw [← ht] at hkn
     rw [← hcn] at ST
     clear ht hcn hnx
     have hkn':(t:Int) < (x.ni:Int) + 1:=by omega
     have t0:(0:Int) ≤ (t:Int):=by omega
     obtain ⟨kd,hkd⟩:∃ kd,kd = (x.ino t).kind:=⟨_,rfl⟩
     have HKD:Hid (∀ W,CnG w p b off x cs q db do_ G F E (cn:Int) W → W.cell? ⟨q,t * 16,none⟩ = some (.int .u8 kd)):=fun W h => by rw [hkd];exact h.s.s.ino (t:=t) hkn 0 rfl
     rw [← hkd] at HNX
     clear hkd
     go_wp2_with fail
     refine wp_region_S (CnG w p b off x cs q db do_ G F E (cn:Int)) (by kernel_rfl) (by kernel_rfl) (ST.out.below (Below.refl _ _).drew) ?_
     clear ST
     intro hne
     have hc11:∀ z:InW (CnG w p b off x cs q db do_ G F E (cn:Int)),z.W.cell? ⟨p,11,none⟩ = some (.slice (some ⟨q,0,none⟩) (x.ni + 1) (x.ni + 1)):=fun z => (HCS.out _ z.h.s.s.a).2.2.1
     have hck:∀ z:InW (CnG w p b off x cs q db do_ G F E (cn:Int)),z.W.cell? ⟨q,t * 16,none⟩ = some (.int .u8 kd):=fun z => HKD.out _ z.h
     repeat (first | go_big_quiet_skip | (go_big_quiet_want;go_big_quiet_op;go_big_quiet_on))
     refine q_load rfl 23 (.tmp 72) rfl p 6 rfl (gcells x.g x.s x.i x.j).toList _ (fun W h => (HCS.out _ h.s.s.a).2.2.2.2.2.2) Tryz.underlying23 rfl (by kernel_rfl) ?_
     refine wpQuiet_frame (by simp only [Act.put,List.setIfInBounds_toArray,List.set_cons_succ,List.set_cons_zero];exact rfl) ?_
     repeat (first | go_big_quiet_skip | (go_big_quiet_want;go_big_quiet_op;go_big_quiet_on))
     go_big_quiet_want
     go_big_quiet_op
     refine ⟨_,fun s => q_call s (fun W hW => (HNU.out W).mono fun e w' h => ⟨h.1,hW.below h.2⟩),?_⟩
     go_big_quiet_on
     repeat (first | go_big_quiet_skip | (go_big_quiet_want;go_big_quiet_op;go_big_quiet_on))
     refine wpQuiet_nil ?_
     intro w9 h9'
     have STG:=Lib.hid h9'.out
     clear h9' hne hc11 hck
     have cG2:=STG.out.g.cell (i:=2) (v:=.int .i64 (cn:Int)) rfl
     have fG2:w9.frozen? ⟨G,2,none⟩ = false:=soft_of_heap STG.out.g 2
     have hcn8:cn ≤ 64:=by omega
     have cn0:(0:Int) ≤ (cn:Int):=by omega
     by_cases hk2:kd = 2
     ·have q2:(kd == 2) = true:=by simp [hk2]
      have HN:Hid (((cntB (fun b => (x.ino (k * x.i + b + 1)).kind == 2) (d + 1):Nat):Int) = (cn:Int) + 1):=by show _ = _;rw [HNX.out,q2];rfl
      have STN:Hid (CnG w p b off x cs q db do_ G F E ((cn:Int) + 1) (w9.setCell ⟨G,2,none⟩ (.int .i64 ((cn:Int) + 1)))):=STG.out.set hpw hbw hqw 2 _ rfl
      clear hk2 STG
      go_wp2_with fail
      go_roundw
      case rel => first | exact ⟨d + 1,by omega,by first | rfl | go_num,by rw [HN.out];exact STN.out⟩ | ((repeat apply Exists.intro);exact ⟨⟨d + 1,by omega,by first | rfl | go_num,by rw [HN.out];exact STN.out⟩,rfl⟩)
      case measure => simp [intOf] <;> omega
     ·have q2:(kd == 2) = false:=by simp [hk2]
      have HN:Hid (((cntB (fun b => (x.ino (k * x.i + b + 1)).kind == 2) (d + 1):Nat):Int) = (cn:Int)):=by show _ = _;rw [HNX.out,q2];rfl
      clear hk2
      go_wp2_with fail
      go_roundw
      case rel => first | exact ⟨d + 1,by omega,by first | rfl | go_num,by rw [HN.out];exact STG.out⟩ | ((repeat apply Exists.intro);exact ⟨⟨d + 1,by omega,by first | rfl | go_num,by rw [HN.out];exact STG.out⟩,rfl⟩)
      case measure => simp [intOf] <;> omega
    ·obtain rfl:d = x.i:=by omega
     obtain ⟨N,hN⟩:∃ N:Int,N = ((cntB (fun b => (x.ino (k * x.i + b + 1)).kind == 2) x.i:Nat):Int):=⟨_,rfl⟩
     have hql:∀ W,(binOp .eql 67 (.agg #[.int .i64 F,.int .i64 E,.int .i64 N]) (.agg #[.int .i64 (rB (x.L 1) k),.int .i64 (rI (x.L 1) k),.int .i64 (rD (x.L 1) k)])).run Tryz.prog W = .ok (.bool (eqD F E N (rB (x.L 1) k) (rI (x.L 1) k) (rD (x.L 1) k))) W:=fun W => run_eql_desc _ _ _ _ _ _ W
     have HCK:Hid (x.ck12 k = eqD F E N (rB (x.L 1) k) (rI (x.L 1) k) (rD (x.L 1) k)):=by
      show _ = _
      rw [HF.out,HE.out,HC0.out,HC1.out,HQQ.out,hN];rfl
     have k0:(0:Int) ≤ (k:Int):=by omega
     rw [← hN] at ST
     clear hN
     obtain ⟨c,hc⟩:∃ c,c = eqD F E N (rB (x.L 1) k) (rI (x.L 1) k) (rD (x.L 1) k):=⟨_,rfl⟩
     rw [← hc] at hql HCK
     clear hc
     go_wp2_with fail
     refine wp_region_bar2 (CnG w p b off x cs q db do_ G F E N) 9 (by kernel_rfl) (by kernel_rfl) (by kernel_rfl) (by kernel_rfl) (by kernel_rfl) (by decide) (ST.out.below (Below.refl _ _).drew) ?_
     clear ST
     simp only [List.take_succ_cons,List.take_zero,List.drop_succ_cons,List.drop_zero]
     intro hne
     have hc10:∀ z:InW (CnG w p b off x cs q db do_ G F E N),z.W.cell? ⟨p,10,none⟩ = some (.slice (some ⟨db,do_,none⟩) x.g dc):=fun z => (HCS.out _ z.h.s.s.a).2.1
     refine q_load rfl 67 (.tmp 4) rfl G 0 rfl [.int .i64 F,.int .i64 E,.int .i64 N] _ (fun W h => h.g.range) Tryz.underlying67 rfl (by kernel_rfl) ?_
     refine wpQuiet_frame (by simp only [Act.put,List.setIfInBounds_toArray,List.set_cons_succ,List.set_cons_zero];exact rfl) ?_
     repeat (first | go_big_quiet_skip | (go_big_quiet_want;go_big_quiet_op;go_big_quiet_on))
     refine q_load rfl 67 (.tmp 92) rfl db (do_ + k * 3) rfl [.int .i64 (rB (x.L 1) k),.int .i64 (rI (x.L 1) k),.int .i64 (rD (x.L 1) k)] _ (fun W h => RSeg.range h.s.d k hlt) Tryz.underlying67 rfl (by kernel_rfl) ?_
     refine wpQuiet_frame (by simp only [Act.put,List.setIfInBounds_toArray,List.set_cons_succ,List.set_cons_zero];exact rfl) ?_
     repeat (first | go_big_quiet_skip | (go_big_quiet_want;go_big_quiet_op;go_big_quiet_on))
     refine wpQuiet_nil ?_
     intro w9 h9'
     have STG:=Lib.hid h9'.out
     clear h9' hne hc10 hql
     go_wp2_with fail
     refine (must_any 12 c _).mono ?_
     rintro e w10 ⟨hS,rfl⟩
     rcases hS with ⟨hct,rfl⟩ | ⟨hct,rfl⟩
     rotate_left
     ·exact ⟨rfl,HNO.out (HCK.out.trans hct),STG.out.s.bel⟩
     have HA2:=Lib.hid (HAL.out (HCK.out.trans hct))
     clear hct
     go_wp2_with fail
     go_roundw
     case rel => first | exact ⟨k + 1,by omega,by first | rfl | go_num,HA2.out,STG.out.s⟩ | ((repeat apply Exists.intro);exact ⟨⟨k + 1,by omega,by first | rfl | go_num,HA2.out,STG.out.s⟩,rfl⟩)
     case measure => simp [intOf] <;> omega
  ·obtain rfl:k = x.g:=by omega
   go_wp2_with fail
   refine bodyPost_end (results_none rfl _ _ _) rfl ⟨.inl ⟨(allB_iff _ _).2 HPP.out,rfl⟩,ST.out.bel⟩
end Go.Proofs.YtphamecphmbipaaGreatDoor
