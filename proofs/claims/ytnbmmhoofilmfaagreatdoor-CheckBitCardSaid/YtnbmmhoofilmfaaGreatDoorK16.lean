/- Texts of this claim, merged by a program (a claim may have 60 files): Geo3, MkA, MkB, Geo4, MkC, MkD, U6h, MkF, CopyQ, InvA, MoveB, MkE, R4, RangeV, RangeV4, RangeK2, Sc3, Sc4, Sc4a, Sc4b, MkH. -/
import Derived.Test.YtnbmmhoofilmfaaGreatDoorK08
import Derived.Test.YtnbmmhoofilmfaaGreatDoorK10
import Derived.Test.YtnbmmhoofilmfaaGreatDoorK07
import Derived.Test.YtnbmmhoofilmfaaGreatDoorK12
import Derived.Test.YtnbmmhoofilmfaaGreatDoorK05
import Derived.Test.YtnbmmhoofilmfaaGreatDoorK04
import Derived.Test.YtnbmmhoofilmfaaGreatDoorK15
import Derived.Test.YtnbmmhoofilmfaaGreatDoorK09
import Derived.Laws.Tables
import Derived.Test.YtnbmmhoofilmfaaGreatDoorK02
import Derived.RegionIn
namespace Go.Proofs.YtnbmmhoofilmfaaGreatDoor
open Go.RowKit
set_option linter.unusedVariables false
set_option maxHeartbeats 2000000 in
theorem geoBlocks_any (G S I J:Int) (w:World):Calls Tryz.prog 30 #[gval G S I J] w fun e w' => e = .returned (.int .i64 (nBl G S I J)) ∧ Below w.heap.size w w':=by
 have HA:=Lib.hid (At.new w 23 (gcells G S I J))
 have HL:Hid (Below w.heap.size w (w.alloc (.cells (gcells G S I J) 23))):=(Below.refl _ _).alloc (Nat.le_refl _) _
 go_enter Tryz.func30,Tryz.ntmps30
 have hA:=HA.out
 go_wp2_with (first | (refine wp_loadAtG rfl 23 _ rfl _ _ _ rfl hA Tryz.underlying23 rfl (by kernel_rfl) ?_))
 refine (geoMay_any G S I J _).mono ?_
 rintro e w1 ⟨rfl,hb1⟩
 have hA1:=hA.below hb1 hA.lt
 have hL1:Below w.heap.size w w1:=HL.out.trans (hb1.mono HL.out.size)
 clear hA HA HL hb1
 cases hm:mayG G S I J with
 | false =>
  have HN:Hid (nBl G S I J = 0):=by show _ = _;unfold nBl;rw [hm];rfl
  clear hm
  go_wp2_with fail
  go_ret
  exact ⟨by rw [HN.out];rfl,hL1⟩
 | true =>
  have HN:Hid (nBl G S I J = 2 + J + G * S):=by show _ = _;unfold nBl;rw [hm];rfl
  obtain ⟨h1,h2,h3,h4,h5,h6,h7,h8,h9,h10,h11⟩:=(mayG_iff G S I J).1 hm
  have hg0:0 ≤ G * S:=Int.mul_nonneg (by omega) (by omega)
  have hw:IntKind.i64.wrap (G * S) = G * S:=IntWalk.i64_in _ (by omega)
  have hw1:IntKind.i64.wrap (2 + J) = 2 + J:=IntWalk.i64_in _ (by omega)
  have hw2:IntKind.i64.wrap (2 + J + G * S) = 2 + J + G * S:=IntWalk.i64_in _ (by omega)
  have c0:w1.cell? ⟨w.heap.size,0,none⟩ = some (.int .i64 G):=hA1.cell (i:=0) rfl
  have c1:w1.cell? ⟨w.heap.size,1,none⟩ = some (.int .i64 S):=hA1.cell (i:=1) rfl
  have c3:w1.cell? ⟨w.heap.size,3,none⟩ = some (.int .i64 J):=hA1.cell (i:=3) rfl
  clear hm h11
  go_wp2_with fail
  go_ret
  exact ⟨by rw [HN.out];rfl,hL1⟩
def isGr (G S I J k:Int):Bool:=mayG G S I J && (decide (0 ≤ k) && decide (k < G))
def stGr (G S I J k:Int):Int:=if isGr G S I J k then 2 + J + k * S else 0
set_option maxHeartbeats 2000000 in
theorem geoStart_any (G S I J k:Int) (w:World):Calls Tryz.prog 21 #[gval G S I J,.int .i64 k] w fun e w' => e = .returned (.tuple #[.int .i64 (stGr G S I J k),.bool (isGr G S I J k)]) ∧ Below w.heap.size w w':=by
 have HA:=Lib.hid (At.new w 23 (gcells G S I J))
 have HL:Hid (Below w.heap.size w (w.alloc (.cells (gcells G S I J) 23))):=(Below.refl _ _).alloc (Nat.le_refl _) _
 go_enter Tryz.func21,Tryz.ntmps21
 have hA:=HA.out
 go_wp2_with (first | (refine wp_loadAtG rfl 23 _ rfl _ _ _ rfl hA Tryz.underlying23 rfl (by kernel_rfl) ?_))
 refine (geoMay_any G S I J _).mono ?_
 rintro e w1 ⟨rfl,hb1⟩
 have hA1:=hA.below hb1 hA.lt
 have hL1:Below w.heap.size w w1:=HL.out.trans (hb1.mono HL.out.size)
 clear hA HA HL hb1
 have c0:w1.cell? ⟨w.heap.size,0,none⟩ = some (.int .i64 G):=hA1.cell (i:=0) rfl
 have c1:w1.cell? ⟨w.heap.size,1,none⟩ = some (.int .i64 S):=hA1.cell (i:=1) rfl
 have c3:w1.cell? ⟨w.heap.size,3,none⟩ = some (.int .i64 J):=hA1.cell (i:=3) rfl
 cases hm:mayG G S I J with
 | false =>
  have HN:Hid (isGr G S I J k = false):=by show _ = _;unfold isGr;rw [hm];rfl
  clear hm
  go_wp2_with fail
  go_ret2
  exact ⟨by unfold stGr;rw [HN.out];rfl,hL1⟩
 | true =>
  obtain ⟨h1,h2,h3,h4,h5,h6,h7,h8,h9,h10,h11⟩:=(mayG_iff G S I J).1 hm
  have HD:Hid (isGr G S I J k = (decide (0 ≤ k) && decide (k < G))):=by show _ = _;unfold isGr;rw [hm];rfl
  clear hm h11
  by_cases k0:k < 0
  ·have HN:Hid (isGr G S I J k = false):=by show _ = _;rw [HD.out];simp;omega
   have q0:decide (k < 0) = true:=decide_eq_true k0
   go_wp2_with fail
   go_ret2
   exact ⟨by unfold stGr;rw [HN.out];rfl,hL1⟩
  have q0:decide (k < 0) = false:=decide_eq_false k0
  by_cases k1:G ≤ k
  ·have HN:Hid (isGr G S I J k = false):=by show _ = _;rw [HD.out];simp;omega
   have q1:decide (G ≤ k) = true:=decide_eq_true k1
   go_wp2_with fail
   go_ret2
   exact ⟨by unfold stGr;rw [HN.out];rfl,hL1⟩
  have q1:decide (G ≤ k) = false:=decide_eq_false k1
  have HN:Hid (isGr G S I J k = true):=by show _ = _;rw [HD.out];simp;omega
  have hg0:0 ≤ k * S:=Int.mul_nonneg (by omega) (by omega)
  have hg1:k * S ≤ 4 * 512:=Int.mul_le_mul (by omega) h4 (by omega) (by omega)
  have hw:IntKind.i64.wrap (k * S) = k * S:=IntWalk.i64_in _ (by omega)
  have hw1:IntKind.i64.wrap (2 + J) = 2 + J:=IntWalk.i64_in _ (by omega)
  have hw2:IntKind.i64.wrap (2 + J + k * S) = 2 + J + k * S:=IntWalk.i64_in _ (by omega)
  go_wp2_with fail
  go_ret2
  exact ⟨by unfold stGr;rw [HN.out];rfl,hL1⟩
structure HoG (w:World) (G S I J:Int) (W:World):Prop where
 g:At W w.heap.size 23 (gcells G S I J)
 bel:Below w.heap.size w W
theorem info_block3:(Tryz.prog.info? 32).map (fun i => (i.zero,i.size,i.bytes)) = some (some (bval fun _ => 0),256,256):=by kernel_rfl
theorem run_mkimage (n:Nat) (hn:n ≤ 2048) (W:World):(Instr.makeSlice 29 (.int .i64 (n:Int)) (.int .i64 (n:Int))).run Tryz.prog W = .ok (.slice (some ⟨W.heap.size,0,none⟩) n n) (W.alloc (.cells (madeCells (bval fun _ => 0).cells (n * 256)) 32)) :=
 run_mkrow (P:=Tryz.prog) 29 32 (bval fun _ => 0) 256 256 Tryz.underlying29 info_block3 .i64 .i64 n (by omega) (by omega) W
theorem image_made (w:World) (n:Nat):RArr (w.alloc (.cells (madeCells (bval fun _ => 0).cells (n * 256)) 32)) w.heap.size 32 256 n (fun _ => Ks .u8 256 (fun _ => 0)) :=
 RArr.made (m:=256) w (Ks .u8 256 (fun _ => 0)).toArray (by simp [Ks]) (by omega) n 32
def rootI:Ino:=⟨2,1,1,0,fun _ => 0,0⟩
def rootZ:Nat → Int:=over (fun _ => 0) 0 64 rootI.byte
def dkB (G S I J:Int):Nat → Int:=fun _ => nDa G S I J
def dkI (I:Int):Nat → Int:=fun i => if i = 0 then I - 1 else I
def dkD:Nat → Int:=fun i => if i = 0 then 1 else 0
def mk0 (g s i j:Nat) (b:Nat):Nat → Int :=
 if b = 0 then supZ g s i j 0 else if b = 1 then descZ g s i j g (dkB g s i j) (dkI i) dkD else if b = 2 then headZ 1 0
 else if b < 2 + j then fun _ => 0
 else if (b - (2 + j)) % s = 0 then bZ (mapB (2 + i / 4) s)
 else if (b - (2 + j)) % s = 1 then bZ (mapB (if (b - (2 + j)) / s = 0 then 1 else 0) i)
 else fun _ => 0
def mkB (g s i j:Nat) (b:Nat):Nat → Int:=if b = 2 + j + 2 then rootZ else mk0 g s i j b
theorem mayN {g s i j:Nat} (hm:mayG g s i j = true):1 ≤ g ∧ g ≤ 4 ∧ 16 ≤ s ∧ s ≤ 512 ∧ 4 ≤ i ∧ i ≤ 64 ∧ i % 4 = 0 ∧ 40 ≤ j ∧ j ≤ 256 ∧ 3 + i / 4 ≤ s ∧ 2 + j + g * s ≤ 2048:=by
 obtain ⟨h1,h2,h3,h4,h5,h6,h7,h8,h9,h10,h11⟩:=(mayG_iff g s i j).1 hm
 have e:((g * s:Nat):Int) = (g:Int) * (s:Int):=Int.natCast_mul _ _
 rw [← e] at h11
 omega
theorem supOk0 {G S I J:Int} (hm:mayG G S I J = true):supOk G S I J 0 = true:=by
 have:=nIn_bd G S I J
 unfold supOk;rw [hm];simp;omega
theorem mkMayD {g s i j:Nat} (hm:mayG g s i j = true):mayD g s i j g (dkB g s i j) (dkI i) dkD = true:=by
 obtain ⟨h1,h2,h3,h4,h5,h6,h7,h8,h9,h10,h11⟩:=mayN hm
 have:=nDa_bd g s i j
 unfold mayD
 rw [Bool.and_eq_true,decide_eq_true_eq,allB_iff]
 refine ⟨rfl,fun k hk => (okD_iff _ _ _ _ _).2 ?_⟩
 unfold dkB dkI dkD
 by_cases e:k = 0
 ·rw [if_pos e,if_pos e];omega
 ·rw [if_neg e,if_neg e];omega
theorem descOk0 {g s i j:Nat} (hm:mayG g s i j = true):descOk g s i j g (dkB g s i j) (dkI i) dkD = true:=by
 unfold descOk;rw [hm,mkMayD hm];rfl
theorem rootOk:putOk 0 rootI = true:=by decide
theorem rootIsOk:rootI.Ok:=⟨by decide,by decide,by decide,by decide,fun i => ⟨Int.le_refl 0,(by decide:(0:Int) < 4294967296)⟩,by decide⟩
def sz:Nat → Int:=supZ 2 16 8 40 7
theorem supZ_byt (G S I J O:Int):Byt (supZ G S I J O):=by
 unfold supZ;split
 ·exact sealZ_byt (hz_byt _)
 ·intro i;show (0:Int) ≤ 0 ∧ (0:Int) < 256;decide
theorem descZ_byt (G S I J:Int) (n:Nat) (b i d:Nat → Int):Byt (descZ G S I J n b i d):=by
 unfold descZ;split
 ·exact sealZ_byt (hz_byt _)
 ·intro i;show (0:Int) ≤ 0 ∧ (0:Int) < 256;decide
theorem mkB_group {g s i j γ d:Nat} (hs:16 ≤ s) (hj:40 ≤ j) (hd:d < s) :
  mkB g s i j (2 + j + γ * s + d) = if γ = 0 ∧ d = 2 then rootZ else if d = 0 then bZ (mapB (2 + i / 4) s) else if d = 1 then bZ (mapB (if γ = 0 then 1 else 0) i) else fun _ => 0:=by
 have hsub:2 + j + γ * s + d - (2 + j) = s * γ + d:=by rw [Nat.mul_comm];omega
 have hmod:(2 + j + γ * s + d - (2 + j)) % s = d:=by rw [hsub,Nat.mul_add_mod,Nat.mod_eq_of_lt hd]
 have hdiv:(2 + j + γ * s + d - (2 + j)) / s = γ:=by rw [hsub,Nat.mul_add_div (by omega),Nat.div_eq_of_lt hd];rfl
 unfold mkB mk0
 by_cases e:γ = 0 ∧ d = 2
 ·obtain ⟨rfl,rfl⟩:=e
  rw [if_pos (by omega),if_pos ⟨rfl,rfl⟩]
 ·rw [if_neg e,hmod,hdiv]
  have e2:¬ 2 + j + γ * s + d = 2 + j + 2:=by
   intro h
   apply e
   rcases Nat.eq_zero_or_pos γ with rfl | hγ
   ·exact ⟨rfl,by omega⟩
   ·have:1 * s ≤ γ * s:=Nat.mul_le_mul_right s hγ
    omega
  rw [if_neg e2,if_neg (by omega),if_neg (by omega),if_neg (by omega),if_neg (by omega)]
theorem mkB_head {g s i j b:Nat} (hj:40 ≤ j) (h:3 ≤ b) (hb:b < 2 + j):mkB g s i j b = fun _ => 0:=by
 unfold mkB mk0
 rw [if_neg (by omega),if_neg (by omega),if_neg (by omega),if_neg (by omega),if_pos hb]
theorem mkB_0 {g s i j:Nat} (hj:40 ≤ j):mkB g s i j 0 = supZ g s i j 0:=by unfold mkB mk0;rw [if_neg (by omega),if_pos rfl]
theorem mkB_1 {g s i j:Nat} (hj:40 ≤ j):mkB g s i j 1 = descZ g s i j g (dkB g s i j) (dkI i) dkD:=by unfold mkB mk0;rw [if_neg (by omega),if_neg (by omega),if_pos rfl]
theorem mkB_2 {g s i j:Nat} (hj:40 ≤ j):mkB g s i j 2 = headZ 1 0:=by unfold mkB mk0;rw [if_neg (by omega),if_neg (by omega),if_neg (by omega),if_pos rfl]
theorem zero_byt:Byt (fun _ => 0):=fun _ => ⟨Int.le_refl 0,(by decide:(0:Int) < 256)⟩
theorem headZ_byt (s t:Int):Byt (headZ s t):=by
 unfold headZ;split
 ·exact wz_byt _
 ·exact zero_byt
theorem rootI_byt:Byt rootI.byte:=by
 intro i
 unfold Ino.byte
 repeat (first | split | exact byteOf_bd _ _ | exact ⟨by decide,by decide⟩)
theorem mkB_byt (g s i j b:Nat):Byt (mkB g s i j b):=by
 unfold mkB mk0
 repeat (first | split | exact byt_over zero_byt rootI_byt _ _ | exact supZ_byt _ _ _ _ _ | exact descZ_byt _ _ _ _ _ _ _ _ | exact headZ_byt _ _ | exact zero_byt | exact bZ_byt _)
end Go.Proofs.YtnbmmhoofilmfaaGreatDoor

namespace Go.Proofs.YtnbmmhoofilmfaaGreatDoor.Tb
open Go.RowKit
set_option linter.unusedVariables false
theorem wpOp_of {P:Program} {ops:Array Oper} {Q:Exit → Act → World → Prop} {i:Nat} {o:Oper} {K:Act → World → Prop} {a:Act} {w:World} (hi:ops[i]? = some o) (hg:o.guard = none) (h:o.wp P a w K Q):wpOp P ops Q i K a w:=by
 unfold wpOp
 rw [hi]
 have:Region.wanted o (yielded ops a.tmps) = true:=by unfold Region.wanted;rw [hg]
 simp only [this,if_true]
 exact .inl h
theorem put_size (a:Act) (d:Nat) (v:Value):(a.put (some d) v).tmps.size = a.tmps.size:=by simp [Act.put]
theorem put_same (a:Act) (d:Nat) (v:Value) (h:d < a.tmps.size):(a.put (some d) v).tmps.getD d undef = v:=by simp [Act.put,Array.getD_eq_getD_getElem?,h]
theorem put_other (a:Act) (d s:Nat) (v:Value) (h:s ≠ d):(a.put (some d) v).tmps.getD s undef = a.tmps.getD s undef:=by
 simp only [Act.put,Array.getD_eq_getD_getElem?,Array.getElem?_setIfInBounds_ne (Ne.symm h)]
end Go.Proofs.YtnbmmhoofilmfaaGreatDoor.Tb

namespace Go.Proofs.YtnbmmhoofilmfaaGreatDoor
open Go.RowKit
set_option linter.unusedVariables false
section
variable {P:Program} {w w':World} {o:Oper} {a:Act} {K:Act → World → Prop} {Q:Exit → Act → World → Prop}
theorem op_val {v:Value} (hr:(execOp a.eval o).run P w = .ok (.value v) w') (h:K (a.put o.dst v) w'):o.wp P a w K Q:=by
 unfold Oper.wp;rw [hr];exact h
theorem op_skip (hr:(execOp a.eval o).run P w = .ok .skip w') (h:K (a.put o.dst undef) w'):o.wp P a w K Q:=by
 unfold Oper.wp;rw [hr];exact h
theorem op_up {l:Nat → Bool} (hu:upB .any o l = true) (k:Nat) (hk:(o.after.any fun e => Region.binds .any e && e.on == k) = true):l k = true:=by
 unfold upB at hu
 rw [Array.all_eq_true'] at hu
 rw [Array.any_eq_true'] at hk
 obtain ⟨e,he,hb⟩:=hk
 rw [Bool.and_eq_true] at hb
 have:=hu e he
 rw [hb.1] at this
 have e2:e.on = k:=by simpa using hb.2
 rw [e2] at this
 simpa using this
end
end Go.Proofs.YtnbmmhoofilmfaaGreatDoor

namespace Go.Proofs.YtnbmmhoofilmfaaGreatDoor.Mv
open Go.RowKit Go.Proofs.YtnbmmhoofilmfaaGreatDoor
set_option linter.unusedVariables false
section
variable {P:Program} {ops:Array Oper} {σ:Type} {C:σ → World → Prop}
end
end Go.Proofs.YtnbmmhoofilmfaaGreatDoor.Mv

namespace Go.Proofs.YtnbmmhoofilmfaaGreatDoor
open Go.RowKit
set_option linter.unusedVariables false
section
variable {w:World} {G S I J:Int} {p1 p2 px q n:Nat} {zx zx':Nat → Int} {im im':Nat → Nat → Int} {W W':World}
end
structure MkImg (w:World) (g s i j q:Nat) (w':World):Prop where
 le:w.heap.size ≤ q
 a:RArr w' q 32 256 (2 + j + g * s) (fun b => Ks .u8 256 (mkB g s i j b))
 bel:Below w.heap.size w w'
def hi8 (P:Nat → Bool) (i:Nat):Nat → Nat
 | 0 => 0
 | t + 1 => 2 * hi8 P i t + (P (8 * i + (7 - t))).toNat
theorem hi8_lt (P:Nat → Bool) (i:Nat):∀ t,hi8 P i t < 2 ^ t
 | 0 => by show 0 < 2 ^ 0;decide
 | t + 1 => by
  have h:=hi8_lt P i t
  have hb:(P (8 * i + (7 - t))).toNat ≤ 1:=Bool.toNat_le _
  show 2 * hi8 P i t + (P (8 * i + (7 - t))).toNat < 2 ^ (t + 1)
  rw [Nat.pow_succ];omega
theorem hi8_256 (P:Nat → Bool) (i:Nat) {t:Nat} (ht:t ≤ 8):hi8 P i t < 256:=by
 have h1:=hi8_lt P i t
 have h2:2 ^ t ≤ 2 ^ 8:=Nat.pow_le_pow_right (by decide) ht
 omega
theorem hi8_8 (P:Nat → Bool) (i:Nat):hi8 P i 8 = by8 P i:=by
 unfold by8 b8
 show 2 * (2 * (2 * (2 * (2 * (2 * (2 * (2 * 0 + (P (8 * i + 7)).toNat) + (P (8 * i + 6)).toNat) + (P (8 * i + 5)).toNat) + (P (8 * i + 4)).toNat) + (P (8 * i + 3)).toNat) + (P (8 * i + 2)).toNat) + (P (8 * i + 1)).toNat) + (P (8 * i + 0)).toNat = _
 rw [Nat.add_zero (8 * i)]
 omega
def boF (P:Nat → Bool) (i:Nat):List Value:=[.bool (P i)]
theorem boF_len (P:Nat → Bool) (i:Nat):(boF P i).length = 1:=rfl
def uB (P:Nat → Bool) (k j:Nat):Int:=if j < k then bZ P j else 0
structure R4S (w:World) (P:Nat → Bool) (b off k:Nat) (W:World):Prop where
 r:Blk W w.heap.size 32 256 (fun _ => 0)
 bk:Blk W (w.heap.size + 1) 32 256 (uB P k)
 l:RRow W (some ⟨b,off,none⟩) 1 2048 (boF P)
 bel:Below w.heap.size w W
theorem boRow {W:World} {b off:Nat} {P:Nat → Bool} (h:RRow W (some ⟨b,off,none⟩) 1 2048 (boF P)) {d:Nat} (hd:d < 2048):W.cell? ⟨b,off + d,none⟩ = some (.bool (P d)):=by
 rcases h with h | ⟨b',off',e,h⟩
 ·omega
 ·injection e with e;injection e with e1 e2;subst e1 e2
  have:=h d hd 0 _ rfl
  rwa [Nat.mul_one,Nat.add_zero] at this
set_option maxRecDepth 100000 in
set_option maxHeartbeats 8000000 in
theorem rBits4_any (P:Nat → Bool) (la:Option Addr) (cap:Nat) (w:World) (hl:RRow w la 1 2048 (boF P)) (hla:∀ b off,la = some ⟨b,off,none⟩ → b < w.heap.size) :
  Calls Tryz.prog 78 #[.slice la 2048 cap] w fun e w' => e = .returned (bval (bZ P)) ∧ Below w.heap.size w w':=by
 obtain ⟨b,off,rfl⟩:∃ b off,la = some ⟨b,off,none⟩:=by
  rcases hl with h | ⟨b,off,e,_⟩
  ·omega
  ·exact ⟨b,off,e⟩
 have hbw:=hla b off rfl
 have hal:=zero_block
 have st:Hid (R4S w P b off 0 ((w.alloc (.cells (Ks .u8 256 (fun _ => 0)).toArray 32)).alloc (.cells (Ks .u8 256 (fun _ => 0)).toArray 32))):=by
  refine ⟨(Blk.new w _ _ _).alloc _,?_,?_,((Below.refl _ _).alloc (Nat.le_refl _) _).alloc (by simp) _⟩
  ·have:=Blk.new (w.alloc (.cells (Ks .u8 256 (fun _ => 0)).toArray 32)) 32 256 (fun _ => 0)
   simp only [World.size_alloc] at this
   exact this.congr fun i _ => rfl
  ·exact hl.below (by intro e;cases e) (((Below.refl w.heap.size w).alloc (Nat.le_refl _) _).alloc (by simp) _)
 clear hl hla
 go_enter Tryz.func78,Tryz.ntmps78
 go_wp2_with fail
 go_loopw [4,5,6] (fun u _ _ wr => ∃ k:Nat,u = .int .i64 (k:Int) ∧ k ≤ 256 ∧ R4S w P b off k wr) (fun u _ _ _ => 256 - (intOf u).toNat)
 case atStart => exact ⟨0,rfl,Nat.zero_le _,st.out⟩
 case round =>
  clear st
  obtain ⟨k,rfl,hk,st⟩:=hrel
  have ST:=Lib.hid st
  clear st
  by_cases hlt:k < 256
  ·have hlt':(k:Int) < 256:=by omega
   have k0:(0:Int) ≤ (k:Int):=by omega
   go_wp2_with fail
   go_loopw [5,6] (fun x u wq => ∃ (t:Nat),x = .int .i64 (hi8 P k t:Int) ∧ u = .int .i64 (7 - (t:Int)) ∧ t ≤ 8 ∧ wq = wr) (fun _ u _ => (intOf u + 1).toNat)
   case atStart => exact ⟨0,rfl,rfl,Nat.zero_le _,rfl⟩
   case round =>
    obtain ⟨t,rfl,rfl,ht,rfl⟩:=hrel
    by_cases hlt2:t < 8
    ·obtain ⟨q,hq⟩:∃ q:Nat,7 - (t:Int) = (q:Int):=⟨7 - t,by omega⟩
     have hq':q = 7 - t:=by omega
     have q0:(0:Int) ≤ (q:Int):=by omega
     obtain ⟨D,hD⟩:∃ D:Nat,8 * (k:Int) + (q:Int) = (D:Int):=⟨8 * k + q,by omega⟩
     have hDk:D = 8 * k + (7 - t):=by omega
     have hD2:D < 2048:=by omega
     have hD3:(D:Int) < 2048:=by omega
     have D0:(0:Int) ≤ (D:Int):=by omega
     have cD:=boRow ST.out.l hD2
     have HX:=hi8_256 P k (t:=t) (by omega)
     have HN:Hid (hi8 P k (t + 1) = 2 * hi8 P k t + (P D).toNat):=by show hi8 P k (t + 1) = _;rw [hDk];rfl
     rw [hq]
     obtain ⟨X,hX⟩:∃ X,X = hi8 P k t:=⟨_,rfl⟩
     rw [← hX] at HX HN
     rw [← hX]
     have hq1:Hid (7 - ((t + 1:Nat):Int) = (q:Int) - 1):=by show _ = _;omega
     have hqt:Hid ((q:Int) = 7 - (t:Int)):=hq.symm
     have hD7:=Lib.hid hDk
     clear hX hq hq' hDk
     cases hP:P D with
     | true =>
      rw [hP] at cD
      have hn:Hid (2 * (X:Int) + 1 = (hi8 P k (t + 1):Int)):=by show _ = _;rw [HN.out,hP,Bool.toNat_true];omega
      clear hP HN
      go_wp2_with fail
      go_roundw
      case rel => exact ⟨t + 1,by rw [← hn.out],by rw [hq1.out],by omega,trivial⟩
      case measure => simp [intOf]
     | false =>
      rw [hP] at cD
      have hn:Hid (2 * (X:Int) = (hi8 P k (t + 1):Int)):=by show _ = _;rw [HN.out,hP,Bool.toNat_false];omega
      clear hP HN
      go_wp2_with fail
      go_roundw
      case rel => exact ⟨t + 1,by rw [← hn.out],by rw [hq1.out],by omega,trivial⟩
      case measure => simp [intOf]
    ·obtain rfl:t = 8:=by omega
     rw [hi8_8]
     have hB:=by8_lt P k
     obtain ⟨X,hX⟩:∃ X,X = by8 P k:=⟨_,rfl⟩
     rw [← hX] at hB
     rw [← hX]
     have HX:=Lib.hid hX
     clear hX
     have hb:=ST.out.bk
     have c9:wr.cell? ⟨w.heap.size + 1,k,none⟩ = some (.int .u8 0):=by
      have:=hb.seg k hlt
      rw [Nat.zero_add] at this
      rw [this]
      unfold uB
      rw [if_neg (by omega)]
     have f9:wr.frozen? ⟨w.heap.size + 1,k,none⟩ = false:=soft_of_heap hb k
     have ho:=Only.setCell wr ⟨w.heap.size + 1,k,none⟩ (.int .u8 (X:Int))
     have hl2:Below w.heap.size w wr:=ST.out.bel
     have ST2:Hid (R4S w P b off (k + 1) (wr.setCell ⟨w.heap.size + 1,k,none⟩ (.int .u8 (X:Int)))):=by
      refine ⟨ST.out.r.only ho (by show _ ≠ w.heap.size + 1;omega),(hb.setCell k (X:Int) hlt).congr fun j hj => ?_,?_,hl2.trans (ho.below (by show _ ≤ w.heap.size + 1;omega))⟩
      ·unfold uB over
       show (if k ≤ j ∧ j < k + 1 then (X:Int) else (if j < k then bZ P j else 0)) = if j < k + 1 then bZ P j else 0
       by_cases e:j = k
       ·rw [if_pos (by omega),if_pos (by omega),HX.out,e];rfl
       ·rw [if_neg (by omega)]
        by_cases e2:j < k
        ·rw [if_pos e2,if_pos (by omega)]
        ·rw [if_neg e2,if_neg (by omega)]
      ·rcases ST.out.l with h | ⟨b',off',e,h⟩
       ·omega
       ·injection e with e;injection e with e1 e2;subst e1 e2
        exact .inr ⟨b,off,rfl,fun i hi j v hj => (World.cell?_of_block (ho.block b (by show b ≠ w.heap.size + 1;omega))).trans (h i hi j v hj)⟩
     clear ho hl2 hb ST
     go_wp2_with fail
     go_roundw
     case rel => first | exact ⟨k + 1,by first | rfl | go_num,by omega,ST2.out⟩ | ((repeat apply Exists.intro);exact ⟨⟨k + 1,by first | rfl | go_num,by omega,ST2.out⟩,rfl⟩)
     case measure => simp [intOf];omega
  ·obtain rfl:k = 256:=by omega
   have hb:Blk wr (w.heap.size + 1) 32 256 (bZ P):=ST.out.bk.congr fun j hj => by unfold uB;rw [if_pos hj]
   have hr:=ST.out.r
   go_wp2_with (first | (refine wp_loadBlkG rfl (.tmp 3) rfl (w.heap.size + 1) _ rfl hb ?_) | (refine wp_storeBlk rfl (.tmp 2) (.tmp 30) rfl w.heap.size (bZ P) _ rfl rfl hr ?_))
   intro w7 hR7 ho7
   go_wp2_with fail
   exact bodyPost_ret (results_blk rfl _ _ w.heap.size _ rfl hR7) rfl ⟨rfl,ST.out.bel.trans (ho7.below (Nat.le_refl _))⟩
end Go.Proofs.YtnbmmhoofilmfaaGreatDoor

namespace Go.Proofs.YtnbmmhoofilmfaaGreatDoor
open Go.RowKit
set_option linter.unusedVariables false
variable {F:Fence} {n:Nat} {P:Program}
def Kept (B:Nat) (X:World → Prop):Prop:=∀ W W' row,X W → W.grownBy W' row → (∀ r,row = some r → B ≤ r ∧ ∃ o:Obj,W.heap[r]? = some o ∧ o.isCells = false) → X W'
theorem Kept.from {B:Nat} {J:Nat → World → Prop} (h:∀ k,Kept B (J k)):OwnFrom B J:=fun s W W' row hs hg hr => h s W W' row hs hg hr
theorem Kept.turns {B:Nat} {X:World → Prop} (h:Kept B X) {A C:World} (hs:X A) (ht:Turns (fun _ => False) A C):X C:=by
 obtain ⟨row,hg,hr⟩:=ht
 exact h A C row hs hg (fun r e => (hr r e).elim)
theorem Kept.and {B:Nat} {X Y:World → Prop} (h:Kept B X) (k:Kept B Y):Kept B (fun W => X W ∧ Y W):=fun W W' row hs hg hr => ⟨h W W' row hs.1 hg hr,k W W' row hs.2 hg hr⟩
theorem Kept.pure (B:Nat) (p:Prop):Kept B (fun _ => p):=fun _ _ _ h _ _ => h
theorem Kept.ex {B:Nat} {α:Type} {X:α → World → Prop} (h:∀ x,Kept B (X x)):Kept B (fun W => ∃ x,X x W):=fun W W' row hs hg hr => let ⟨x,hx⟩:=hs;⟨x,h x W W' row hx hg hr⟩
theorem Kept.all {B:Nat} {α:Type} {X:α → World → Prop} (h:∀ x,Kept B (X x)):Kept B (fun W => ∀ x,X x W):=fun W W' row hs hg hr x => h x W W' row (hs x) hg hr
theorem Kept.ofLocal {B:Nat} {X:World → Prop} (h:LocalP B X):Kept B X:=fun W W' row hs hg hr => h W W' hs (Still.of_grown hg fun r e => (hr r e).1)
theorem Kept.cell (B:Nat) (p:Addr) (v:Value):Kept B (fun W => W.cell? p = some v):=fun W W' row hs hg hr => by
 have hl:=World.block_lt_of_cell? W _ hs
 refine (World.cell?_of_block (w:=W) (hg.block p.block hl fun e => ?_)).trans hs
 obtain ⟨_,o,ho,hc⟩:=hr _ e.symm
 simp only [World.cell?,ho] at hs
 cases o with
 | cells c e f => cases hc
 | _ => cases hs
theorem Kept.own {B base:Nat} {e:TypeId} {size k:Nat} {v:Value} {xs:List Value}:Kept B (fun W => W.ownsRow base e size v k xs):=fun W W' row hs hg hr => by
 refine World.ownsRow.kept hs hg ?_
 cases row with
 | none => cases h1:v.ownBlock with
  | none => exact .inl rfl
  | some g => exact .inr (fun e => by cases e)
 | some r =>
  obtain ⟨_,o,ho,hc⟩:=hr r rfl
  cases h1:v.ownBlock with
  | none => exact .inl rfl
  | some g =>
   refine .inr fun e => ?_
   injection e with e
   subst e
   rcases hs.2 with ⟨hv,_⟩ | ⟨g',cap',cur,hv,hbg,hg',h⟩
   ·subst hv;cases h1
   ·subst hv
    have:g' = g:=by simpa [Value.ownBlock] using h1
    subst this
    rw [ho] at hg'
    injection hg' with hg'
    subst hg'
    cases hc
end Go.Proofs.YtnbmmhoofilmfaaGreatDoor

namespace Go.Proofs.YtnbmmhoofilmfaaGreatDoor
open Go.RowKit
set_option linter.unusedVariables false
variable {P:Program}
theorem Kept.at {B b:Nat} (T:TypeId) (cs:Array Value):Kept B (fun W => At W b T cs):=fun W W' row hs hg hr => by
 refine (hg.block b hs.lt fun e => ?_).trans hs
 obtain ⟨_,o,ho,hc⟩:=hr b e.symm
 have:some (Obj.cells cs T (0,0)) = some o:=Eq.trans (Eq.symm hs) ho
 injection this with this
 subst this
 cases hc
theorem Kept.below {B n:Nat} (w:World) (hn:n ≤ B) (hw:n ≤ w.heap.size):Kept B (fun W => Below n w W):=Kept.ofLocal (LocalP.below w hn hw)
end Go.Proofs.YtnbmmhoofilmfaaGreatDoor

namespace Go.Proofs.YtnbmmhoofilmfaaGreatDoor
open Go.RowKit
variable {P:Program}
theorem wp_rangeIxK {g:Operand} {ps:Array Tmp} {asg bdy:Code} {Q:Exit → Act → World → Prop} {a:Act} {w:World} {gf:Nat} {lb:Array Value}
  (hg:a.eval g = .func (.func gf) #[] lb) (eg:∀ args w,(callFunc gf args).run P w = .ok (.enter gf args) w)
  {encs:Nat → Array Value} {N:Nat} {Need:Nat → World → Prop} (hit:IterIx Fence.wide 4 P gf lb encs N (fun _ => False) Need) (hps:∀ k,(encs k).size = ps.size)
  (J:Nat → World → Prop) (Jx:Code → Nat → World → Prop)
  (hJ:∀ k,Kept w.heap.size (J k)) (hJx:∀ c k,Kept w.heap.size (Jx c k)) (hN:∀ k,Kept w.heap.size (Need k)) (h0:J 0 w) (hn0:Need 0 w) (A1:Nat → Act)
  (assign:∀ (l k:Nat) (W:World) (K:Act → World → Prop),k < N → K (A1 k) W →
   asg.wpIn (Fence.wide.inRound l) 3 P (Exit.then K (fun _ _ _ => False)) { tmps:=(ps.zip (encs k)).foldl (fun t (p,v) => t.setIfInBounds p v) a.tmps,defers:=[] } W)
  (body:∀ (l k:Nat) (W:World),k < N → J k W → Need k W → bdy.wpIn (Fence.wide.inRound l) 3 P (roundIx w.heap.size J Jx Need k W) (A1 k) W)
  (done:∀ (D:Nat) (W:World),w.heap.size ≤ D → J N W → W.heap[D]? = some (.deferred (some [])) → Q .normal { a with defers:={ target:=.collected D,args:=#[] } :: a.defers } W)
  (stop:∀ (D:Nat) (c:Code) (k:Nat) (W:World),w.heap.size ≤ D → k < N → Jx c k W → W.heap[D]? = some (.deferred (some [])) → c.wp P Q { a with defers:={ target:=.collected D,args:=#[] } :: a.defers } W) :
  (Code.rangeFunc g ps asg bdy).wp P Q a w:=by
 refine (wpIn_wide (n:=5)).1 ?_
 exact wpIn_rangeIx rfl (by decide) hg trivial eg hit (fun r h => h.elim) hps J Jx (fun k a' _ => a' = A1 k)
  (Kept.from hJ) (fun c => Kept.from (hJx c)) (Kept.from hN) (fun a' => Kept.from (fun k => Kept.pure _ _))
  (fun k A C hs ht => (hJ k).turns hs ht) (fun c k A C hs ht => (hJx c k).turns hs ht) h0 hn0
  (fun l k W K hk hj hn hK => assign l k W K hk (hK _ _ (KeepsFrom.refl _ _) hj hn rfl))
  (fun l k a' W hk hj hn ha => by subst ha;exact body l k W hk hj hn)
  done (fun D c k W h1 h2 h3 h4 => wpIn_wide.2 (stop D c k W h1 h2 h3 h4))
end Go.Proofs.YtnbmmhoofilmfaaGreatDoor

namespace Go.Proofs.YtnbmmhoofilmfaaGreatDoor
open Go.RowKit
set_option linter.unusedVariables false
section
variable {w:World} {G S I J:Int} {la:Option Addr} {N:Nat} {L:Nat → Nat → Int} {hs ht:Int} {av:Value} {nn E:Int} {W W':World}
end
def st3 (W:World) (B:Nat) (v:Value) (nn E:Int):World:=((W.setCell ⟨B + 1 + 1,0,none⟩ v).setCell ⟨B + 1 + 1 + 1,0,none⟩ (.int .u32 nn)).setCell ⟨B + 1 + 1 + 1 + 1,0,none⟩ (.int .i64 E)
section
variable {w:World} {G S I J:Int} {la:Option Addr} {N:Nat} {L:Nat → Nat → Int} {hs ht:Int} {av:Value} {nn E:Int} {W W':World}
end
section
variable {w:World} {G S I J:Int} {la:Option Addr} {N:Nat} {L:Nat → Nat → Int} {hs ht:Int} {av:Value} {nn E:Int} {W W':World}
end
section
variable {w:World} {G S I J:Int} {la:Option Addr} {N:Nat} {L:Nat → Nat → Int} {hs ht:Int} {av:Value} {nn E:Int} {W W':World}
end
theorem at_own_neS {W:World} {p base k size:Nat} {T e:TypeId} {cs:Array Value} {v:Value} {xs:List Value} (hA:At W p T cs) (h:W.ownsRow base e size v k xs) (he:e ≠ T):v.ownBlock ≠ some p:=by
 intro hp
 rcases h.2 with ⟨rfl,_⟩ | ⟨q,cap,cur,rfl,_,hh,_⟩
 ·cases hp
 ·injection hp with hp
  subst hp
  have:=hA.symm.trans hh
  injection this with this
  injection this with _ h2
  exact he h2.symm
section
variable {w:World} {p8:Nat} {hs ht:Int} {a:Option Addr} {n c:Nat} {l:List Tr} {X:Int} {D:Nat} {o:Option Obj} {a0:Act} {f:Nat → Bool} {a':Act} {W W':World}
end
section
variable {w:World} {G S I J:Int} {la:Option Addr} {N:Nat} {L:Nat → Nat → Int} {hs ht:Int} {av:Value} {nn E:Int} {W W':World}
theorem keeps_cell {B b:Nat} {v u:Value} {T:TypeId} (hA:At W b T #[u]):KeepsFrom B W (W.setCell ⟨b,0,none⟩ v):=(Only.setCell W ⟨b,0,none⟩ v).keeps (hA.cell (i:=0) rfl)
theorem keeps_own {B base k size:Nat} {e:TypeId} {v:Value} {xs:List Value} (ho:W.ownsRow base e size v k xs) (hg:W.grownBy W' v.ownBlock):KeepsFrom B W W' :=
 ⟨hg.size,fun i o _ hi hc => by
  refine (hg.block i (Array.getElem?_eq_some_iff.1 hi).1 (fun e => ?_)).trans hi
  rcases ho.2 with ⟨hv,_⟩ | ⟨g',cap',cur,hv,hbg,hg',_⟩
  ·subst hv;cases e
  ·subst hv
   have:i = g':=by simpa [Value.ownBlock] using e
   subst this
   rw [hi] at hg'
   injection hg' with hg'
   subst hg'
   cases hc⟩
end
def kdP (s i:Nat) (K γ:Int):Nat → Bool:=if K = 4 then mapB (2 + i / 4) s else if K = 5 then mapB (if γ = 0 then 1 else 0) i else fun _ => false
def rfB (g s i j b:Nat) (K γ O:Int):Nat → Int :=
 if b = 0 then supZ g s i j 0 else if b = 1 then descZ g s i j g (dkB g s i j) (dkI i) dkD else if b = 2 then headZ 1 0
 else if O = 1 then over (bZ (kdP s i K γ)) 0 64 rootI.byte else bZ (kdP s i K γ)
theorem bZ_no:bZ (fun _ => false) = fun _ => 0:=funext bZ_none
theorem kdP_4 {s i:Nat} {γ:Int}:kdP s i 4 γ = mapB (2 + i / 4) s:=rfl
theorem kdP_5 {s i:Nat} {γ:Int}:kdP s i 5 γ = mapB (if γ = 0 then 1 else 0) i:=by unfold kdP;rw [if_neg (by decide),if_pos rfl]
theorem kdP_no {s i:Nat} {K γ:Int} (h4:K ≠ 4) (h5:K ≠ 5):kdP s i K γ = fun _ => false:=by unfold kdP;rw [if_neg h4,if_neg h5]
theorem thF_mk {g s i j b:Nat} (hm:mayG g s i j = true) (hb:b < 2 + j + g * s) :
  ∃ K γ A O:Int,thF s (i / 4) j b = tv K γ A O ∧ (1 ≤ K ∧ K ≤ 7) ∧ rfB g s i j b K γ O = mkB g s i j b:=by
 obtain ⟨h1,h2,h3,h4,h5,h6,h7,h8,h9,h10,h11⟩:=mayN hm
 by_cases b0:b = 0
 ·subst b0
  exact ⟨1,0,0,0,rfl,by omega,by rw [mkB_0 h8];rfl⟩
 by_cases b1:b = 1
 ·subst b1
  exact ⟨2,0,0,0,rfl,by omega,by rw [mkB_1 h8];rfl⟩
 by_cases b2:b = 2
 ·subst b2
  refine ⟨3,0,((2:Nat):Int) - 2,0,?_,by omega,by rw [mkB_2 h8];rfl⟩
  unfold thF;rw [if_neg (by omega),if_neg (by omega),if_pos (by omega)]
 have hrf:∀ K γ O,rfB g s i j b K γ O = if O = 1 then over (bZ (kdP s i K γ)) 0 64 rootI.byte else bZ (kdP s i K γ):=fun K γ O => by
  unfold rfB;rw [if_neg b0,if_neg b1,if_neg b2]
 by_cases bj:b < 2 + j
 ·refine ⟨3,0,(b:Int) - 2,0,?_,by omega,?_⟩
  ·unfold thF;rw [if_neg b0,if_neg b1,if_pos bj]
  ·rw [hrf,if_neg (by decide),kdP_no (by decide) (by decide),bZ_no,mkB_head h8 (by omega) bj]
 obtain ⟨d,hd⟩:∃ d,d = b - (2 + j):=⟨_,rfl⟩
 have hdm:=Nat.div_add_mod d s
 have hml:=Nat.mod_lt d (show s > 0 by omega)
 have hmk:mkB g s i j b = if d = 2 then rootZ else if d % s = 0 then bZ (mapB (2 + i / 4) s) else if d % s = 1 then bZ (mapB (if d / s = 0 then 1 else 0) i) else fun _ => 0:=by
  unfold mkB mk0
  rw [← hd,if_neg b0,if_neg b1,if_neg b2,if_neg bj]
  by_cases e:d = 2
  ·rw [if_pos e,if_pos (by omega)]
  ·rw [if_neg e,if_neg (by omega)]
 have hth:thF s (i / 4) j b = if d % s = 0 then tv 4 (d / s:Nat) 0 0 else if d % s = 1 then tv 5 (d / s:Nat) 1 0 else
   if d % s < 2 + i / 4 then tv 6 (d / s:Nat) (d % s:Nat) (1 + (d / s:Nat) * (4 * ((i / 4:Nat):Int)) + 4 * ((d % s:Nat) - 2)) else tv 7 (d / s:Nat) (d % s:Nat) 0:=by
  unfold thF;rw [if_neg b0,if_neg b1,if_neg bj,← hd]
 by_cases m0:d % s = 0
 ·refine ⟨4,(d / s:Nat),0,0,by rw [hth,if_pos m0],by omega,?_⟩
  have:d ≠ 2:=fun e => by rw [e,Nat.mod_eq_of_lt (by omega)] at m0;omega
  rw [hrf,if_neg (by decide),kdP_4,hmk,if_neg this,if_pos m0]
 by_cases m1:d % s = 1
 ·refine ⟨5,(d / s:Nat),1,0,by rw [hth,if_neg m0,if_pos m1],by omega,?_⟩
  have:d ≠ 2:=fun e => by rw [e,Nat.mod_eq_of_lt (by omega)] at m1;omega
  rw [hrf,if_neg (by decide),kdP_5,hmk,if_neg this,if_neg m0,if_pos m1]
  by_cases e:d / s = 0
  ·rw [if_pos e,if_pos (by omega)]
  ·rw [if_neg e,if_neg (by omega)]
 by_cases mi:d % s < 2 + i / 4
 ·refine ⟨6,_,_,_,by rw [hth,if_neg m0,if_neg m1,if_pos mi],by omega,?_⟩
  rw [hrf,kdP_no (by decide) (by decide),bZ_no,hmk]
  by_cases e:d = 2
  ·have e1:d / s = 0:=by rw [e,Nat.div_eq_of_lt (by omega)]
   have e2:d % s = 2:=by rw [e,Nat.mod_eq_of_lt (by omega)]
   rw [if_pos e,if_pos (by rw [e1,e2];simp)];rfl
  ·rw [if_neg e,if_neg m0,if_neg m1,if_neg ?_]
   intro hO
   have ht:1 ≤ i / 4:=by omega
   by_cases e1:d / s = 0
   ·rw [e1,Nat.mul_zero] at hdm
    rw [e1] at hO
    simp at hO
    omega
   ·have h1':(1:Int) * (4 * ((i / 4:Nat):Int)) ≤ ((d / s:Nat):Int) * (4 * ((i / 4:Nat):Int)):=Int.mul_le_mul_of_nonneg_right (by have:=Nat.one_le_iff_ne_zero.2 e1;exact_mod_cast this) (by omega)
    generalize ((d / s:Nat):Int) * (4 * ((i / 4:Nat):Int)) = X at h1' hO
    omega
 ·refine ⟨7,_,_,0,by rw [hth,if_neg m0,if_neg m1,if_neg mi],by omega,?_⟩
  have:d ≠ 2:=fun e => by rw [e,Nat.mod_eq_of_lt (by omega)] at mi;omega
  rw [hrf,if_neg (by decide),kdP_no (by decide) (by decide),bZ_no,hmk,if_neg this,if_neg m0,if_neg m1]
theorem Cs_head (f:Nat → List Value):∀ n,1 ≤ n → Cs f n = f 0 ++ Cs (fun k => f (1 + k)) (n - 1):=fun n hn => by
 have:=Cs_cat f 1 (n - 1)
 rw [show 1 + (n - 1) = n by omega] at this
 rw [← this];rfl
theorem Cs_desc0 (B:Int) (i n:Nat) (hn:1 ≤ n):((Cs (df (fun _ => B) (fun _ => (i:Int)) (fun _ => 0)) n).set 1 (.int .i64 ((i:Int) - 1))).set 2 (.int .i64 1) = Cs (df (fun _ => B) (dkI (i:Int)) dkD) n:=by
 rw [Cs_head _ n hn,Cs_head (df (fun _ => B) (dkI (i:Int)) dkD) n hn]
 have:Cs (fun k => df (fun _ => B) (fun _ => (i:Int)) (fun _ => 0) (1 + k)) (n - 1) = Cs (fun k => df (fun _ => B) (dkI (i:Int)) dkD (1 + k)) (n - 1):=Cs_congr fun k _ => by
  unfold df dkI dkD;rw [if_neg (by omega),if_neg (by omega)]
 rw [this]
 rfl
end Go.Proofs.YtnbmmhoofilmfaaGreatDoor
