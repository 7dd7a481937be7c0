/- Texts of this claim, merged. -/
import Derived.Test.YtphamecphmbipaaGreatDoorK15
set_option maxRecDepth 100000
set_option maxHeartbeats 16000000

namespace Go.Proofs.YtphamecphmbipaaGreatDoor
open Go.RowKit
set_option linter.unusedVariables false
theorem geoBlocks_any (G S I J:Int) (w:World):Calls Tryz.prog 126 #[gval G S I J] w fun e w' => e = .returned (.int .i64 (nBl G S I J)) ∧ Below w.heap.size w w':=by
 have HA:=Lib.hid (At.new w 23 (gcells G S I J))
 have HL:Hid (Below w.heap.size w (w.alloc (.cells (gcells G S I J) 23))):=(Below.refl _ _).alloc (Nat.le_refl _) _
 go_enter Tryz.func126,Tryz.ntmps126
 have hA:=HA.out
 go_wp2_with (first | (refine wp_loadAtG rfl 23 _ rfl _ _ _ rfl hA Tryz.underlying23 rfl (by kernel_rfl) ?_))
 refine (geoMay_any G S I J _).mono ?_
 rintro e w1 ⟨rfl,hb1⟩
 have hA1:=hA.below hb1 hA.lt
 have hL1:Below w.heap.size w w1:=HL.out.trans (hb1.mono HL.out.size)
 clear hA HA HL hb1
 cases hm:mayG G S I J with
 | false =>
  have HN:Hid (nBl G S I J = 0):=by show _ = _;unfold nBl;rw [hm];rfl
  clear hm
  go_wp2_with fail
  go_ret
  exact ⟨by rw [HN.out];rfl,hL1⟩
 | true =>
  have HN:Hid (nBl G S I J = 2 + J + G * S):=by show _ = _;unfold nBl;rw [hm];rfl
  obtain ⟨h1,h2,h3,h4,h5,h6,h7,h8,h9,h10,h11⟩:=(mayG_iff G S I J).1 hm
  have hg0:0 ≤ G * S:=Int.mul_nonneg (by omega) (by omega)
  have hw:IntKind.i64.wrap (G * S) = G * S:=IntWalk.i64_in _ (by omega)
  have hw1:IntKind.i64.wrap (2 + J) = 2 + J:=IntWalk.i64_in _ (by omega)
  have hw2:IntKind.i64.wrap (2 + J + G * S) = 2 + J + G * S:=IntWalk.i64_in _ (by omega)
  have c0:w1.cell? ⟨w.heap.size,0,none⟩ = some (.int .i64 G):=hA1.cell (i:=0) rfl
  have c1:w1.cell? ⟨w.heap.size,1,none⟩ = some (.int .i64 S):=hA1.cell (i:=1) rfl
  have c3:w1.cell? ⟨w.heap.size,3,none⟩ = some (.int .i64 J):=hA1.cell (i:=3) rfl
  clear hm h11
  go_wp2_with fail
  go_ret
  exact ⟨by rw [HN.out];rfl,hL1⟩
def isGr (G S I J k:Int):Bool:=mayG G S I J && (decide (0 ≤ k) && decide (k < G))
def stGr (G S I J k:Int):Int:=if isGr G S I J k then 2 + J + k * S else 0
theorem geoStart_any (G S I J k:Int) (w:World):Calls Tryz.prog 18 #[gval G S I J,.int .i64 k] w fun e w' => e = .returned (.tuple #[.int .i64 (stGr G S I J k),.bool (isGr G S I J k)]) ∧ Below w.heap.size w w':=by
 have HA:=Lib.hid (At.new w 23 (gcells G S I J))
 have HL:Hid (Below w.heap.size w (w.alloc (.cells (gcells G S I J) 23))):=(Below.refl _ _).alloc (Nat.le_refl _) _
 go_enter Tryz.func18,Tryz.ntmps18
 have hA:=HA.out
 go_wp2_with (first | (refine wp_loadAtG rfl 23 _ rfl _ _ _ rfl hA Tryz.underlying23 rfl (by kernel_rfl) ?_))
 refine (geoMay_any G S I J _).mono ?_
 rintro e w1 ⟨rfl,hb1⟩
 have hA1:=hA.below hb1 hA.lt
 have hL1:Below w.heap.size w w1:=HL.out.trans (hb1.mono HL.out.size)
 clear hA HA HL hb1
 have c0:w1.cell? ⟨w.heap.size,0,none⟩ = some (.int .i64 G):=hA1.cell (i:=0) rfl
 have c1:w1.cell? ⟨w.heap.size,1,none⟩ = some (.int .i64 S):=hA1.cell (i:=1) rfl
 have c3:w1.cell? ⟨w.heap.size,3,none⟩ = some (.int .i64 J):=hA1.cell (i:=3) rfl
 cases hm:mayG G S I J with
 | false =>
  have HN:Hid (isGr G S I J k = false):=by show _ = _;unfold isGr;rw [hm];rfl
  clear hm
  go_wp2_with fail
  go_ret2
  exact ⟨by unfold stGr;rw [HN.out];rfl,hL1⟩
 | true =>
  obtain ⟨h1,h2,h3,h4,h5,h6,h7,h8,h9,h10,h11⟩:=(mayG_iff G S I J).1 hm
  have HD:Hid (isGr G S I J k = (decide (0 ≤ k) && decide (k < G))):=by show _ = _;unfold isGr;rw [hm];rfl
  clear hm h11
  by_cases k0:k < 0
  ·have HN:Hid (isGr G S I J k = false):=by show _ = _;rw [HD.out];simp;omega
   have q0:decide (k < 0) = true:=decide_eq_true k0
   go_wp2_with fail
   go_ret2
   exact ⟨by unfold stGr;rw [HN.out];rfl,hL1⟩
  have q0:decide (k < 0) = false:=decide_eq_false k0
  by_cases k1:G ≤ k
  ·have HN:Hid (isGr G S I J k = false):=by show _ = _;rw [HD.out];simp;omega
   have q1:decide (G ≤ k) = true:=decide_eq_true k1
   go_wp2_with fail
   go_ret2
   exact ⟨by unfold stGr;rw [HN.out];rfl,hL1⟩
  have q1:decide (G ≤ k) = false:=decide_eq_false k1
  have HN:Hid (isGr G S I J k = true):=by show _ = _;rw [HD.out];simp;omega
  have hg0:0 ≤ k * S:=Int.mul_nonneg (by omega) (by omega)
  have hg1:k * S ≤ 4 * 512:=Int.mul_le_mul (by omega) h4 (by omega) (by omega)
  have hw:IntKind.i64.wrap (k * S) = k * S:=IntWalk.i64_in _ (by omega)
  have hw1:IntKind.i64.wrap (2 + J) = 2 + J:=IntWalk.i64_in _ (by omega)
  have hw2:IntKind.i64.wrap (2 + J + k * S) = 2 + J + k * S:=IntWalk.i64_in _ (by omega)
  go_wp2_with fail
  go_ret2
  exact ⟨by unfold stGr;rw [HN.out];rfl,hL1⟩
structure HoG (w:World) (G S I J:Int) (W:World):Prop where
 g:At W w.heap.size 23 (gcells G S I J)
 bel:Below w.heap.size w W
theorem info_block3:(Tryz.prog.info? 32).map (fun i => (i.zero,i.size,i.bytes)) = some (some (bval fun _ => 0),256,256):=by kernel_rfl
theorem run_mkimage (n:Nat) (hn:n ≤ 2048) (W:World):(Instr.makeSlice 29 (.int .i64 (n:Int)) (.int .i64 (n:Int))).run Tryz.prog W = .ok (.slice (some ⟨W.heap.size,0,none⟩) n n) (W.alloc (.cells (madeCells (bval fun _ => 0).cells (n * 256)) 32)) :=
 run_mkrow (P:=Tryz.prog) 29 32 (bval fun _ => 0) 256 256 Tryz.underlying29 info_block3 .i64 .i64 n (by omega) (by omega) W
theorem image_made (w:World) (n:Nat):RArr (w.alloc (.cells (madeCells (bval fun _ => 0).cells (n * 256)) 32)) w.heap.size 32 256 n (fun _ => Ks .u8 256 (fun _ => 0)) :=
 RArr.made (m:=256) w (Ks .u8 256 (fun _ => 0)).toArray (by simp [Ks]) (by omega) n 32
def rootI:Ino:=⟨2,1,1,0,fun _ => 0,0⟩
def rootZ:Nat → Int:=over (fun _ => 0) 0 64 rootI.byte
def dkB (G S I J:Int):Nat → Int:=fun _ => nDa G S I J
def dkI (I:Int):Nat → Int:=fun i => if i = 0 then I - 1 else I
def dkD:Nat → Int:=fun i => if i = 0 then 1 else 0
def mk0 (g s i j:Nat) (b:Nat):Nat → Int :=
 if b = 0 then supZ g s i j 0 else if b = 1 then descZ g s i j g (dkB g s i j) (dkI i) dkD else if b = 2 then headZ 1 0
 else if b < 2 + j then fun _ => 0
 else if (b - (2 + j)) % s = 0 then bZ (mapB (2 + i / 4) s)
 else if (b - (2 + j)) % s = 1 then bZ (mapB (if (b - (2 + j)) / s = 0 then 1 else 0) i)
 else fun _ => 0
def mkB (g s i j:Nat) (b:Nat):Nat → Int:=if b = 2 + j + 2 then rootZ else mk0 g s i j b
theorem mayN {g s i j:Nat} (hm:mayG g s i j = true):1 ≤ g ∧ g ≤ 4 ∧ 16 ≤ s ∧ s ≤ 512 ∧ 4 ≤ i ∧ i ≤ 64 ∧ i % 4 = 0 ∧ 40 ≤ j ∧ j ≤ 256 ∧ 3 + i / 4 ≤ s ∧ 2 + j + g * s ≤ 2048:=by
 obtain ⟨h1,h2,h3,h4,h5,h6,h7,h8,h9,h10,h11⟩:=(mayG_iff g s i j).1 hm
 have e:((g * s:Nat):Int) = (g:Int) * (s:Int):=Int.natCast_mul _ _
 rw [← e] at h11
 omega
theorem supOk0 {G S I J:Int} (hm:mayG G S I J = true):supOk G S I J 0 = true:=by
 have:=nIn_bd G S I J
 unfold supOk;rw [hm];simp;omega
theorem mkMayD {g s i j:Nat} (hm:mayG g s i j = true):mayD g s i j g (dkB g s i j) (dkI i) dkD = true:=by
 obtain ⟨h1,h2,h3,h4,h5,h6,h7,h8,h9,h10,h11⟩:=mayN hm
 have:=nDa_bd g s i j
 unfold mayD
 rw [Bool.and_eq_true,decide_eq_true_eq,allB_iff]
 refine ⟨rfl,fun k hk => (okD_iff _ _ _ _ _).2 ?_⟩
 unfold dkB dkI dkD
 by_cases e:k = 0
 ·rw [if_pos e,if_pos e];omega
 ·rw [if_neg e,if_neg e];omega
theorem descOk0 {g s i j:Nat} (hm:mayG g s i j = true):descOk g s i j g (dkB g s i j) (dkI i) dkD = true:=by
 unfold descOk;rw [hm,mkMayD hm];rfl
theorem rootOk:putOk 0 rootI = true:=by decide
theorem rootIsOk:rootI.Ok:=⟨by decide,by decide,by decide,by decide,fun i => ⟨Int.le_refl 0,(by decide:(0:Int) < 4294967296)⟩,by decide⟩
section
attribute [local go_sem] Oper.semAt_some
def frF (S t J:Int) (k:Nat):Int :=
 if k = 0 then 0 else if k = 1 then 1 else if k = 2 then 2 else
 2 + J + (((k - 3) / 4:Nat):Int) * S + (if (k - 3) % 4 = 0 then 0 else if (k - 3) % 4 = 1 then 1 else if (k - 3) % 4 = 2 then 2 else 2 + t)
theorem frF_at (S t J:Int) (γ:Nat) {i:Nat} (hi:i < 4):frF S t J (3 + 4 * γ + i) = 2 + J + (γ:Int) * S + (if i = 0 then 0 else if i = 1 then 1 else if i = 2 then 2 else 2 + t):=by
 have e1:(3 + 4 * γ + i - 3) % 4 = i:=by omega
 have e2:(3 + 4 * γ + i - 3) / 4 = γ:=by omega
 unfold frF
 rw [if_neg (by omega),if_neg (by omega),if_neg (by omega),e1,e2]
theorem frF_end (S t J:Int) (g:Nat):frF S t J (3 + 4 * g) = 2 + J + (g:Int) * S:=by
 have:=frF_at S t J g (i:=0) (by omega)
 rw [Nat.add_zero,if_pos rfl,Int.add_zero] at this
 exact this
theorem ptF_fr {g:Nat} {S t J:Int} (h1:16 ≤ S) (h2:S ≤ 512) (h3:0 ≤ t) (h4:3 + t ≤ S) (h5:40 ≤ J) (h6:J ≤ 256) (hg:g ≤ 4) (k:Nat) (hk:k < 3 + 4 * g) :
  ∃ K Gg Sz Pl:Int,ptF S t J k = pcells K Gg (frF S t J k) Sz Pl ∧ (0 ≤ frF S t J k ∧ 0 ≤ Sz ∧ 0 ≤ Pl ∧ Pl ≤ 512 ∧ frF S t J k + Sz ≤ 4000 ∧ 0 ≤ K ∧ K ≤ 7) ∧ frF S t J k + Sz = frF S t J (k + 1):=by
 have hgs1:(g:Int) * S ≤ 4 * 512:=Int.mul_le_mul (by omega) h2 (by omega) (by omega)
 by_cases c0:k = 0
 ·subst c0;exact ⟨1,0,1,0,rfl,by show (0:Int) ≤ 0 ∧ (0:Int) ≤ 1 ∧ (0:Int) ≤ 0 ∧ (0:Int) ≤ 512 ∧ (0:Int) + 1 ≤ 4000 ∧ (0:Int) ≤ 1 ∧ (1:Int) ≤ 7;decide,rfl⟩
 by_cases c1:k = 1
 ·subst c1;exact ⟨2,0,1,0,rfl,by show (0:Int) ≤ 1 ∧ (0:Int) ≤ 1 ∧ (0:Int) ≤ 0 ∧ (0:Int) ≤ 512 ∧ (1:Int) + 1 ≤ 4000 ∧ (0:Int) ≤ 2 ∧ (2:Int) ≤ 7;decide,rfl⟩
 by_cases c2:k = 2
 ·subst c2
  have:frF S t J 3 = 2 + J:=by have:=frF_end S t J 0;simpa using this
  exact ⟨3,0,J,0,rfl,by show (0:Int) ≤ 2 ∧ 0 ≤ J ∧ (0:Int) ≤ 0 ∧ (0:Int) ≤ 512 ∧ 2 + J ≤ 4000 ∧ (0:Int) ≤ 3 ∧ (3:Int) ≤ 7;omega,by rw [this];rfl⟩
 obtain ⟨γ,i,hi,rfl⟩:∃ γ i,i < 4 ∧ k = 3 + 4 * γ + i:=⟨(k - 3) / 4,(k - 3) % 4,by omega,by omega⟩
 have hm0:0 ≤ (γ:Int) * S:=Int.mul_nonneg (by omega) (by omega)
 have hm1:((γ:Int) + 1) * S ≤ (g:Int) * S:=Int.mul_le_mul_of_nonneg_right (by omega) (by omega)
 rw [Int.add_mul,Int.one_mul] at hm1
 have f0:=frF_at S t J γ (i:=0) (by omega)
 have f1:=frF_at S t J γ (i:=1) (by omega)
 have f2:=frF_at S t J γ (i:=2) (by omega)
 have f3:=frF_at S t J γ (i:=3) (by omega)
 have f4:frF S t J (3 + 4 * γ + 3 + 1) = 2 + J + (γ:Int) * S + S:=by
  have:=frF_end S t J (γ + 1)
  rw [show 3 + 4 * γ + 3 + 1 = 3 + 4 * (γ + 1) by omega,this,show ((γ + 1:Nat):Int) = (γ:Int) + 1 by omega,Int.add_mul,Int.one_mul]
  omega
 rw [ptF_at S t J γ hi]
 simp only [if_true,Nat.add_zero,Nat.reduceEqDiff,if_false,Int.add_zero] at f0 f1 f2 f3
 generalize (γ:Int) * S = a at *
 generalize (g:Int) * S = b at *
 have:i = 0 ∨ i = 1 ∨ i = 2 ∨ i = 3:=by omega
 rcases this with rfl | rfl | rfl | rfl
 ·rw [Nat.add_zero,show 3 + 4 * γ + 1 = 3 + 4 * γ + 1 from rfl,f0,f1]
  exact ⟨4,γ,1,0,rfl,by omega,by omega⟩
 ·rw [show 3 + 4 * γ + 1 + 1 = 3 + 4 * γ + 2 from rfl,f1,f2]
  refine ⟨5,γ,1,1,rfl,by omega,by omega⟩
 ·rw [show 3 + 4 * γ + 2 + 1 = 3 + 4 * γ + 3 from rfl,f2,f3]
  exact ⟨6,γ,t,2,rfl,by omega,by omega⟩
 ·rw [f3,f4]
  exact ⟨7,γ,S - 2 - t,2 + t,by rw [if_neg (by decide),if_neg (by decide),if_neg (by decide)];unfold pcells;rw [Int.add_assoc (2 + J + a)],by omega,by omega⟩
def WhatIs (G S I J x K A B:Int):Prop:=((mayG G S I J = false ∨ x < 0 ∨ nBl G S I J ≤ x) ∧ K = 0 ∧ A = 0 ∧ B = 0) ∨
 (mayG G S I J = true ∧ ∃ (k:Nat) (Sz Pl:Int),(k:Int) < 3 + 4 * G ∧ ptF S (I / 4) J k = pcells K A (frF S (I / 4) J k) Sz Pl ∧ frF S (I / 4) J k ≤ x ∧ x < frF S (I / 4) J (k + 1) ∧ B = Pl + x - frF S (I / 4) J k)
theorem what2_any (G S I J x:Int) (hx0:-9223372036854775808 ≤ x) (hx1:x ≤ 9223372036854775807) (w:World) :
  Calls Tryz.prog 17 #[gval G S I J,.int .i64 x] w fun e w' => ∃ K A B:Int,e = .returned (.tuple #[.int .u8 K,.int .i64 A,.int .i64 B]) ∧ WhatIs G S I J x K A B ∧ Below w.heap.size w w':=by
 refine (callsIn_wide (n:=5)).1 (callsIn_of_wp_marks Tryz.func17 rfl trivial ?_ rfl)
 refine wpIn_wide.2 ?_
 simp only [Tryz.ntmps17,List.size_toArray,List.length_cons,List.length_nil,Nat.reduceAdd,Nat.reduceSub,Array.replicate_succ,Array.replicate_zero,List.push_toArray,List.append_toArray,List.nil_append,List.cons_append]
 obtain ⟨W,hW⟩:∃ W,W = ((((w.alloc (.cells (gcells G S I J) 23)).alloc (.cells #[.int .i64 x] 3)).alloc (.cells #[.int .u8 0] 5)).alloc (.cells #[.int .i64 0] 3)).alloc (.cells #[.int .i64 0] 3):=⟨_,rfl⟩
 have st0:WhS w G S I J x 0 0 0 W:=by
  rw [hW]
  refine ⟨((((At.new w _ _).alloc _).alloc _).alloc _).alloc _,?_,?_,?_,?_,((((((Below.refl _ _).alloc (Nat.le_refl _) _).alloc (by simp) _).alloc (by simp;omega) _).alloc (by simp;omega) _).alloc (by simp;omega) _)⟩
  ·have:=(((At.new (w.alloc (.cells (gcells G S I J) 23)) 3 #[.int .i64 x]).alloc (.cells #[.int .u8 0] 5)).alloc (.cells #[.int .i64 0] 3)).alloc (.cells #[.int .i64 0] 3)
   simp only [World.size_alloc] at this;exact this
  ·have:=((At.new ((w.alloc (.cells (gcells G S I J) 23)).alloc (.cells #[.int .i64 x] 3)) 5 #[.int .u8 0]).alloc (.cells #[.int .i64 0] 3)).alloc (.cells #[.int .i64 0] 3)
   simp only [World.size_alloc] at this;exact this
  ·have:=(At.new (((w.alloc (.cells (gcells G S I J) 23)).alloc (.cells #[.int .i64 x] 3)).alloc (.cells #[.int .u8 0] 5)) 3 #[.int .i64 0]).alloc (.cells #[.int .i64 0] 3)
   simp only [World.size_alloc] at this;exact this
  ·have:=At.new ((((w.alloc (.cells (gcells G S I J) 23)).alloc (.cells #[.int .i64 x] 3)).alloc (.cells #[.int .u8 0] 5)).alloc (.cells #[.int .i64 0] 3)) 3 #[.int .i64 0]
   simp only [World.size_alloc] at this;exact this
 have HW:=Lib.hid hW
 have hg0:=st0.g
 rw [hW] at hg0
 have ST0:=Lib.hid st0
 clear hW st0
 go_wp2_with (first | (refine wp_loadAtG rfl 23 (.tmp 2) rfl _ _ _ rfl hg0 Tryz.underlying23 rfl (by kernel_rfl) ?_))
 rw [← HW.out]
 clear HW hg0
 refine (geoMay_any G S I J W).mono ?_
 rintro e w1 ⟨rfl,hb1⟩
 have ST1:=Lib.hid (ST0.out.below hb1)
 clear ST0 hb1
 have cx:w1.cell? ⟨w.heap.size + 1,0,none⟩ = some (.int .i64 x):=ST1.out.x.cell (i:=0) rfl
 have c2:w1.cell? ⟨w.heap.size + 1 + 1,0,none⟩ = some (.int .u8 0):=ST1.out.k.cell (i:=0) rfl
 have c3:w1.cell? ⟨w.heap.size + 1 + 1 + 1,0,none⟩ = some (.int .i64 0):=ST1.out.a.cell (i:=0) rfl
 have c4:w1.cell? ⟨w.heap.size + 1 + 1 + 1 + 1,0,none⟩ = some (.int .i64 0):=ST1.out.b.cell (i:=0) rfl
 have f2:w1.frozen? ⟨w.heap.size + 1 + 1,0,none⟩ = false:=soft_of_heap ST1.out.k 0
 have f3:w1.frozen? ⟨w.heap.size + 1 + 1 + 1,0,none⟩ = false:=soft_of_heap ST1.out.a 0
 have f4:w1.frozen? ⟨w.heap.size + 1 + 1 + 1 + 1,0,none⟩ = false:=soft_of_heap ST1.out.b 0
 cases hm:mayG G S I J with
 | false =>
  have HO:Hid (WhatIs G S I J x 0 0 0):=.inl ⟨.inl hm,rfl,rfl,rfl⟩
  clear hm
  go_wp2_with fail
  have hst:=((ST1.out.setK 0).setA 0).setB 0
  have r2:=hst.k.cell (i:=0) (v:=.int .u8 0) rfl
  have r3:=hst.a.cell (i:=0) (v:=.int .i64 0) rfl
  have r4:=hst.b.cell (i:=0) (v:=.int .i64 0) rfl
  refine bodyPostM_early (v:=.tuple #[.int .u8 0,.int .i64 0,.int .i64 0]) ?_ ⟨0,0,0,rfl,HO.out,hst.bel⟩
  simp only [Nat.add_assoc,Nat.reduceAdd] at *
  simp [results,Tryz.f17,go_sem,r2,r3,r4]
 | true =>
 have HM:=Lib.hid hm
 clear hm
 by_cases hneg:x < 0
 ·have HO:Hid (WhatIs G S I J x 0 0 0):=.inl ⟨.inr (.inl hneg),rfl,rfl,rfl⟩
  go_wp2_with fail
  have hst:=((ST1.out.setK 0).setA 0).setB 0
  have r2:=hst.k.cell (i:=0) (v:=.int .u8 0) rfl
  have r3:=hst.a.cell (i:=0) (v:=.int .i64 0) rfl
  have r4:=hst.b.cell (i:=0) (v:=.int .i64 0) rfl
  refine bodyPostM_early (v:=.tuple #[.int .u8 0,.int .i64 0,.int .i64 0]) ?_ ⟨0,0,0,rfl,HO.out,hst.bel⟩
  simp only [Nat.add_assoc,Nat.reduceAdd] at *
  simp [results,Tryz.f17,go_sem,r2,r3,r4]
 have hg1:=ST1.out.g
 clear c2 c3 c4 f2 f3 f4
 go_wp2_with (first | (refine wp_loadAtG rfl 23 (.tmp 2) rfl _ _ _ rfl hg1 Tryz.underlying23 rfl (by kernel_rfl) ?_))
 refine (parts_any G S I J w1).mono ?_
 rintro e w2 ⟨rfl,hA2,hb2⟩
 have ST2:=Lib.hid (ST1.out.below hb2)
 have hB1:=ST1.out.sz
 have hB2:=hA2.lt
 clear ST1 hg1 cx hb2
 generalize w1.heap.size = B at *
 clear w1
 obtain ⟨h1,h2,h3,h4,h5,h6,h7,h8,h9,h10,h11⟩:=(mayG_iff G S I J).1 HM.out
 obtain ⟨g,rfl⟩:∃ g:Nat,G = (g:Int):=⟨G.toNat,by omega⟩
 have hnb:nBl (g:Int) S I J = 2 + J + (g:Int) * S:=by unfold nBl;rw [HM.out];rfl
 go_wp2_with fail
 apply wp_rangeIx4 (gf:=90) (lb:=#[.pointer (some ⟨B,0,none⟩)]) rfl (enters_of Tryz.func90 (by kernel_rfl) rfl)
  (parts_iter 4 (by decide) B g S I J HM.out) (fun k => rfl) 117 (fun k => ptF S (I / 4) J k)
  (fun k W => Hid (frF S (I / 4) J k ≤ x) ∧ WhS w g S I J x 0 0 0 W)
  (fun c k W => c = .ret ∧ ∃ K A B,Hid (WhatIs g S I J x K A B) ∧ WhS w g S I J x K A B W)
  (fun k => (LocalP.pure _ _).and (WhS.loc (by omega)))
  (fun c k => (LocalP.pure _ _).and (LocalP.ex fun K => LocalP.ex fun A => LocalP.ex fun B => (LocalP.pure _ _).and (WhS.loc (by omega))))
  (fun k => LocalP.at _ _ hB2)
  ⟨(show (0:Int) ≤ x by omega),ST2.out⟩ hA2
 case assign =>
  intro l k W K hk hK
  dsimp only
  have HF:=Lib.hid (ptF_form (g:=g) (t:=I / 4) h3 h4 (by omega) h10 h8 h9 (by omega) k (by rwa [Int.toNat_natCast] at hk))
  have hcsz:(ptF S (I / 4) J k).size = 5:=by obtain ⟨K',Gg,Fr,Sz,Pl,he,_⟩:=HF.out;rw [he];rfl
  have hc1:(ptF S (I / 4) J k).all (·.oneCell') = true:=by obtain ⟨K',Gg,Fr,Sz,Pl,he,_⟩:=HF.out;rw [he];exact all_p _ _ _ _ _
  have hinf:(Tryz.prog.info? 117).map (·.size) = some (ptF S (I / 4) J k).size:=by rw [hcsz];exact info_part
  have hA:=At.new W 117 (pcells 0 0 0 0 0)
  have hal:=zero_part
  have hs0:(pcells 0 0 0 0 0).size = (ptF S (I / 4) J k).size:=by rw [hcsz];rfl
  clear hcsz hk
  gi_wp2_with (first | (refine wpIn_storeAt rfl 117 (.tmp 7) (.tmp 17) rfl W.heap.size (ptF S (I / 4) J k) (pcells 0 0 0 0 0) rfl rfl hA hinf hs0 hc1 ?_))
  intro w4 hA4 ho4
  have hb:=storedP ho4
  clear ho4 hA
  obtain ⟨p,hp⟩:∃ p,p = W.heap.size:=⟨_,rfl⟩
  rw [← hp] at hA4 ⊢
  gi_wp2
  exact hK p w4 hp hb hA4
 case body =>
  rintro l k p W hk ⟨HP,st⟩ hn hp
  rw [Int.toNat_natCast] at hk
  obtain ⟨K,Gg,Sz,Pl,he,⟨b1,b2,b4,b5,b6,b7,b8⟩,hcase⟩:=ptF_fr (g:=g) (t:=I / 4) h3 h4 (by omega) h10 h8 h9 (by omega) k hk
  have HE:=Lib.hid he
  obtain ⟨Fr,hFr⟩:∃ Fr,frF S (I / 4) J k = Fr:=⟨_,rfl⟩
  have HFR:=Lib.hid hFr
  rw [hFr] at he hcase b1 b6 HP HE
  clear hFr
  rw [he] at hp
  have HC:=Lib.hid hcase
  have cx:W.cell? ⟨w.heap.size + 1,0,none⟩ = some (.int .i64 x):=st.x.cell (i:=0) rfl
  have p2:W.cell? ⟨p,2,none⟩ = some (.int .i64 Fr):=hp.cell (i:=2) rfl
  have p3:W.cell? ⟨p,3,none⟩ = some (.int .i64 Sz):=hp.cell (i:=3) rfl
  have e0:IntKind.i64.wrap (Fr + Sz) = Fr + Sz:=IntWalk.i64_in _ (by omega)
  have ST:=Lib.hid st
  have HN:=Lib.hid hn
  have HPP:=Lib.hid hp
  clear hcase st hn hp
  by_cases hlt:x < Fr + Sz
  ·have HO:Hid (WhatIs g S I J x K Gg (Pl + x - Fr)):=.inr ⟨HM.out,k,Sz,Pl,by omega,by rw [HFR.out];exact HE.out,by rw [HFR.out];exact HP.out,by rw [← HC.out];exact hlt,by rw [HFR.out]⟩
   have e1:IntKind.i64.wrap (Pl + x) = Pl + x:=IntWalk.i64_in _ (by omega)
   have e2:IntKind.i64.wrap (Pl + x - Fr) = Pl + x - Fr:=IntWalk.i64_in _ (by omega)
   gi_wp2
   refine Mv.wpIn_region_mc (WhC w g S I J x K Gg (Pl + x - Fr) p (pcells K Gg Fr Sz Pl) w2.heap.size W) ⟨0,undef⟩ (by kernel_rfl) (by kernel_rfl) (by kernel_rfl) (by kernel_rfl) ?_ ?_
   ·exact ⟨⟨ST.out.g,ST.out.x,ST.out.k,ST.out.a,ST.out.b,ST.out.bel.drew⟩,HPP.out,drewN_keeps W 1⟩
   intro hne
   have hp0:∀ y:InW (fun W' => ∃ s,WhC w g S I J x K Gg (Pl + x - Fr) p (pcells K Gg Fr Sz Pl) w2.heap.size W s W'),y.W.cell? ⟨p,0,none⟩ = some (.int .u8 K):=fun y => by obtain ⟨s,h⟩:=y.h;exact h.p.cell (i:=0) rfl
   have hp1:∀ y:InW (fun W' => ∃ s,WhC w g S I J x K Gg (Pl + x - Fr) p (pcells K Gg Fr Sz Pl) w2.heap.size W s W'),y.W.cell? ⟨p,1,none⟩ = some (.int .i64 Gg):=fun y => by obtain ⟨s,h⟩:=y.h;exact h.p.cell (i:=1) rfl
   have hp2:∀ y:InW (fun W' => ∃ s,WhC w g S I J x K Gg (Pl + x - Fr) p (pcells K Gg Fr Sz Pl) w2.heap.size W s W'),y.W.cell? ⟨p,2,none⟩ = some (.int .i64 Fr):=fun y => by obtain ⟨s,h⟩:=y.h;exact h.p.cell (i:=2) rfl
   have hp4:∀ y:InW (fun W' => ∃ s,WhC w g S I J x K Gg (Pl + x - Fr) p (pcells K Gg Fr Sz Pl) w2.heap.size W s W'),y.W.cell? ⟨p,4,none⟩ = some (.int .i64 Pl):=fun y => by obtain ⟨s,h⟩:=y.h;exact h.p.cell (i:=4) rfl
   have hpx:∀ y:InW (fun W' => ∃ s,WhC w g S I J x K Gg (Pl + x - Fr) p (pcells K Gg Fr Sz Pl) w2.heap.size W s W'),y.W.cell? ⟨w.heap.size + 1,0,none⟩ = some (.int .i64 x):=fun y => by obtain ⟨s,h⟩:=y.h;exact h.s.x.cell (i:=0) rfl
   (refine Mv.lin_take 11 (by kernel_rfl) ?_;simp only [List.take_succ_cons,List.take_zero,List.drop_succ_cons,List.drop_zero])
   first | go_big_quiet_skip | (go_big_quiet_want;go_big_quiet_op;go_big_quiet_on)
   first | go_big_quiet_skip | (go_big_quiet_want;go_big_quiet_op;go_big_quiet_on)
   first | go_big_quiet_skip | (go_big_quiet_want;go_big_quiet_op;go_big_quiet_on)
   first | go_big_quiet_skip | (go_big_quiet_want;go_big_quiet_op;go_big_quiet_on)
   first | go_big_quiet_skip | (go_big_quiet_want;go_big_quiet_op;go_big_quiet_on)
   first | go_big_quiet_skip | (go_big_quiet_want;go_big_quiet_op;go_big_quiet_on)
   first | go_big_quiet_skip | (go_big_quiet_want;go_big_quiet_op;go_big_quiet_on)
   first | go_big_quiet_skip | (go_big_quiet_want;go_big_quiet_op;go_big_quiet_on)
   first | go_big_quiet_skip | (go_big_quiet_want;go_big_quiet_op;go_big_quiet_on)
   first | go_big_quiet_skip | (go_big_quiet_want;go_big_quiet_op;go_big_quiet_on)
   first | go_big_quiet_skip | (go_big_quiet_want;go_big_quiet_op;go_big_quiet_on)
   refine wpQuiet_nil ?_
   refine Mv.lin_store1 rfl 5 (.tmp 4) (.tmp 26) rfl (w.heap.size + 1 + 1) 0 (.int .u8 K) rfl rfl info_u8 rfl ⟨1,undef⟩ (fun W' hW => ⟨⟨_,hW.s.k.cell (i:=0) rfl⟩,soft_of_heap hW.s.k 0,hW.s1⟩) ?_
   refine Mv.frame (by simp only [Act.put];exact rfl) ?_
   refine Mv.lin_store1 rfl 3 (.tmp 5) (.tmp 28) rfl (w.heap.size + 1 + 1 + 1) 0 (.int .i64 Gg) rfl rfl info_i64 rfl ⟨2,undef⟩ (fun W' hW => ⟨⟨_,hW.s.a.cell (i:=0) rfl⟩,soft_of_heap hW.s.a 0,hW.s2⟩) ?_
   refine Mv.frame (by simp only [Act.put];exact rfl) ?_
   refine Mv.lin_store1 rfl 3 (.tmp 6) (.tmp 35) rfl (w.heap.size + 1 + 1 + 1 + 1) 0 (.int .i64 (Pl + x - Fr)) rfl rfl info_i64 rfl ⟨3,undef⟩ (fun W' hW => ⟨⟨_,hW.s.b.cell (i:=0) rfl⟩,soft_of_heap hW.s.b 0,hW.s3⟩) ?_
   refine Mv.frame (by simp only [Act.put];exact rfl) ?_
   refine Mv.wpLin_nil ?_
   intro W5 h5
   clear hne hp0 hp1 hp2 hp4 hpx
   gi_wp2
   exact ⟨h5.keep,rfl,K,Gg,_,HO,h5.s⟩
  ·have hpast:Hid (frF S (I / 4) J (k + 1) ≤ x):=by show _ ≤ _;rw [← HC.out];omega
   gi_wp2
   exact ⟨KeepsFrom.refl _ _,⟨hpast,ST.out⟩,HN.out⟩
 case done =>
  rintro D W hD ⟨HP,st⟩ hK
  have HO:Hid (WhatIs g S I J x 0 0 0):=.inl ⟨.inr (.inr (by
   have:=HP.out
   rw [Int.toNat_natCast,frF_end] at this
   rw [hnb];exact this)),rfl,rfl,rfl⟩
  have c2:W.cell? ⟨w.heap.size + 1 + 1,0,none⟩ = some (.int .u8 0):=st.k.cell (i:=0) rfl
  have c3:W.cell? ⟨w.heap.size + 1 + 1 + 1,0,none⟩ = some (.int .i64 0):=st.a.cell (i:=0) rfl
  have c4:W.cell? ⟨w.heap.size + 1 + 1 + 1 + 1,0,none⟩ = some (.int .i64 0):=st.b.cell (i:=0) rfl
  have f2:W.frozen? ⟨w.heap.size + 1 + 1,0,none⟩ = false:=soft_of_heap st.k 0
  have f3:W.frozen? ⟨w.heap.size + 1 + 1 + 1,0,none⟩ = false:=soft_of_heap st.a 0
  have f4:W.frozen? ⟨w.heap.size + 1 + 1 + 1 + 1,0,none⟩ = false:=soft_of_heap st.b 0
  have ST:=Lib.hid st
  have HK:=Lib.hid hK
  clear st hK
  go_wp2_with fail
  have hst:=((ST.out.setK 0).setA 0).setB 0
  have hKD:=((((Only.setCell _ _ _).block D (by simp;omega)).trans (((Only.setCell _ _ _).block D (by simp;omega)).trans ((Only.setCell W ⟨w.heap.size + 2,0,none⟩ (.int .u8 0)).block D (by simp;omega)))).trans HK.out:((((W.setCell ⟨w.heap.size + 2,0,none⟩ (.int .u8 0)).setCell ⟨w.heap.size + 3,0,none⟩ (.int .i64 0)).setCell ⟨w.heap.size + 4,0,none⟩ (.int .i64 0))).heap[D]? = some (.deferred (some [])))
  have r2:=cell_putObj (D:=D) (o':=.deferred none) hKD rfl (hst.k.cell (i:=0) (v:=.int .u8 0) rfl)
  have r3:=cell_putObj (D:=D) (o':=.deferred none) hKD rfl (hst.a.cell (i:=0) (v:=.int .i64 0) rfl)
  have r4:=cell_putObj (D:=D) (o':=.deferred none) hKD rfl (hst.b.cell (i:=0) (v:=.int .i64 0) rfl)
  refine bodyPostM_done (v:=.tuple #[.int .u8 0,.int .i64 0,.int .i64 0]) (D:=D) hKD ?_ ⟨0,0,0,rfl,HO.out,below_putObj hst.bel _ (Nat.le_refl _) (by omega)⟩
  simp only [Nat.add_assoc,Nat.reduceAdd] at *
  simp [results,Tryz.f17,go_sem,r2,r3,r4]
 case stop =>
  rintro D c k W hD hk ⟨rfl,K,A,B',HO,st⟩ hK
  have ST:=Lib.hid st
  have HK:=Lib.hid hK
  clear st hK
  go_wp2_with fail
  have r2:=cell_putObj (D:=D) (o':=.deferred none) HK.out rfl (ST.out.k.cell (i:=0) (v:=.int .u8 K) rfl)
  have r3:=cell_putObj (D:=D) (o':=.deferred none) HK.out rfl (ST.out.a.cell (i:=0) (v:=.int .i64 A) rfl)
  have r4:=cell_putObj (D:=D) (o':=.deferred none) HK.out rfl (ST.out.b.cell (i:=0) (v:=.int .i64 B') rfl)
  refine bodyPostM_done (v:=.tuple #[.int .u8 K,.int .i64 A,.int .i64 B']) (D:=D) HK.out ?_ ⟨K,A,B',rfl,HO.out,below_putObj ST.out.bel _ (Nat.le_refl _) (by omega)⟩
  simp only [Nat.add_assoc,Nat.reduceAdd] at *
  simp [results,Tryz.f17,go_sem,r2,r3,r4]
end
def sz:Nat → Int:=supZ 2 16 8 40 7
theorem supZ_byt (G S I J O:Int):Byt (supZ G S I J O):=by
 unfold supZ;split
 ·exact sealZ_byt (hz_byt _)
 ·intro i;show (0:Int) ≤ 0 ∧ (0:Int) < 256;decide
theorem descZ_byt (G S I J:Int) (n:Nat) (b i d:Nat → Int):Byt (descZ G S I J n b i d):=by
 unfold descZ;split
 ·exact sealZ_byt (hz_byt _)
 ·intro i;show (0:Int) ≤ 0 ∧ (0:Int) < 256;decide
theorem mkB_group {g s i j γ d:Nat} (hs:16 ≤ s) (hj:40 ≤ j) (hd:d < s) :
  mkB g s i j (2 + j + γ * s + d) = if γ = 0 ∧ d = 2 then rootZ else if d = 0 then bZ (mapB (2 + i / 4) s) else if d = 1 then bZ (mapB (if γ = 0 then 1 else 0) i) else fun _ => 0:=by
 have hsub:2 + j + γ * s + d - (2 + j) = s * γ + d:=by rw [Nat.mul_comm];omega
 have hmod:(2 + j + γ * s + d - (2 + j)) % s = d:=by rw [hsub,Nat.mul_add_mod,Nat.mod_eq_of_lt hd]
 have hdiv:(2 + j + γ * s + d - (2 + j)) / s = γ:=by rw [hsub,Nat.mul_add_div (by omega),Nat.div_eq_of_lt hd];rfl
 unfold mkB mk0
 by_cases e:γ = 0 ∧ d = 2
 ·obtain ⟨rfl,rfl⟩:=e
  rw [if_pos (by omega),if_pos ⟨rfl,rfl⟩]
 ·rw [if_neg e,hmod,hdiv]
  have e2:¬ 2 + j + γ * s + d = 2 + j + 2:=by
   intro h
   apply e
   rcases Nat.eq_zero_or_pos γ with rfl | hγ
   ·exact ⟨rfl,by omega⟩
   ·have:1 * s ≤ γ * s:=Nat.mul_le_mul_right s hγ
    omega
  rw [if_neg e2,if_neg (by omega),if_neg (by omega),if_neg (by omega),if_neg (by omega)]
theorem mkB_head {g s i j b:Nat} (hj:40 ≤ j) (h:3 ≤ b) (hb:b < 2 + j):mkB g s i j b = fun _ => 0:=by
 unfold mkB mk0
 rw [if_neg (by omega),if_neg (by omega),if_neg (by omega),if_neg (by omega),if_pos hb]
theorem mkB_0 {g s i j:Nat} (hj:40 ≤ j):mkB g s i j 0 = supZ g s i j 0:=by unfold mkB mk0;rw [if_neg (by omega),if_pos rfl]
theorem mkB_1 {g s i j:Nat} (hj:40 ≤ j):mkB g s i j 1 = descZ g s i j g (dkB g s i j) (dkI i) dkD:=by unfold mkB mk0;rw [if_neg (by omega),if_neg (by omega),if_pos rfl]
theorem mkB_2 {g s i j:Nat} (hj:40 ≤ j):mkB g s i j 2 = headZ 1 0:=by unfold mkB mk0;rw [if_neg (by omega),if_neg (by omega),if_neg (by omega),if_pos rfl]
theorem zero_byt:Byt (fun _ => 0):=fun _ => ⟨Int.le_refl 0,(by decide:(0:Int) < 256)⟩
theorem headZ_byt (s t:Int):Byt (headZ s t):=by
 unfold headZ;split
 ·exact wz_byt _
 ·exact zero_byt
theorem rootI_byt:Byt rootI.byte:=by
 intro i
 unfold Ino.byte
 repeat (first | split | exact byteOf_bd _ _ | exact ⟨by decide,by decide⟩)
theorem mkB_byt (g s i j b:Nat):Byt (mkB g s i j b):=by
 unfold mkB mk0
 repeat (first | split | exact byt_over zero_byt rootI_byt _ _ | exact supZ_byt _ _ _ _ _ | exact descZ_byt _ _ _ _ _ _ _ _ | exact headZ_byt _ _ | exact zero_byt | exact bZ_byt _)
def kdP (s i:Nat) (K γ:Int):Nat → Bool:=if K = 4 then mapB (2 + i / 4) s else if K = 5 then mapB (if γ = 0 then 1 else 0) i else fun _ => false
def rfB (g s i j b:Nat) (K γ O:Int):Nat → Int :=
 if b = 0 then supZ g s i j 0 else if b = 1 then descZ g s i j g (dkB g s i j) (dkI i) dkD else if b = 2 then headZ 1 0
 else if O = 1 then over (bZ (kdP s i K γ)) 0 64 rootI.byte else bZ (kdP s i K γ)
theorem bZ_no:bZ (fun _ => false) = fun _ => 0:=funext bZ_none
theorem kdP_4 {s i:Nat} {γ:Int}:kdP s i 4 γ = mapB (2 + i / 4) s:=rfl
theorem kdP_5 {s i:Nat} {γ:Int}:kdP s i 5 γ = mapB (if γ = 0 then 1 else 0) i:=by unfold kdP;rw [if_neg (by decide),if_pos rfl]
theorem kdP_no {s i:Nat} {K γ:Int} (h4:K ≠ 4) (h5:K ≠ 5):kdP s i K γ = fun _ => false:=by unfold kdP;rw [if_neg h4,if_neg h5]
theorem thF_mk {g s i j b:Nat} (hm:mayG g s i j = true) (hb:b < 2 + j + g * s) :
  ∃ K γ A O:Int,thF s (i / 4) j b = tv K γ A O ∧ (1 ≤ K ∧ K ≤ 7) ∧ rfB g s i j b K γ O = mkB g s i j b:=by
 obtain ⟨h1,h2,h3,h4,h5,h6,h7,h8,h9,h10,h11⟩:=mayN hm
 by_cases b0:b = 0
 ·subst b0
  exact ⟨1,0,0,0,rfl,by omega,by rw [mkB_0 h8];rfl⟩
 by_cases b1:b = 1
 ·subst b1
  exact ⟨2,0,0,0,rfl,by omega,by rw [mkB_1 h8];rfl⟩
 by_cases b2:b = 2
 ·subst b2
  refine ⟨3,0,((2:Nat):Int) - 2,0,?_,by omega,by rw [mkB_2 h8];rfl⟩
  unfold thF;rw [if_neg (by omega),if_neg (by omega),if_pos (by omega)]
 have hrf:∀ K γ O,rfB g s i j b K γ O = if O = 1 then over (bZ (kdP s i K γ)) 0 64 rootI.byte else bZ (kdP s i K γ):=fun K γ O => by
  unfold rfB;rw [if_neg b0,if_neg b1,if_neg b2]
 by_cases bj:b < 2 + j
 ·refine ⟨3,0,(b:Int) - 2,0,?_,by omega,?_⟩
  ·unfold thF;rw [if_neg b0,if_neg b1,if_pos bj]
  ·rw [hrf,if_neg (by decide),kdP_no (by decide) (by decide),bZ_no,mkB_head h8 (by omega) bj]
 obtain ⟨d,hd⟩:∃ d,d = b - (2 + j):=⟨_,rfl⟩
 have hdm:=Nat.div_add_mod d s
 have hml:=Nat.mod_lt d (show s > 0 by omega)
 have hmk:mkB g s i j b = if d = 2 then rootZ else if d % s = 0 then bZ (mapB (2 + i / 4) s) else if d % s = 1 then bZ (mapB (if d / s = 0 then 1 else 0) i) else fun _ => 0:=by
  unfold mkB mk0
  rw [← hd,if_neg b0,if_neg b1,if_neg b2,if_neg bj]
  by_cases e:d = 2
  ·rw [if_pos e,if_pos (by omega)]
  ·rw [if_neg e,if_neg (by omega)]
 have hth:thF s (i / 4) j b = if d % s = 0 then tv 4 (d / s:Nat) 0 0 else if d % s = 1 then tv 5 (d / s:Nat) 1 0 else
   if d % s < 2 + i / 4 then tv 6 (d / s:Nat) (d % s:Nat) (1 + (d / s:Nat) * (4 * ((i / 4:Nat):Int)) + 4 * ((d % s:Nat) - 2)) else tv 7 (d / s:Nat) (d % s:Nat) 0:=by
  unfold thF;rw [if_neg b0,if_neg b1,if_neg bj,← hd]
 by_cases m0:d % s = 0
 ·refine ⟨4,(d / s:Nat),0,0,by rw [hth,if_pos m0],by omega,?_⟩
  have:d ≠ 2:=fun e => by rw [e,Nat.mod_eq_of_lt (by omega)] at m0;omega
  rw [hrf,if_neg (by decide),kdP_4,hmk,if_neg this,if_pos m0]
 by_cases m1:d % s = 1
 ·refine ⟨5,(d / s:Nat),1,0,by rw [hth,if_neg m0,if_pos m1],by omega,?_⟩
  have:d ≠ 2:=fun e => by rw [e,Nat.mod_eq_of_lt (by omega)] at m1;omega
  rw [hrf,if_neg (by decide),kdP_5,hmk,if_neg this,if_neg m0,if_pos m1]
  by_cases e:d / s = 0
  ·rw [if_pos e,if_pos (by omega)]
  ·rw [if_neg e,if_neg (by omega)]
 by_cases mi:d % s < 2 + i / 4
 ·refine ⟨6,_,_,_,by rw [hth,if_neg m0,if_neg m1,if_pos mi],by omega,?_⟩
  rw [hrf,kdP_no (by decide) (by decide),bZ_no,hmk]
  by_cases e:d = 2
  ·have e1:d / s = 0:=by rw [e,Nat.div_eq_of_lt (by omega)]
   have e2:d % s = 2:=by rw [e,Nat.mod_eq_of_lt (by omega)]
   rw [if_pos e,if_pos (by rw [e1,e2];simp)];rfl
  ·rw [if_neg e,if_neg m0,if_neg m1,if_neg ?_]
   intro hO
   have ht:1 ≤ i / 4:=by omega
   by_cases e1:d / s = 0
   ·rw [e1,Nat.mul_zero] at hdm
    rw [e1] at hO
    simp at hO
    omega
   ·have h1':(1:Int) * (4 * ((i / 4:Nat):Int)) ≤ ((d / s:Nat):Int) * (4 * ((i / 4:Nat):Int)):=Int.mul_le_mul_of_nonneg_right (by have:=Nat.one_le_iff_ne_zero.2 e1;exact_mod_cast this) (by omega)
    generalize ((d / s:Nat):Int) * (4 * ((i / 4:Nat):Int)) = X at h1' hO
    omega
 ·refine ⟨7,_,_,0,by rw [hth,if_neg m0,if_neg m1,if_neg mi],by omega,?_⟩
  have:d ≠ 2:=fun e => by rw [e,Nat.mod_eq_of_lt (by omega)] at mi;omega
  rw [hrf,if_neg (by decide),kdP_no (by decide) (by decide),bZ_no,hmk,if_neg this,if_neg m0,if_neg m1]
theorem Cs_head (f:Nat → List Value):∀ n,1 ≤ n → Cs f n = f 0 ++ Cs (fun k => f (1 + k)) (n - 1):=fun n hn => by
 have:=Cs_cat f 1 (n - 1)
 rw [show 1 + (n - 1) = n by omega] at this
 rw [← this];rfl
theorem Cs_desc0 (B:Int) (i n:Nat) (hn:1 ≤ n):((Cs (df (fun _ => B) (fun _ => (i:Int)) (fun _ => 0)) n).set 1 (.int .i64 ((i:Int) - 1))).set 2 (.int .i64 1) = Cs (df (fun _ => B) (dkI (i:Int)) dkD) n:=by
 rw [Cs_head _ n hn,Cs_head (df (fun _ => B) (dkI (i:Int)) dkD) n hn]
 have:Cs (fun k => df (fun _ => B) (fun _ => (i:Int)) (fun _ => 0) (1 + k)) (n - 1) = Cs (fun k => df (fun _ => B) (dkI (i:Int)) dkD (1 + k)) (n - 1):=Cs_congr fun k _ => by
  unfold df dkI dkD;rw [if_neg (by omega),if_neg (by omega)]
 rw [this]
 rfl
end Go.Proofs.YtphamecphmbipaaGreatDoor
