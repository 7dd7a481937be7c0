/- Texts of this claim, merged by a program (a claim may have 60 files): MkB, Geo4, MkC, MkD, Geo5. -/
import Derived.Test.YtnbmmhoofilmfaaGreatDoorK16
import Derived.Test.YtnbmmhoofilmfaaGreatDoorK10
import Derived.Test.YtnbmmhoofilmfaaGreatDoorK06
import Derived.Test.YtnbmmhoofilmfaaGreatDoorK08
import Derived.Test.YtnbmmhoofilmfaaGreatDoorK05
/- mkfs.Make$1: the closure that writes a block of the image. -/
namespace Go.Proofs.YtnbmmhoofilmfaaGreatDoor
open Go.RowKit
set_option linter.unusedVariables false

set_option maxRecDepth 100000 in
set_option maxHeartbeats 2000000 in
theorem mkWrite_any (p1 p2 q n : Nat) (f : Nat → Nat → Int) (b : Nat) (hb : b < n) (hn : n ≤ 2048) (z : Nat → Int) (w : World) (hi : At w p2 29 #[.slice (some ⟨q, 0, none⟩) n n])
    (ha : RArr w q 32 256 n (fun i => Ks .u8 256 (f i))) :
    Calls Tryz.prog 64 #[.int .i64 (b : Int), bval z, .int .i64 0, .pointer (some ⟨p1, 0, none⟩), .pointer (some ⟨p2, 0, none⟩)] w fun e w' => (∃ v, e = .returned v) ∧
      RArr w' q 32 256 n (fun i => Ks .u8 256 (if i = b then z else f i)) ∧ ∃ W1, Below w.heap.size w W1 ∧ Only q W1 w' := by
  have hB := Blk.new w 32 256 z
  have hL : Hid (Below w.heap.size w (w.alloc (.cells (Ks .u8 256 z).toArray 32))) := (Below.refl _ _).alloc (Nat.le_refl _) _
  have hA1 := ha.alloc (.cells (Ks .u8 256 z).toArray 32)
  have hc : (w.alloc (.cells (Ks .u8 256 z).toArray 32)).cell? ⟨p2, 0, none⟩ = some (.slice (some ⟨q, 0, none⟩) n n) := (hi.alloc _).cell (i := 0) rfl
  have hth := hA1.there hb
  have hset := Lib.hid (hA1.set hb (vs := Ks .u8 256 z) (by simp [Ks]) (fun i => by simp [Ks]))
  have b1 : (b : Int) < (n : Int) := by omega
  have b0 : (0 : Int) ≤ (b : Int) := by omega
  clear hi ha
  go_enter Tryz.func64, Tryz.ntmps64
  go_wp2_with (first | (refine wp_loadBlkG rfl (.tmp 6) rfl w.heap.size z rfl hB ?_) | (refine wpList_store_mid rfl 32 (.tmp 16) (.tmp 15) rfl q (b * 256) (Ks .u8 256 z).toArray rfl rfl (by simpa [Ks] using hth) (info_block' _) (Ks_one _ _ _) ?_))
  refine bodyPost_end (results_none rfl _ _ _) rfl ⟨⟨_, rfl⟩, hset.out.1.congr fun i _ => ?_, _, hL.out, hset.out.2⟩
  by_cases e : i = b
  · rw [if_pos e, if_pos e]
  · rw [if_neg e, if_neg e]
end Go.Proofs.YtnbmmhoofilmfaaGreatDoor

/- geo.Home, geo.Inode at the first inode. -/
namespace Go.Proofs.YtnbmmhoofilmfaaGreatDoor
open Go.RowKit
set_option linter.unusedVariables false
structure HoG (w : World) (G S I J : Int) (W : World) : Prop where
  g : At W w.heap.size 23 (gcells G S I J)
  bel : Below w.heap.size w W
set_option maxHeartbeats 2000000 in
theorem geoHome1_any (G S I J : Int) (hm : mayG G S I J = true) (w : World) : Calls Tryz.prog 55 #[gval G S I J, .int .i64 1] w fun e w' => e = .returned (.tuple #[.int .i64 0, .int .i64 0, .bool true]) ∧ Below w.heap.size w w' := by
  have HA := Lib.hid (At.new w 23 (gcells G S I J))
  have HL : Hid (Below w.heap.size w (w.alloc (.cells (gcells G S I J) 23))) := (Below.refl _ _).alloc (Nat.le_refl _) _
  obtain ⟨h1, h2, h3, h4, h5, h6, h7, h8, h9, h10, h11⟩ := (mayG_iff G S I J).1 hm
  have hnI : nIn G S I J = G * I := by unfold nIn; rw [hm]; rfl
  have hgi : 1 ≤ G * I := by
    have := Int.mul_le_mul (show (1 : Int) ≤ G by omega) (show (1 : Int) ≤ I by omega) (by omega) (by omega)
    omega
  go_enter Tryz.func55, Tryz.ntmps55
  have hA := HA.out
  go_wp2_with (first | (refine wp_loadAtG rfl 23 _ rfl _ _ _ rfl hA Tryz.underlying23 rfl (by kernel_rfl) ?_))
  refine (geoInodes_any G S I J _).mono ?_
  rintro e w1 ⟨rfl, hb1⟩
  have st1 : HoG w G S I J w1 := ⟨hA.below hb1 hA.lt, HL.out.trans (hb1.mono HL.out.size)⟩
  rw [hnI]
  clear hA HA HL hb1 hm h11 hnI
  have q1 : ¬ G * I < 1 := by omega
  have q2 : decide (G * I < 1) = false := decide_eq_false q1
  go_wp2_with fail
  refine wp_region_S (HoG w G S I J) (by kernel_rfl) (by kernel_rfl) ⟨st1.g, st1.bel.drew⟩ ?_
  clear st1
  intro hne
  have hc : ∀ y : InW (HoG w G S I J), y.W.cell? ⟨w.heap.size, 2, none⟩ = some (.int .i64 I) := fun y => y.h.g.cell (i := 2) rfl
  have hi0 : (I == 0) = false := by simp; omega
  have hi1 : I ≠ 0 := by omega
  first | go_big_quiet_skip | (go_big_quiet_want; go_big_quiet_op; go_big_quiet_on)
  first | go_big_quiet_skip | (go_big_quiet_want; go_big_quiet_op; go_big_quiet_on)
  first | go_big_quiet_skip | (go_big_quiet_want; go_big_quiet_op; go_big_quiet_on)
  first | go_big_quiet_skip | (go_big_quiet_want; go_big_quiet_op; go_big_quiet_on)
  first | go_big_quiet_skip | (go_big_quiet_want; go_big_quiet_op; go_big_quiet_on)
  first | go_big_quiet_skip | (go_big_quiet_want; go_big_quiet_op; go_big_quiet_on)
  first | go_big_quiet_skip | (go_big_quiet_want; go_big_quiet_op; go_big_quiet_on)
  first | go_big_quiet_skip | (go_big_quiet_want; go_big_quiet_op; go_big_quiet_on)
  first | go_big_quiet_skip | (go_big_quiet_want; go_big_quiet_op; go_big_quiet_on)
  first | go_big_quiet_skip | (go_big_quiet_want; go_big_quiet_op; go_big_quiet_on)
  first | go_big_quiet_skip | (go_big_quiet_want; go_big_quiet_op; go_big_quiet_on)
  first | go_big_quiet_skip | (go_big_quiet_want; go_big_quiet_op; go_big_quiet_on)
  first | go_big_quiet_skip | (go_big_quiet_want; go_big_quiet_op; go_big_quiet_on)
  refine wpQuiet_nil ?_
  intro w5 h5
  have st5 := h5.out
  clear h5 hne hc
  go_wp2_with fail
  go_ret3
  exact ⟨rfl, st5.bel⟩
set_option maxHeartbeats 2000000 in
theorem geoInode1_any (G S I J : Int) (hm : mayG G S I J = true) (w : World) : Calls Tryz.prog 23 #[gval G S I J, .int .i64 1] w fun e w' => e = .returned (.tuple #[.int .i64 (2 + J + 2), .int .i64 0, .bool true]) ∧ Below w.heap.size w w' := by
  have HA := Lib.hid (At.new w 23 (gcells G S I J))
  have HL : Hid (Below w.heap.size w (w.alloc (.cells (gcells G S I J) 23))) := (Below.refl _ _).alloc (Nat.le_refl _) _
  obtain ⟨h1, h2, h3, h4, h5, h6, h7, h8, h9, h10, h11⟩ := (mayG_iff G S I J).1 hm
  have HG : Hid (isGr G S I J 0 = true) := by show _ = _; unfold isGr; rw [hm]; simp; omega
  have HS : Hid (stGr G S I J 0 = 2 + J) := by show _ = _; unfold stGr; rw [HG.out]; simp
  have HM := Lib.hid hm
  clear h11 hm
  go_enter Tryz.func23, Tryz.ntmps23
  have hA := HA.out
  go_wp2_with (first | (refine wp_loadAtG rfl 23 _ rfl _ _ _ rfl hA Tryz.underlying23 rfl (by kernel_rfl) ?_))
  refine (geoHome1_any G S I J HM.out _).mono ?_
  rintro e w1 ⟨rfl, hb1⟩
  have hg1 := hA.below hb1 hA.lt
  have HL1 := Lib.hid (HL.out.trans (hb1.mono HL.out.size))
  clear hA HA HL hb1
  go_wp2_with (first | (refine wp_loadAtG rfl 23 _ rfl _ _ _ rfl hg1 Tryz.underlying23 rfl (by kernel_rfl) ?_))
  refine (geoStart_any G S I J 0 _).mono ?_
  rintro e w2 ⟨rfl, hb2⟩
  rw [HG.out, HS.out]
  have HL2 := Lib.hid (HL1.out.trans (hb2.mono HL1.out.size))
  have e1 : IntKind.i64.wrap (2 + J + 2) = 2 + J + 2 := IntWalk.i64_in _ (by omega)
  clear hg1 hb2 HL1
  go_wp2_with fail
  go_ret3
  exact ⟨rfl, HL2.out⟩
end Go.Proofs.YtnbmmhoofilmfaaGreatDoor

/- mkfs.Make: what it begins with. -/
namespace Go.Proofs.YtnbmmhoofilmfaaGreatDoor
open Go.RowKit
set_option linter.unusedVariables false
theorem info_block3 : (Tryz.prog.info? 32).map (fun i => (i.zero, i.size, i.bytes)) = some (some (bval fun _ => 0), 256, 256) := by kernel_rfl
theorem run_mkimage (n : Nat) (hn : n ≤ 2048) (W : World) : (Instr.makeSlice 29 (.int .i64 (n : Int)) (.int .i64 (n : Int))).run Tryz.prog W = .ok (.slice (some ⟨W.heap.size, 0, none⟩) n n) (W.alloc (.cells (madeCells (bval fun _ => 0).cells (n * 256)) 32)) :=
  run_mkrow (P := Tryz.prog) 29 32 (bval fun _ => 0) 256 256 Tryz.underlying29 info_block3 .i64 .i64 n (by omega) (by omega) W
theorem image_made (w : World) (n : Nat) : RArr (w.alloc (.cells (madeCells (bval fun _ => 0).cells (n * 256)) 32)) w.heap.size 32 256 n (fun _ => Ks .u8 256 (fun _ => 0)) :=
  RArr.made (m := 256) w (Ks .u8 256 (fun _ => 0)).toArray (by simp [Ks]) (by omega) n 32
/-- what the walk keeps: the geometry, the image's slice (p2), the first error (p1), the image (q) -/
structure MkS (w : World) (G S I J : Int) (p1 p2 q n : Nat) (im : Nat → Nat → Int) (W : World) : Prop where
  g : At W w.heap.size 23 (gcells G S I J)
  i : At W p2 29 #[.slice (some ⟨q, 0, none⟩) n n]
  e : At W p1 48 #[.int .i64 0]
  a : RArr W q 32 256 n (fun i => Ks .u8 256 (im i))
  bel : Below w.heap.size w W
end Go.Proofs.YtnbmmhoofilmfaaGreatDoor

/- The empty image, block by block, plainly. -/
namespace Go.Proofs.YtnbmmhoofilmfaaGreatDoor
open Go.RowKit
set_option linter.unusedVariables false

/-- the root's inode, in its block -/
def rootI : Ino := ⟨2, 1, 1, 0, fun _ => 0, 0⟩
def rootZ : Nat → Int := over (fun _ => 0) 0 64 rootI.byte
/-- the descriptors' numbers -/
def dkB (G S I J : Int) : Nat → Int := fun _ => nDa G S I J
def dkI (I : Int) : Nat → Int := fun i => if i = 0 then I - 1 else I
def dkD : Nat → Int := fun i => if i = 0 then 1 else 0
/-- block b of the image, but for the root's inode -/
def mk0 (g s i j : Nat) (b : Nat) : Nat → Int :=
  if b = 0 then supZ g s i j 0 else if b = 1 then descZ g s i j g (dkB g s i j) (dkI i) dkD else if b = 2 then headZ 1 0
  else if b < 2 + j then fun _ => 0
  else if (b - (2 + j)) % s = 0 then bZ (mapB (2 + i / 4) s)
  else if (b - (2 + j)) % s = 1 then bZ (mapB (if (b - (2 + j)) / s = 0 then 1 else 0) i)
  else fun _ => 0
def mkB (g s i j : Nat) (b : Nat) : Nat → Int := if b = 2 + j + 2 then rootZ else mk0 g s i j b
/-- the image so far -/
def mkU (g s i j : Nat) (n : Nat) (b : Nat) : Nat → Int := if b < n then mk0 g s i j b else fun _ => 0

theorem mayN {g s i j : Nat} (hm : mayG g s i j = true) : 1 ≤ g ∧ g ≤ 4 ∧ 16 ≤ s ∧ s ≤ 512 ∧ 4 ≤ i ∧ i ≤ 64 ∧ i % 4 = 0 ∧ 40 ≤ j ∧ j ≤ 256 ∧ 3 + i / 4 ≤ s ∧ 2 + j + g * s ≤ 2048 := by
  obtain ⟨h1, h2, h3, h4, h5, h6, h7, h8, h9, h10, h11⟩ := (mayG_iff g s i j).1 hm
  have e : ((g * s : Nat) : Int) = (g : Int) * (s : Int) := Int.natCast_mul _ _
  rw [← e] at h11
  omega
theorem supOk0 {G S I J : Int} (hm : mayG G S I J = true) : supOk G S I J 0 = true := by
  have := nIn_bd G S I J
  unfold supOk; rw [hm]; simp; omega
theorem supE0 {G S I J : Int} (hm : mayG G S I J = true) : supE G S I J 0 = 0 := by
  have := nIn_bd G S I J
  unfold supE; rw [hm, if_pos rfl, if_pos (by omega)]
theorem mkMayD {g s i j : Nat} (hm : mayG g s i j = true) : mayD g s i j g (dkB g s i j) (dkI i) dkD = true := by
  obtain ⟨h1, h2, h3, h4, h5, h6, h7, h8, h9, h10, h11⟩ := mayN hm
  have := nDa_bd g s i j
  unfold mayD
  rw [Bool.and_eq_true, decide_eq_true_eq, allB_iff]
  refine ⟨rfl, fun k hk => (okD_iff _ _ _ _ _).2 ?_⟩
  unfold dkB dkI dkD
  by_cases e : k = 0
  · rw [if_pos e, if_pos e]; omega
  · rw [if_neg e, if_neg e]; omega
theorem descOk0 {g s i j : Nat} (hm : mayG g s i j = true) : descOk g s i j g (dkB g s i j) (dkI i) dkD = true := by
  unfold descOk; rw [hm, mkMayD hm]; rfl
theorem descE0 {g s i j : Nat} (hm : mayG g s i j = true) : descE g s i j g (dkB g s i j) (dkI i) dkD = 0 := by
  unfold descE; rw [hm, mkMayD hm]; rfl
theorem rootOk : putOk 0 rootI = true := by decide
theorem rootIsOk : rootI.Ok := ⟨by decide, by decide, by decide, by decide, fun i => ⟨Int.le_refl 0, (by decide : (0 : Int) < 4294967296)⟩, by decide⟩
/-- what a round adds -/
theorem mkU_round {g s i j k : Nat} (hs : 16 ≤ s) (hj : 40 ≤ j) (b : Nat) :
    (if b = 2 + j + k * s + 1 then bZ (mapB (if k = 0 then 1 else 0) i) else if b = 2 + j + k * s then bZ (mapB (2 + i / 4) s) else mkU g s i j (2 + j + k * s) b) = mkU g s i j (2 + j + (k + 1) * s) b := by
  have hk : (k + 1) * s = k * s + s := Nat.succ_mul k s
  unfold mkU
  by_cases e1 : b = 2 + j + k * s + 1
  · have hsub : b - (2 + j) = s * k + 1 := by rw [Nat.mul_comm]; omega
    have hmod : (b - (2 + j)) % s = 1 := by rw [hsub, Nat.mul_add_mod, Nat.mod_eq_of_lt (by omega)]
    have hdiv : (b - (2 + j)) / s = k := by rw [hsub, Nat.mul_add_div (by omega), Nat.div_eq_of_lt (by omega)]; rfl
    rw [if_pos e1, if_pos (show b < 2 + j + (k + 1) * s by omega)]
    unfold mk0
    rw [if_neg (show ¬ b = 0 by omega), if_neg (show ¬ b = 1 by omega), if_neg (show ¬ b = 2 by omega), if_neg (show ¬ b < 2 + j by omega), if_neg (show ¬ (b - (2 + j)) % s = 0 by omega), if_pos hmod, hdiv]
  rw [if_neg e1]
  by_cases e0 : b = 2 + j + k * s
  · have hsub : b - (2 + j) = s * k + 0 := by rw [Nat.mul_comm]; omega
    have hmod : (b - (2 + j)) % s = 0 := by rw [hsub, Nat.mul_add_mod, Nat.mod_eq_of_lt (by omega)]
    rw [if_pos e0, if_pos (by omega)]
    unfold mk0
    rw [if_neg (by omega), if_neg (by omega), if_neg (by omega), if_neg (by omega), if_pos hmod]
  rw [if_neg e0]
  by_cases h : b < 2 + j + k * s
  · rw [if_pos h, if_pos (by omega)]
  rw [if_neg h]
  by_cases h2 : b < 2 + j + (k + 1) * s
  · obtain ⟨d, hd⟩ : ∃ d, b = 2 + j + k * s + d := ⟨b - (2 + j + k * s), by omega⟩
    have hsub : b - (2 + j) = s * k + d := by rw [Nat.mul_comm]; omega
    have hmod : (b - (2 + j)) % s = d := by rw [hsub, Nat.mul_add_mod, Nat.mod_eq_of_lt (by omega)]
    rw [if_pos h2]
    unfold mk0
    rw [if_neg (by omega), if_neg (by omega), if_neg (by omega), if_neg (by omega), hmod, if_neg (by omega), if_neg (by omega)]
  · rw [if_neg h2]
/-- what stands ahead of the groups -/
theorem mkU_start {g s i j : Nat} (hj : 40 ≤ j) (b : Nat) :
    (if b = 2 then headZ 1 0 else if b = 1 then descZ g s i j g (dkB g s i j) (dkI i) dkD else if b = 0 then supZ g s i j 0 else fun _ => 0) = mkU g s i j (2 + j) b := by
  unfold mkU mk0
  by_cases e2 : b = 2
  · rw [if_pos e2, if_pos (by omega), if_neg (by omega), if_neg (by omega), if_pos e2]
  rw [if_neg e2]
  by_cases e1 : b = 1
  · rw [if_pos e1, if_pos (by omega), if_neg (by omega), if_pos e1]
  rw [if_neg e1]
  by_cases e0 : b = 0
  · rw [if_pos e0, if_pos (by omega), if_pos e0]
  rw [if_neg e0]
  by_cases h : b < 2 + j
  · rw [if_pos h, if_neg e0, if_neg e1, if_neg e2, if_pos h]
  · rw [if_neg h]
/-- the whole -/
theorem mkB_end {g s i j b : Nat} (hb : b < 2 + j + g * s) : (if b = 2 + j + 2 then rootZ else mkU g s i j (2 + j + g * s) b) = mkB g s i j b := by
  unfold mkB mkU
  by_cases e : b = 2 + j + 2
  · rw [if_pos e, if_pos e]
  · rw [if_neg e, if_neg e, if_pos hb]
end Go.Proofs.YtnbmmhoofilmfaaGreatDoor

/- geo.Home, geo.Inode, geo.Number at any inode of an image; geo.Start of any of its groups. -/
namespace Go.Proofs.YtnbmmhoofilmfaaGreatDoor
open Go.RowKit
set_option linter.unusedVariables false
theorem nIn_nat {g s i j : Nat} (hm : mayG g s i j = true) : nIn g s i j = ((g * i : Nat) : Int) := by
  unfold nIn; rw [hm, if_pos rfl, Int.natCast_mul]
theorem gi_bd {g s i j : Nat} (hm : mayG g s i j = true) : g * i ≤ 256 := by
  have h1 := nIn_bd g s i j
  rw [nIn_nat hm] at h1
  omega
theorem geoStart_yes (g s i j k : Nat) (hm : mayG g s i j = true) (hk : k < g) (w : World) : Calls Tryz.prog 21 #[gval g s i j, .int .i64 (k : Int)] w fun e w' => e = .returned (.tuple #[.int .i64 ((2 + j + k * s : Nat) : Int), .bool true]) ∧ Below w.heap.size w w' := by
  refine (geoStart_any g s i j k w).mono ?_
  rintro e w' ⟨rfl, hb⟩
  have h1 : isGr g s i j k = true := by unfold isGr; rw [hm]; simp; omega
  have h2 : stGr g s i j k = ((2 + j + k * s : Nat) : Int) := by unfold stGr; rw [h1, if_pos rfl]; simp
  rw [h1, h2]
  exact ⟨rfl, hb⟩
set_option maxHeartbeats 2000000 in
theorem geoHome_yes (g s i j u : Nat) (hm : mayG g s i j = true) (hu : u < g * i) (w : World) : Calls Tryz.prog 55 #[gval g s i j, .int .i64 ((u : Int) + 1)] w fun e w' => e = .returned (.tuple #[.int .i64 ((u / i : Nat) : Int), .int .i64 ((u % i : Nat) : Int), .bool true]) ∧ Below w.heap.size w w' := by
  have HA := Lib.hid (At.new w 23 (gcells g s i j))
  have HL : Hid (Below w.heap.size w (w.alloc (.cells (gcells g s i j) 23))) := (Below.refl _ _).alloc (Nat.le_refl _) _
  obtain ⟨h1, h2, h3, h4, h5, h6, h7, h8, h9, h10, h11⟩ := (mayG_iff g s i j).1 hm
  have hnI := nIn_nat hm
  have hgi := gi_bd hm
  obtain ⟨N, hN⟩ : ∃ N, N = g * i := ⟨_, rfl⟩
  rw [← hN] at hu hnI hgi
  have hq : (u : Int).tdiv (i : Int) = ((u / i : Nat) : Int) := by rw [Int.tdiv_eq_ediv_of_nonneg (by omega)]; rfl
  have hr : (u : Int).tmod (i : Int) = ((u % i : Nat) : Int) := by rw [Int.tmod_eq_emod_of_nonneg (by omega)]; rfl
  have HQ := Lib.hid hq
  have HR := Lib.hid hr
  clear hN hq hr
  go_enter Tryz.func55, Tryz.ntmps55
  have hA := HA.out
  go_wp2_with (first | (refine wp_loadAtG rfl 23 _ rfl _ _ _ rfl hA Tryz.underlying23 rfl (by kernel_rfl) ?_))
  refine (geoInodes_any g s i j _).mono ?_
  rintro e w1 ⟨rfl, hb1⟩
  have st1 : HoG w g s i j w1 := ⟨hA.below hb1 hA.lt, HL.out.trans (hb1.mono HL.out.size)⟩
  rw [hnI]
  clear hA HA HL hb1 hm h11 hnI
  have q1 : ¬ (N : Int) < (u : Int) + 1 := by omega
  have q2 : decide ((N : Int) < (u : Int) + 1) = false := decide_eq_false q1
  have q3 : ¬ (u : Int) + 1 < 1 := by omega
  go_wp2_with fail
  refine wp_region_S (HoG w g s i j) (by kernel_rfl) (by kernel_rfl) ⟨st1.g, st1.bel.drew⟩ ?_
  clear st1
  intro hne
  have hc : ∀ y : InW (HoG w g s i j), y.W.cell? ⟨w.heap.size, 2, none⟩ = some (.int .i64 (i : Int)) := fun y => y.h.g.cell (i := 2) rfl
  have hi0 : ((i : Int) == 0) = false := by simp; omega
  have hi1 : (i : Int) ≠ 0 := by omega
  have hq := HQ.out
  have hr := HR.out
  first | go_big_quiet_skip | (go_big_quiet_want; go_big_quiet_op; go_big_quiet_on)
  first | go_big_quiet_skip | (go_big_quiet_want; go_big_quiet_op; go_big_quiet_on)
  first | go_big_quiet_skip | (go_big_quiet_want; go_big_quiet_op; go_big_quiet_on)
  first | go_big_quiet_skip | (go_big_quiet_want; go_big_quiet_op; go_big_quiet_on)
  first | go_big_quiet_skip | (go_big_quiet_want; go_big_quiet_op; go_big_quiet_on)
  first | go_big_quiet_skip | (go_big_quiet_want; go_big_quiet_op; go_big_quiet_on)
  first | go_big_quiet_skip | (go_big_quiet_want; go_big_quiet_op; go_big_quiet_on)
  first | go_big_quiet_skip | (go_big_quiet_want; go_big_quiet_op; go_big_quiet_on)
  first | go_big_quiet_skip | (go_big_quiet_want; go_big_quiet_op; go_big_quiet_on)
  first | go_big_quiet_skip | (go_big_quiet_want; go_big_quiet_op; go_big_quiet_on)
  first | go_big_quiet_skip | (go_big_quiet_want; go_big_quiet_op; go_big_quiet_on)
  first | go_big_quiet_skip | (go_big_quiet_want; go_big_quiet_op; go_big_quiet_on)
  first | go_big_quiet_skip | (go_big_quiet_want; go_big_quiet_op; go_big_quiet_on)
  refine wpQuiet_nil ?_
  intro w5 h5
  have st5 := h5.out
  clear h5 hne hc
  go_wp2_with fail
  go_ret3
  refine ⟨?_, st5.bel⟩
  show Ending.returned (.tuple #[.int .i64 (wrap64 ((u : Int) / (i : Int))), .int .i64 ((u : Int) % (i : Int)), .bool true]) = _
  have e1 : (u : Int) / (i : Int) = ((u / i : Nat) : Int) := rfl
  have e2 : u / i ≤ u := Nat.div_le_self _ _
  rw [e1]
  generalize u / i = q at e2 ⊢
  rw [IntWalk.wrap64_in _ (by omega)]
  rfl
set_option maxHeartbeats 2000000 in
theorem geoInode_yes (g s i j u : Nat) (hm : mayG g s i j = true) (hu : u < g * i) (w : World) : Calls Tryz.prog 23 #[gval g s i j, .int .i64 ((u : Int) + 1)] w fun e w' => e = .returned (.tuple #[.int .i64 ((2 + j + u / i * s + 2 + u % i / 4 : Nat) : Int), .int .i64 ((u % i % 4 * 64 : Nat) : Int), .bool true]) ∧ Below w.heap.size w w' := by
  have HA := Lib.hid (At.new w 23 (gcells g s i j))
  have HL : Hid (Below w.heap.size w (w.alloc (.cells (gcells g s i j) 23))) := (Below.refl _ _).alloc (Nat.le_refl _) _
  have HM := Lib.hid hm
  have hi : 0 < i := by obtain ⟨h1, h2, h3, h4, h5, h6, h7, h8, h9, h10, h11⟩ := (mayG_iff g s i j).1 hm; omega
  have hG : u / i < g := Nat.div_lt_of_lt_mul (by rw [Nat.mul_comm]; exact hu)
  have hi9 : i ≤ 64 := by obtain ⟨h1, h2, h3, h4, h5, h6, h7, h8, h9, h10, h11⟩ := (mayG_iff g s i j).1 hm; omega
  have hB : u % i < i := Nat.mod_lt _ hi
  have hend : Hid (2 + j + u / i * s ≤ 2048) := by
    show _ ≤ _
    obtain ⟨h1, h2, h3, h4, h5, h6, h7, h8, h9, h10, h11⟩ := (mayG_iff g s i j).1 hm
    have : ((u / i * s : Nat) : Int) ≤ ((g * s : Nat) : Int) := by
      have := Nat.mul_le_mul_right s (Nat.le_of_lt hG); omega
    rw [Int.natCast_mul g s] at this
    omega
  have HU := Lib.hid hu
  have HGR := Lib.hid hG
  clear hm hu
  go_enter Tryz.func23, Tryz.ntmps23
  have hA := HA.out
  go_wp2_with (first | (refine wp_loadAtG rfl 23 _ rfl _ _ _ rfl hA Tryz.underlying23 rfl (by kernel_rfl) ?_))
  refine (geoHome_yes g s i j u HM.out HU.out _).mono ?_
  rintro e w1 ⟨rfl, hb1⟩
  have hg1 := hA.below hb1 hA.lt
  have HL1 := Lib.hid (HL.out.trans (hb1.mono HL.out.size))
  clear hA HA HL hb1
  obtain ⟨γ, hγ⟩ : ∃ γ, γ = u / i := ⟨_, rfl⟩
  obtain ⟨r, hρ⟩ : ∃ r, r = u % i := ⟨_, rfl⟩
  rw [← hγ, ← hρ]
  rw [← hρ] at hB
  have HE1 := Lib.hid hγ
  have HE2 := Lib.hid hρ
  have HGG : Hid (γ < g) := by show γ < g; rw [hγ]; exact HGR.out
  have HLE : Hid (2 + j + γ * s ≤ 2048) := by show _ ≤ _; rw [hγ]; exact hend.out
  clear hγ hρ hG
  go_wp2_with (first | (refine wp_loadAtG rfl 23 _ rfl _ _ _ rfl hg1 Tryz.underlying23 rfl (by kernel_rfl) ?_))
  refine (geoStart_yes g s i j γ HM.out HGG.out _).mono ?_
  rintro e w2 ⟨rfl, hb2⟩
  have HL2 := Lib.hid (HL1.out.trans (hb2.mono HL1.out.size))
  have hle := HLE.out
  obtain ⟨B, hBB⟩ : ∃ B, B = 2 + j + γ * s := ⟨_, rfl⟩
  rw [← hBB] at hle ⊢
  have hq : (r : Int).tdiv 4 = ((r / 4 : Nat) : Int) := by rw [Int.tdiv_eq_ediv_of_nonneg (by omega)]; rfl
  have hr : (r : Int).tmod 4 = ((r % 4 : Nat) : Int) := by rw [Int.tmod_eq_emod_of_nonneg (by omega)]; rfl
  have FIN : Hid ((B : Int) + 2 + ((r / 4 : Nat) : Int) = ((2 + j + u / i * s + 2 + u % i / 4 : Nat) : Int) ∧ ((r % 4 : Nat) : Int) * 64 = ((u % i % 4 * 64 : Nat) : Int)) := by
    rw [hBB, ← HE1.out, ← HE2.out]
    exact ⟨by omega, by omega⟩
  generalize hx : r / 4 = x at *
  generalize hy : r % 4 = y at *
  have hx9 : x ≤ 64 := by omega
  have hy9 : y < 4 := by omega
  clear hg1 hb2 HL1 hBB hx hy hend
  go_wp2_with fail
  go_ret3
  refine ⟨?_, HL2.out⟩
  show Ending.returned (.tuple #[.int .i64 ((B : Int) + 2 + (x : Int)), .int .i64 ((y : Int) * 64), .bool true]) = _
  rw [FIN.out.1, FIN.out.2]
set_option maxHeartbeats 2000000 in
theorem geoNumber_yes (g s i j k b : Nat) (hm : mayG g s i j = true) (hk : k < g) (hb : b < i) (w : World) : Calls Tryz.prog 169 #[gval g s i j, .int .i64 (k : Int), .int .i64 (b : Int)] w fun e w' => e = .returned (.int .i64 ((k * i + b + 1 : Nat) : Int)) ∧ Below w.heap.size w w' := by
  have HA := Lib.hid (At.new w 23 (gcells g s i j))
  have HL : Hid (Below w.heap.size w (w.alloc (.cells (gcells g s i j) 23))) := (Below.refl _ _).alloc (Nat.le_refl _) _
  have HM := Lib.hid hm
  have hki : k * i ≤ 256 := by
    have := Nat.mul_le_mul_right i (Nat.le_of_lt hk)
    have := gi_bd hm
    omega
  obtain ⟨h1, h2, h3, h4, h5, h6, h7, h8, h9, h10, h11⟩ := (mayG_iff g s i j).1 hm
  clear hm h11
  go_enter Tryz.func169, Tryz.ntmps169
  have hA := HA.out
  go_wp2_with (first | (refine wp_loadAtG rfl 23 _ rfl _ _ _ rfl hA Tryz.underlying23 rfl (by kernel_rfl) ?_))
  refine (geoMay_any g s i j _).mono ?_
  rintro e w1 ⟨rfl, hb1⟩
  rw [HM.out]
  have hA1 := hA.below hb1 hA.lt
  have HL1 := Lib.hid (HL.out.trans (hb1.mono HL.out.size))
  have c0 : w1.cell? ⟨w.heap.size, 0, none⟩ = some (.int .i64 (g : Int)) := hA1.cell (i := 0) rfl
  have c2 : w1.cell? ⟨w.heap.size, 2, none⟩ = some (.int .i64 (i : Int)) := hA1.cell (i := 2) rfl
  clear hA HA HL hb1 hA1
  have q1 : ¬ (k : Int) < 0 := by omega
  have q2 : ¬ (g : Int) ≤ (k : Int) := by omega
  have q3 : ¬ (b : Int) < 0 := by omega
  have q4 : ¬ (i : Int) ≤ (b : Int) := by omega
  have hmul : (k : Int) * (i : Int) = ((k * i : Nat) : Int) := (Int.natCast_mul _ _).symm
  have HMUL := Lib.hid hmul
  obtain ⟨M, hM⟩ : ∃ M, M = k * i := ⟨_, rfl⟩
  have FIN : Hid ((M : Int) + (b : Int) + 1 = ((k * i + b + 1 : Nat) : Int)) := by show _ = _; rw [← hM]; omega
  rw [← hM] at hmul hki
  clear hM HMUL
  have hw1 : IntKind.i64.wrap (M : Int) = (M : Int) := IntWalk.i64_in _ (by omega)
  go_wp2_with fail
  go_ret
  refine ⟨?_, HL1.out⟩
  show Ending.returned (.int .i64 ((M : Int) + (b : Int) + 1)) = _
  rw [FIN.out]
end Go.Proofs.YtnbmmhoofilmfaaGreatDoor
