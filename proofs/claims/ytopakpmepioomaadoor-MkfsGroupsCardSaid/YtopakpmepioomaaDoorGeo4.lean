/- geo.Home, geo.Inode at the first inode. -/
import Derived.Test.YtopakpmepioomaaDoorGeo3
import Derived.Test.YtopakpmepioomaaDoorMg0
namespace Go.Proofs.YtopakpmepioomaaDoor
open Go.RowKit
set_option linter.unusedVariables false
structure HoG (w : World) (G S I J : Int) (W : World) : Prop where
  g : At W w.heap.size 23 (gcells G S I J)
  bel : Below w.heap.size w W
set_option maxHeartbeats 2000000 in
theorem geoHome1_any (G S I J : Int) (hm : mayG G S I J = true) (w : World) : Calls Tryd.prog 65 #[gval G S I J, .int .i64 1] w fun e w' => e = .returned (.tuple #[.int .i64 0, .int .i64 0, .bool true]) ∧ Below w.heap.size w w' := by
  have HA := Lib.hid (At.new w 23 (gcells G S I J))
  have HL : Hid (Below w.heap.size w (w.alloc (.cells (gcells G S I J) 23))) := (Below.refl _ _).alloc (Nat.le_refl _) _
  obtain ⟨h1, h2, h3, h4, h5, h6, h7, h8, h9, h10, h11⟩ := (mayG_iff G S I J).1 hm
  have hnI : nIn G S I J = G * I := by unfold nIn; rw [hm]; rfl
  have hgi : 1 ≤ G * I := by
    have := Int.mul_le_mul (show (1 : Int) ≤ G by omega) (show (1 : Int) ≤ I by omega) (by omega) (by omega)
    omega
  go_enter Tryd.func65, Tryd.ntmps65
  have hA := HA.out
  go_wp2_with (first | (refine wp_loadAtG rfl 23 _ rfl _ _ _ rfl hA Tryd.underlying23 rfl (by kernel_rfl) ?_))
  refine (geoInodes_any G S I J _).mono ?_
  rintro e w1 ⟨rfl, hb1⟩
  have st1 : HoG w G S I J w1 := ⟨hA.below hb1 hA.lt, HL.out.trans (hb1.mono HL.out.size)⟩
  rw [hnI]
  clear hA HA HL hb1 hm h11 hnI
  have q1 : ¬ G * I < 1 := by omega
  have q2 : decide (G * I < 1) = false := decide_eq_false q1
  go_wp2_with fail
  refine wp_region_S (HoG w G S I J) (by kernel_rfl) (by kernel_rfl) ⟨st1.g, st1.bel.drew⟩ ?_
  clear st1
  intro hne
  have hc : ∀ y : InW (HoG w G S I J), y.W.cell? ⟨w.heap.size, 2, none⟩ = some (.int .i64 I) := fun y => y.h.g.cell (i := 2) rfl
  have hi0 : (I == 0) = false := by simp; omega
  have hi1 : I ≠ 0 := by omega
  first | go_big_quiet_skip | (go_big_quiet_want; go_big_quiet_op; go_big_quiet_on)
  first | go_big_quiet_skip | (go_big_quiet_want; go_big_quiet_op; go_big_quiet_on)
  first | go_big_quiet_skip | (go_big_quiet_want; go_big_quiet_op; go_big_quiet_on)
  first | go_big_quiet_skip | (go_big_quiet_want; go_big_quiet_op; go_big_quiet_on)
  first | go_big_quiet_skip | (go_big_quiet_want; go_big_quiet_op; go_big_quiet_on)
  first | go_big_quiet_skip | (go_big_quiet_want; go_big_quiet_op; go_big_quiet_on)
  first | go_big_quiet_skip | (go_big_quiet_want; go_big_quiet_op; go_big_quiet_on)
  first | go_big_quiet_skip | (go_big_quiet_want; go_big_quiet_op; go_big_quiet_on)
  first | go_big_quiet_skip | (go_big_quiet_want; go_big_quiet_op; go_big_quiet_on)
  first | go_big_quiet_skip | (go_big_quiet_want; go_big_quiet_op; go_big_quiet_on)
  first | go_big_quiet_skip | (go_big_quiet_want; go_big_quiet_op; go_big_quiet_on)
  first | go_big_quiet_skip | (go_big_quiet_want; go_big_quiet_op; go_big_quiet_on)
  first | go_big_quiet_skip | (go_big_quiet_want; go_big_quiet_op; go_big_quiet_on)
  refine wpQuiet_nil ?_
  intro w5 h5
  have st5 := h5.out
  clear h5 hne hc
  go_wp2_with fail
  go_ret3
  exact ⟨rfl, st5.bel⟩
set_option maxHeartbeats 2000000 in
theorem geoInode1_any (G S I J : Int) (hm : mayG G S I J = true) (w : World) : Calls Tryd.prog 35 #[gval G S I J, .int .i64 1] w fun e w' => e = .returned (.tuple #[.int .i64 (2 + J + 2), .int .i64 0, .bool true]) ∧ Below w.heap.size w w' := by
  have HA := Lib.hid (At.new w 23 (gcells G S I J))
  have HL : Hid (Below w.heap.size w (w.alloc (.cells (gcells G S I J) 23))) := (Below.refl _ _).alloc (Nat.le_refl _) _
  obtain ⟨h1, h2, h3, h4, h5, h6, h7, h8, h9, h10, h11⟩ := (mayG_iff G S I J).1 hm
  have HG : Hid (isGr G S I J 0 = true) := by show _ = _; unfold isGr; rw [hm]; simp; omega
  have HS : Hid (stGr G S I J 0 = 2 + J) := by show _ = _; unfold stGr; rw [HG.out]; simp
  have HM := Lib.hid hm
  clear h11 hm
  go_enter Tryd.func35, Tryd.ntmps35
  have hA := HA.out
  go_wp2_with (first | (refine wp_loadAtG rfl 23 _ rfl _ _ _ rfl hA Tryd.underlying23 rfl (by kernel_rfl) ?_))
  refine (geoHome1_any G S I J HM.out _).mono ?_
  rintro e w1 ⟨rfl, hb1⟩
  have hg1 := hA.below hb1 hA.lt
  have HL1 := Lib.hid (HL.out.trans (hb1.mono HL.out.size))
  clear hA HA HL hb1
  go_wp2_with (first | (refine wp_loadAtG rfl 23 _ rfl _ _ _ rfl hg1 Tryd.underlying23 rfl (by kernel_rfl) ?_))
  refine (geoStart_any G S I J 0 _).mono ?_
  rintro e w2 ⟨rfl, hb2⟩
  rw [HG.out, HS.out]
  have HL2 := Lib.hid (HL1.out.trans (hb2.mono HL1.out.size))
  have e1 : IntKind.i64.wrap (2 + J + 2) = 2 + J + 2 := IntWalk.i64_in _ (by omega)
  clear hg1 hb2 HL1
  go_wp2_with fail
  go_ret3
  exact ⟨rfl, HL2.out⟩
end Go.Proofs.YtopakpmepioomaaDoor
