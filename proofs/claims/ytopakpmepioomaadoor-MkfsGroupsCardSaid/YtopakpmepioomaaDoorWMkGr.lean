/- MkfsGroups. -/
import Derived.Test.YtopakpmepioomaaDoorMkG
import Derived.Test.YtopakpmepioomaaDoorTabB
namespace Go.Proofs.YtopakpmepioomaaDoor
open Go.RowKit
set_option linter.unusedVariables false

/-- the inodes' bitmaps of the first group and of another one -/
theorem gr_bits {i : Nat} (hi : 4 ≤ i) : bits .or .u8 (bZ (mapB 0 i) 0) 1 = bZ (mapB 1 i) 0 ∧ bits .and .u8 (bZ (mapB 0 i) 0) 1 = 0 ∧ ∀ k, 1 ≤ k → bZ (mapB 1 i) k = bZ (mapB 0 i) k := by
  have h0 : mapB 0 i (8 * 0) = false := by unfold mapB; simp; omega
  have h1 : mapB 1 i (8 * 0) = true := by unfold mapB; simp
  have hne : ∀ x, x ≠ 0 → mapB 1 i x = mapB 0 i x := fun x hx => by unfold mapB; rw [decide_eq_false (show ¬ x < 1 by omega), decide_eq_false (show ¬ x < 0 by omega)]
  refine ⟨?_, ?_, fun k hk => ?_⟩
  · have := u8_or_nat (by8 (mapB 0 i) 0) 1 (by8_lt _ _) (by decide)
    show bits .or .u8 ((by8 (mapB 0 i) 0 : Nat) : Int) 1 = ((by8 (mapB 1 i) 0 : Nat) : Int)
    rw [show (1 : Int) = ((1 : Nat) : Int) from rfl, this]
    unfold by8
    rw [or0, h1, hne (8 * 0 + 1) (by omega), hne (8 * 0 + 2) (by omega), hne (8 * 0 + 3) (by omega), hne (8 * 0 + 4) (by omega), hne (8 * 0 + 5) (by omega), hne (8 * 0 + 6) (by omega), hne (8 * 0 + 7) (by omega)]
  · have := u8_and_nat (by8 (mapB 0 i) 0) 1 (by8_lt _ _) (by decide)
    show bits .and .u8 ((by8 (mapB 0 i) 0 : Nat) : Int) 1 = 0
    rw [show (1 : Int) = ((1 : Nat) : Int) from rfl, this]
    unfold by8
    rw [h0]
    have : ∀ b c d e f g h : Bool, b8 false b c d e f g h &&& 1 = 0 := by decide
    rw [this]; rfl
  · show ((by8 (mapB 1 i) k : Nat) : Int) = ((by8 (mapB 0 i) k : Nat) : Int)
    unfold by8
    rw [hne (8 * k) (by omega), hne (8 * k + 1) (by omega), hne (8 * k + 2) (by omega), hne (8 * k + 3) (by omega), hne (8 * k + 4) (by omega), hne (8 * k + 5) (by omega), hne (8 * k + 6) (by omega), hne (8 * k + 7) (by omega)]
theorem rootZ_hi {k : Nat} (hk : 64 ≤ k) : rootZ k = 0 := by unfold rootZ over; rw [if_neg (by omega)]
/-- the geometry and the image stand -/
structure GrS (w : World) (g s i j q n : Nat) (base : Nat) (W : World) : Prop where
  x : At W w.heap.size 23 (gcells g s i j)
  a : RArr W q 32 256 n (fun b => Ks .u8 256 (mkB g s i j b))
  bel : Below w.heap.size w W
  sz : base ≤ W.heap.size
  hx : w.heap.size < base
  hq : q < base
theorem GrS.below {w : World} {g s i j q n base : Nat} {W W' : World} (h : GrS w g s i j q n base W) (hb : Below W.heap.size W W') : GrS w g s i j q n base W' :=
  ⟨h.x.below hb h.x.lt, h.a.below hb, h.bel.trans (hb.mono h.bel.size), by have := hb.size; have := h.sz; omega, h.hx, h.hq⟩
theorem GrS.only {w : World} {g s i j q n base p : Nat} {W W' : World} (h : GrS w g s i j q n base W) (hp : base ≤ p) (ho : Only p W W') : GrS w g s i j q n base W' :=
  ⟨h.x.only ho (by have := h.hx; omega), h.a.only ho (by have := h.hq; omega), h.bel.trans (ho.below (by have := h.hx; omega)), by have := ho.size; have := h.sz; omega, h.hx, h.hq⟩
/-- two blocks besides -/
structure GrT (w : World) (g s i j q n : Nat) (base p1 p2 : Nat) (y1 y2 : Nat → Int) (W : World) : Prop where
  s : GrS w g s i j q n base W
  b1 : Blk W p1 32 256 y1
  b2 : Blk W p2 32 256 y2
  l1 : base ≤ p1
  l2 : base ≤ p2
  ne : p1 ≠ p2
theorem GrT.turn {w : World} {g s i j q n base p1 p2 : Nat} {y1 y2 : Nat → Int} {W : World} (h : GrT w g s i j q n base p1 p2 y1 y2 W) {k : Nat} (hk : k < 256) (v : Int) : GrT w g s i j q n base p1 p2 (over y1 k 1 (fun _ => v)) y2 (W.setCell ⟨p1, k, none⟩ (.int .u8 v)) := by
  have ho := Only.setCell W ⟨p1, k, none⟩ (.int .u8 v)
  exact ⟨h.s.only h.l1 ho, h.b1.setCell k v hk, h.b2.only ho (fun e => h.ne e.symm), h.l1, h.l2, h.ne⟩
theorem GrT.congr {w : World} {g s i j q n base p1 p2 : Nat} {y1 y1' y2 : Nat → Int} {W : World} (h : GrT w g s i j q n base p1 p2 y1 y2 W) (he : ∀ k, k < 256 → y1 k = y1' k) : GrT w g s i j q n base p1 p2 y1' y2 W := ⟨h.s, h.b1.congr he, h.b2, h.l1, h.l2, h.ne⟩
theorem GrS.low {w : World} {g s i j q n base base' : Nat} {W : World} (h : GrS w g s i j q n base W) (hb : base' ≤ base) (hx : w.heap.size < base') (hq : q < base') : GrS w g s i j q n base' W := ⟨h.x, h.a, h.bel, by have := h.sz; omega, hx, hq⟩
theorem neq_no {y1 y2 : Nat → Int} (h : ∀ k, k < 256 → y1 k = y2 k) (W : World) : (binOp .neq 32 (bval y1) (bval y2)).run Tryd.prog W = .ok (.bool false) W := by
  have := run_neq_block y1 y2 W
  rwa [(eqB_iff y1 y2 256).2 h] at this

set_option maxRecDepth 100000 in
set_option maxHeartbeats 8000000 in
theorem mkfsGroups_walk (G S I J x : Int) (hx0 : -9223372036854775808 ≤ x) (hx1 : x ≤ 9223372036854775807) (w : World) (hT : Tab w) :
    Calls Tryd.prog 4 #[gval G S I J, .int .i64 x] w fun e w' => e = .returned (.bool true) ∧ Below w.heap.size w w' := by
  have hal := zero_block
  have hs0 := At.new w 23 (gcells G S I J)
  have HL0 : Hid (Below w.heap.size w (w.alloc (.cells (gcells G S I J) 23))) := (Below.refl _ _).alloc (Nat.le_refl _) _
  have HT0 := Lib.hid (hT.alloc (.cells (gcells G S I J) 23))
  clear hT
  go_enter Tryd.func4, Tryd.ntmps4
  go_wp2_with fail
  refine (awake21 _ HT0.out).mono ?_
  rintro e w1 ⟨rfl, hb1⟩
  have hs1 := hs0.below hb1 hs0.lt
  have HL1 := Lib.hid (HL0.out.trans (hb1.mono HL0.out.size))
  have HT1 := Lib.hid (HT0.out.below hb1 (Nat.le_refl _))
  clear hs0 HL0 HT0 hb1
  go_wp2_with (first | (refine wp_loadAtG rfl 23 (.tmp 2) rfl _ _ _ rfl hs1 Tryd.underlying23 rfl (by kernel_rfl) ?_))
  cases hm : mayG G S I J with
  | false =>
    refine (make_no G S I J hm _).mono ?_
    rintro e w2 ⟨rfl, hb2⟩
    have hs2 := hs1.below hb2 hs1.lt
    have HL2 := Lib.hid (HL1.out.trans (hb2.mono HL1.out.size))
    clear hm hs1 HL1 HT1 hb2
    go_wp2_with (first | (refine wp_loadAtG rfl 23 (.tmp 2) rfl _ _ _ rfl hs2 Tryd.underlying23 rfl (by kernel_rfl) ?_))
    refine (geoStart_any G S I J x w2).mono ?_
    rintro e w3 ⟨rfl, hb3⟩
    have hs3 := hs2.below hb3 hs2.lt
    have HL3 := Lib.hid (HL2.out.trans (hb3.mono HL2.out.size))
    clear hs2 HL2 hb3
    go_wp2_with (first | (refine wp_loadAtG rfl 23 (.tmp 2) rfl _ _ _ rfl hs3 Tryd.underlying23 rfl (by kernel_rfl) ?_))
    refine (geoStart_any G S I J 0 w3).mono ?_
    rintro e w4 ⟨rfl, hb4⟩
    have HL4 := Lib.hid (HL3.out.trans (hb4.mono HL3.out.size))
    clear hs3 HL3 hb4
    go_wp2_with fail
    go_ret
    exact ⟨rfl, HL4.out⟩
  | true =>
  obtain ⟨a1, a2, a3, a4, a5, a6, a7, a8, a9, a10, a11⟩ := (mayG_iff G S I J).1 hm
  obtain ⟨g, rfl⟩ : ∃ g : Nat, G = (g : Int) := ⟨G.toNat, by omega⟩
  obtain ⟨s, rfl⟩ : ∃ s : Nat, S = (s : Int) := ⟨S.toNat, by omega⟩
  obtain ⟨i, rfl⟩ : ∃ i : Nat, I = (i : Int) := ⟨I.toNat, by omega⟩
  obtain ⟨j, rfl⟩ : ∃ j : Nat, J = (j : Int) := ⟨J.toNat, by omega⟩
  clear a1 a2 a3 a4 a5 a6 a7 a8 a9 a10 a11
  have HM := Lib.hid hm
  refine (make_yes g s i j hm _ HT1.out).mono ?_
  rintro e w2 ⟨q, rfl, hi2⟩
  obtain ⟨n, hn⟩ : ∃ n, n = 2 + j + g * s := ⟨_, rfl⟩
  obtain ⟨m1, m2, m3, m4, m5, m6, m7, m8, m9, m10, m11⟩ := mayN hm
  have hn48 : n ≤ 2048 := by omega
  have HN := Lib.hid hn
  have hs2 := hs1.below hi2.bel hs1.lt
  have HL2 := Lib.hid (HL1.out.trans (hi2.bel.mono HL1.out.size))
  have HI := Lib.hid hi2
  rw [← hn]
  clear hn hm hs1 HL1 HT1 hi2
  go_wp2_with (first | (refine wp_loadAtG rfl 23 (.tmp 2) rfl _ _ _ rfl hs2 Tryd.underlying23 rfl (by kernel_rfl) ?_))
  refine (geoStart_any g s i j x w2).mono ?_
  rintro e w3 ⟨rfl, hb3⟩
  have hs3 := hs2.below hb3 hs2.lt
  have HA3 := Lib.hid (HI.out.a.below hb3)
  have HL3 := Lib.hid (HL2.out.trans (hb3.mono HL2.out.size))
  clear hs2 HL2 hb3 HI
  go_wp2_with (first | (refine wp_loadAtG rfl 23 (.tmp 2) rfl _ _ _ rfl hs3 Tryd.underlying23 rfl (by kernel_rfl) ?_))
  refine (geoStart_any g s i j 0 w3).mono ?_
  rintro e w4 ⟨rfl, hb4⟩
  have hs4 := hs3.below hb4 hs3.lt
  have HA4 := Lib.hid (HA3.out.below hb4)
  have HL4 := Lib.hid (HL3.out.trans (hb4.mono HL3.out.size))
  clear hs3 HL3 hb4 HA3
  have h00 : stGr g s i j 0 = 2 + j := by unfold stGr isGr; rw [HM.out, decide_eq_true (show (0 : Int) ≤ 0 by omega), decide_eq_true (show (0 : Int) < (g : Int) by omega)]; simp
  rw [h00]
  clear h00
  by_cases hgr : 1 ≤ x ∧ x < (g : Int)
  rotate_left
  · by_cases h0 : x = 0
    · subst h0
      have h1 : isGr g s i j 0 = true := by unfold isGr; rw [HM.out, decide_eq_true (show (0 : Int) ≤ 0 by omega), decide_eq_true (show (0 : Int) < (g : Int) by omega)]; rfl
      rw [h1]
      clear h1 hs4
      go_wp2_with fail
      go_ret
      exact ⟨rfl, HL4.out⟩
    · have h1 : isGr g s i j x = false := by
        unfold isGr
        rw [HM.out]
        rcases Int.lt_or_lt_of_ne h0 with h | h
        · rw [decide_eq_false (show ¬ 0 ≤ x by omega)]; rfl
        · rw [decide_eq_false (show ¬ x < (g : Int) by omega)]; simp
      rw [h1]
      clear h1 hs4
      go_wp2_with fail
      go_ret
      exact ⟨rfl, HL4.out⟩
  obtain ⟨γ, rfl⟩ : ∃ γ : Nat, x = (γ : Int) := ⟨x.toNat, by omega⟩
  obtain ⟨hg1, hg2⟩ := hgr
  have h1 : isGr g s i j γ = true := by unfold isGr; rw [HM.out, decide_eq_true (show (0 : Int) ≤ (γ : Int) by omega), decide_eq_true hg2]; rfl
  have h2 : stGr g s i j γ = ((2 + j + γ * s : Nat) : Int) := by unfold stGr; rw [h1, if_pos rfl]; push_cast; rfl
  rw [h1, h2]
  clear h1 h2
  obtain ⟨A, hA⟩ : ∃ A, A = 2 + j + γ * s := ⟨_, rfl⟩
  obtain ⟨F, hF⟩ : ∃ F, F = 2 + j := ⟨_, rfl⟩
  have hAn : A + s ≤ n := by
    have : (γ + 1) * s ≤ g * s := Nat.mul_le_mul_right s (by omega)
    rw [Nat.succ_mul] at this
    have := HN.out
    omega
  have hFn : F + s ≤ n := by
    have : 1 * s ≤ g * s := Nat.mul_le_mul_right s (by omega)
    have := HN.out
    omega
  rw [← hA, show (2 : Int) + (j : Int) = (F : Int) by omega]
  have HAA := Lib.hid hA
  have HFF := Lib.hid hF
  have hγ0 : ((γ : Int) == 0) = false := by rw [beq_eq_false_iff_ne]; omega
  have hlt4 := hs4.lt
  have hq4 := HA4.out.lt
  have st4 : Hid (GrS w g s i j q n w4.heap.size w4) := ⟨hs4, by have := HA4.out; rw [← HN.out] at this; exact this, HL4.out, Nat.le_refl _, hlt4, hq4⟩
  clear hs4 HL4 HA4 hA hF
  go_wp2_with fail
  go_loopw [11, 12, 13, 14] (fun u _ _ _ wr => ∃ d : Nat, u = .int .i64 (d : Int) ∧ d ≤ s ∧ GrS w g s i j q n w4.heap.size wr) (fun u _ _ _ _ => s - (intOf u).toNat)
  case atStart => exact ⟨0, rfl, Nat.zero_le _, st4.out⟩
  case round =>
    clear st4
    obtain ⟨d, rfl, hd, st⟩ := hrel
    have c1 : wr.cell? ⟨w.heap.size, 1, none⟩ = some (.int .i64 (s : Int)) := st.x.cell (i := 1) rfl
    by_cases hlt : d < s
    · have hlt' : (d : Int) < (s : Int) := by omega
      have d0 : (0 : Int) ≤ (d : Int) := by omega
      obtain ⟨X, hX⟩ : ∃ X, X = F + d := ⟨_, rfl⟩
      obtain ⟨Y, hY⟩ : ∃ Y, Y = A + d := ⟨_, rfl⟩
      have hXn : X < n := by omega
      have hYn : Y < n := by omega
      have eX : IntKind.i64.wrap ((F : Int) + (d : Int)) = (X : Int) := by rw [show (F : Int) + (d : Int) = (X : Int) by omega]; exact IntWalk.i64_in _ (by omega)
      have eY : IntKind.i64.wrap ((A : Int) + (d : Int)) = (Y : Int) := by rw [show (A : Int) + (d : Int) = (Y : Int) by omega]; exact IntWalk.i64_in _ (by omega)
      have eX' : (F : Int) + (d : Int) = (X : Int) := by omega
      have eY' : (A : Int) + (d : Int) = (Y : Int) := by omega
      have X0 : (0 : Int) ≤ (X : Int) := by omega
      have X1 : (X : Int) < (n : Int) := by omega
      have Y0 : (0 : Int) ≤ (Y : Int) := by omega
      have Y1 : (Y : Int) < (n : Int) := by omega
      have hZ1 := mkB_group (g := g) (i := i) (γ := 0) (d := d) m3 m8 hlt
      have hZ2 := mkB_group (g := g) (i := i) (γ := γ) (d := d) m3 m8 hlt
      rw [Nat.zero_mul, Nat.add_zero, show 2 + j + d = X by have := HFF.out; omega] at hZ1
      rw [show 2 + j + γ * s + d = Y by have := HAA.out; omega] at hZ2
      have HZ1 := Lib.hid hZ1
      have HZ2 := Lib.hid hZ2
      have HX := Lib.hid hX
      have HY := Lib.hid hY
      have ST := Lib.hid st
      clear hZ1 hZ2 hX hY st
      go_wp2_with fail
      apply Tb.wp_region_tab [⟨12, 12, 32, (Ks .u8 256 fun _ => 0).toArray, 14, (Ks .u8 256 (mkB g s i j X)).toArray⟩, ⟨13, 13, 32, (Ks .u8 256 fun _ => 0).toArray, 15, (Ks .u8 256 (mkB g s i j Y)).toArray⟩] (GrS w g s i j q n wr.heap.size) wr.heap.size (A := _) (by kernel_rfl) (by kernel_rfl) (by kernel_rfl) (by kernel_rfl) (by kernel_rfl) (by kernel_rfl) (fun W W' h hb => h.below hb) (fun W W' p h hp ho => h.only hp ho) (fun W h => h.sz) ⟨ST.out.x, ST.out.a.of_block rfl, ST.out.bel.drew, Nat.le_refl _, ST.out.x.lt, ST.out.a.lt⟩
      case hwalk =>
        intro R hR hne
        simp only [Tb.plain, Tb.inAl, Tb.inSt, Tb.skOf, List.map_cons, List.map_nil, List.any_cons, List.any_nil, Nat.reduceAdd, Nat.reduceBEq, Bool.or_false, Bool.or_true, Bool.or_self, Bool.false_eq_true, if_false, if_true]
        first | go_big_quiet_skip | (go_big_quiet_want; go_big_quiet_op; go_big_quiet_on)
        first | go_big_quiet_skip | (go_big_quiet_want; go_big_quiet_op; go_big_quiet_on)
        first | go_big_quiet_skip | (go_big_quiet_want; go_big_quiet_op; go_big_quiet_on)
        first | go_big_quiet_skip | (go_big_quiet_want; go_big_quiet_op; go_big_quiet_on)
        first | go_big_quiet_skip | (go_big_quiet_want; go_big_quiet_op; go_big_quiet_on)
        refine q_load rfl 32 (.tmp 53) rfl q (X * 256) rfl (Ks .u8 256 (mkB g s i j X)) _ (fun W h => by have := h.1.a.seg.range X hXn; rwa [Nat.zero_add] at this) Tryd.underlying32 rfl (by rw [Ks_length]; exact info_block) ?_
        refine wpQuiet_frame (by simp only [Act.put, List.setIfInBounds_toArray, List.set_cons_succ, List.set_cons_zero]; exact rfl) ?_
        first | go_big_quiet_skip | (go_big_quiet_want; go_big_quiet_op; go_big_quiet_on)
        first | go_big_quiet_skip | (go_big_quiet_want; go_big_quiet_op; go_big_quiet_on)
        first | go_big_quiet_skip | (go_big_quiet_want; go_big_quiet_op; go_big_quiet_on)
        first | go_big_quiet_skip | (go_big_quiet_want; go_big_quiet_op; go_big_quiet_on)
        first | go_big_quiet_skip | (go_big_quiet_want; go_big_quiet_op; go_big_quiet_on)
        refine q_load rfl 32 (.tmp 59) rfl q (Y * 256) rfl (Ks .u8 256 (mkB g s i j Y)) _ (fun W h => by have := h.1.a.seg.range Y hYn; rwa [Nat.zero_add] at this) Tryd.underlying32 rfl (by rw [Ks_length]; exact info_block) ?_
        refine wpQuiet_frame (by simp only [Act.put, List.setIfInBounds_toArray, List.set_cons_succ, List.set_cons_zero]; exact rfl) ?_
        exact wpQuiet_nil rfl
      case hal =>
        intro y hy o ho a' W
        rcases List.mem_cons.1 hy with rfl | hy
        · have ho' := Option.some.inj ho
          subst ho'
          exact Tb.alloc_tab rfl a' W
        · rw [List.mem_singleton] at hy
          subst hy
          have ho' := Option.some.inj ho
          subst ho'
          exact Tb.alloc_tab rfl a' W
      case hst =>
        intro y hy o ho
        rcases List.mem_cons.1 hy with rfl | hy
        · have ho' := Option.some.inj ho
          subst ho'
          exact Tb.store_tab 54 (mkB g s i j X) (fun _ => 0) rfl rfl (fun y hy => by
            rcases List.mem_cons.1 hy with rfl | hy
            · show (12 : Nat) ≠ 54; decide
            · rw [List.mem_singleton] at hy; subst hy; show (13 : Nat) ≠ 54; decide) rfl rfl rfl
        · rw [List.mem_singleton] at hy
          subst hy
          have ho' := Option.some.inj ho
          subst ho'
          exact Tb.store_tab 60 (mkB g s i j Y) (fun _ => 0) rfl rfl (fun y hy => by
            rcases List.mem_cons.1 hy with rfl | hy
            · show (12 : Nat) ≠ 60; decide
            · rw [List.mem_singleton] at hy; subst hy; show (13 : Nat) ≠ 60; decide) rfl rfl rfl
      case hend =>
        intro pp w5 st5 hpp hne5
        simp only [List.foldl_cons, List.foldl_nil, Act.put, List.setIfInBounds_toArray, List.set_cons_succ, List.set_cons_zero]
        obtain ⟨hl1, hB1⟩ := hpp _ (List.mem_cons_self)
        obtain ⟨hl2, hB2⟩ := hpp _ (List.mem_cons_of_mem _ (List.mem_singleton.2 rfl))
        have hne := hne5 _ (List.mem_cons_self) _ (List.mem_cons_of_mem _ (List.mem_singleton.2 rfl)) (by intro e; injection e with e; cases e)
        simp only at hl1 hB1 hl2 hB2 hne
        generalize pp 12 = p1 at *
        generalize pp 13 = p2 at *
        have ST5 : Hid (GrT w g s i j q n wr.heap.size p1 p2 (mkB g s i j X) (mkB g s i j Y) w5) := ⟨st5, hB1, hB2, hl1, hl2, hne⟩
        have hbase : w4.heap.size ≤ wr.heap.size := ST.out.sz
        obtain ⟨base, hbs⟩ : ∃ base, base = wr.heap.size := ⟨_, rfl⟩
        rw [← hbs] at ST5 hbase
        clear hpp hne5 st5 hl1 hl2 hB1 hB2 ST c1 eX eY eX' eY' hbs
        have hz1 := HZ1.out
        have hz2 := HZ2.out
        have hγ1 : ¬ γ = 0 := by omega
        rw [if_neg (by omega), if_neg hγ1] at hz2
        obtain ⟨y1, hy1⟩ : ∃ y1, y1 = mkB g s i j X := ⟨_, rfl⟩
        obtain ⟨y2, hy2⟩ : ∃ y2, y2 = mkB g s i j Y := ⟨_, rfl⟩
        rw [← hy1] at hz1
        rw [← hy2] at hz2
        rw [← hy1, ← hy2] at ST5
        rw [← hy1, ← hy2]
        clear hy1 hy2 HZ1 HZ2
        have hb1 := ST5.out.b1
        have hb2 := ST5.out.b2
        by_cases hd1 : d = 1
        · rw [if_neg (by omega), if_neg (by omega), if_pos hd1] at hz1
          simp only [if_true] at hz1
          rw [if_neg (by omega), if_pos hd1] at hz2
          obtain ⟨ho, ha, he⟩ := gr_bits m5
          rw [← hz1, ← hz2] at ho he
          rw [← hz2] at ha
          have q1 : ((d : Int) == 1) = true := by rw [beq_iff_eq]; omega
          have q2 : ((d : Int) == 2) = false := by rw [beq_eq_false_iff_ne]; omega
          have b0 : w5.cell? ⟨p1, 0, none⟩ = some (.int .u8 (y1 0)) := by have := hb1.seg 0 (by omega); simpa using this
          have e0 : w5.cell? ⟨p2, 0, none⟩ = some (.int .u8 (y2 0)) := by have := hb2.seg 0 (by omega); simpa using this
          have f0 : w5.frozen? ⟨p1, 0, none⟩ = false := soft_of_heap hb1 0
          have qn : (y1 0 != y1 0) = false := by simp
          have ST6 := Lib.hid (ST5.out.turn (k := 0) (by omega) (y2 0))
          have hc1 := ST6.out.b1
          have hc2 := ST6.out.b2
          have hneq := neq_no (y1 := over y1 0 1 fun _ => y2 0) (y2 := y2) (fun k hk => by
            unfold over
            by_cases h0 : k = 0
            · rw [if_pos (by omega), h0]
            · rw [if_neg (by omega)]; exact he k (by omega))
          have ST7 : Hid (GrS w g s i j q n w4.heap.size (w5.setCell ⟨p1, 0, none⟩ (.int .u8 (y2 0)))) := ST6.out.s.low hbase hlt4 hq4
          clear hz1 hz2 he ST5 ST6 hb1 hb2 hd1
          go_wp2_with (first | (refine wp_loadBlkG rfl (.tmp 12) rfl _ _ rfl hc1 ?_) | (refine wp_loadBlkG rfl (.tmp 13) rfl _ _ rfl hc2 ?_))
          go_roundw
          case rel => first | exact ⟨d + 1, by first | rfl | go_num, by omega, ST7.out⟩ | ((repeat apply Exists.intro); exact ⟨⟨d + 1, by first | rfl | go_num, by omega, ST7.out⟩, rfl⟩)
          case measure => simp [intOf]; omega
        have q1 : ((d : Int) == 1) = false := by rw [beq_eq_false_iff_ne]; omega
        by_cases hd2 : d = 2
        · have q2 : ((d : Int) == 2) = true := by rw [beq_iff_eq]; omega
          rw [if_pos (by first | exact ⟨rfl, hd2⟩ | exact ⟨trivial, hd2⟩)] at hz1
          rw [if_neg (by omega), if_neg (by omega)] at hz2
          have hhi : Hid (∀ k, 64 ≤ k → y1 k = y2 k) := fun k hk => by rw [hz1, hz2, rootZ_hi hk]
          have stI : Hid (GrT w g s i j q n base p1 p2 (fun x => if x < 0 then y2 x else y1 x) y2 w5) := ST5.out.congr (fun k _ => by rw [if_neg (by omega)])
          clear hz1 hz2 ST5 hb1 hb2 hd2
          go_wp2_with fail
          go_loopw [14] (fun u wr => ∃ k : Nat, u = .int .i64 (k : Int) ∧ k ≤ 64 ∧ GrT w g s i j q n base p1 p2 (fun x => if x < k then y2 x else y1 x) y2 wr) (fun u _ => 64 - (intOf u).toNat)
          case atStart => exact ⟨0, rfl, Nat.zero_le _, stI.out⟩
          case round =>
            clear stI
            obtain ⟨k, rfl, hk, st⟩ := hrel
            by_cases hlk : k < 64
            · have hlk' : (k : Int) < 64 := by omega
              have hlk2 : (k : Int) < 256 := by omega
              have k0 : (0 : Int) ≤ (k : Int) := by omega
              have e0 : wr.cell? ⟨p2, k, none⟩ = some (.int .u8 (y2 k)) := by have := st.b2.seg k (by omega); rwa [Nat.zero_add] at this
              have b0 : wr.cell? ⟨p1, k, none⟩ = some (.int .u8 (if k < k then y2 k else y1 k)) := by have := st.b1.seg k (by omega); rwa [Nat.zero_add] at this
              have f0 : wr.frozen? ⟨p1, k, none⟩ = false := soft_of_heap st.b1 k
              have st2 : Hid (GrT w g s i j q n base p1 p2 (fun x => if x < k + 1 then y2 x else y1 x) y2 (wr.setCell ⟨p1, k, none⟩ (.int .u8 (y2 k)))) := (st.turn (k := k) (by omega) (y2 k)).congr (fun x _ => by
                unfold over
                by_cases hx : x = k
                · rw [if_pos (by omega), if_pos (by omega), hx]
                · rw [if_neg (by omega)]
                  show (if x < k then y2 x else y1 x) = _
                  by_cases hx2 : x < k
                  · rw [if_pos hx2, if_pos (by omega)]
                  · rw [if_neg hx2, if_neg (by omega)])
              clear st
              go_wp2_with fail
              go_roundw
              case rel => first | exact ⟨k + 1, by first | rfl | go_num, by omega, st2.out⟩ | ((repeat apply Exists.intro); exact ⟨⟨k + 1, by first | rfl | go_num, by omega, st2.out⟩, rfl⟩)
              case measure => simp [intOf]; omega
            · obtain rfl : k = 64 := by omega
              have hc1 := st.b1
              have hc2 := st.b2
              have hneq := neq_no (y1 := fun x => if x < 64 then y2 x else y1 x) (y2 := y2) (fun k hk => by
                by_cases h0 : k < 64
                · show (if k < 64 then y2 k else y1 k) = _; rw [if_pos h0]
                · show (if k < 64 then y2 k else y1 k) = _; rw [if_neg h0]; exact hhi.out k (by omega))
              have ST7 : Hid (GrS w g s i j q n w4.heap.size wr) := st.s.low hbase hlt4 hq4
              clear st
              go_wp2_with (first | (refine wp_loadBlkG rfl (.tmp 12) rfl _ _ rfl hc1 ?_) | (refine wp_loadBlkG rfl (.tmp 13) rfl _ _ rfl hc2 ?_))
              go_roundw
              case rel => first | exact ⟨d + 1, by first | rfl | go_num, by omega, ST7.out⟩ | ((repeat apply Exists.intro); exact ⟨⟨d + 1, by first | rfl | go_num, by omega, ST7.out⟩, rfl⟩)
              case measure => simp [intOf]; omega
        · have q2 : ((d : Int) == 2) = false := by rw [beq_eq_false_iff_ne]; omega
          have heq : y1 = y2 := by
            rw [if_neg (by omega)] at hz1
            rw [hz1, hz2, if_neg hd1, if_neg hd1]
          have hneq := neq_no (y1 := y1) (y2 := y2) (fun k hk => by rw [heq])
          have ST7 : Hid (GrS w g s i j q n w4.heap.size w5) := ST5.out.s.low hbase hlt4 hq4
          clear hz1 hz2 heq hd1 hd2 ST5
          go_wp2_with (first | (refine wp_loadBlkG rfl (.tmp 12) rfl _ _ rfl hb1 ?_) | (refine wp_loadBlkG rfl (.tmp 13) rfl _ _ rfl hb2 ?_))
          go_roundw
          case rel => first | exact ⟨d + 1, by first | rfl | go_num, by omega, ST7.out⟩ | ((repeat apply Exists.intro); exact ⟨⟨d + 1, by first | rfl | go_num, by omega, ST7.out⟩, rfl⟩)
          case measure => simp [intOf]; omega
    · obtain rfl : d = s := by omega
      have HL9 := Lib.hid st.bel
      clear st
      go_wp2_with fail
      go_ret
      exact ⟨rfl, HL9.out⟩
end Go.Proofs.YtopakpmepioomaaDoor
