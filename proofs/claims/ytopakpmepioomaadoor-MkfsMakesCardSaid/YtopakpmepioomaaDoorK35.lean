/- Texts of this claim, merged by a program (a claim may have 60 files): U6s. -/
import Derived.Test.YtopakpmepioomaaDoorK34
/- quernref06.Write. Printed by gen_u6s.py. -/
namespace Go.Proofs.YtopakpmepioomaaDoor
open Go.RowKit
set_option linter.unusedVariables false

structure WrC (w : World) (G S I J O : Int) (g : Nat) (l : Nat → Int) (k : Nat) (v : Int) (j : Nat) (W : World) : Prop where
  s : At W w.heap.size 42 (scells G S I J O)
  r : Blk W (w.heap.size + 1) 32 256 (fun _ => 0)
  b : Blk W g 32 256 (hz (if j = 0 then l else upd l k v))
  bel : Below w.heap.size w W
structure WrD (w : World) (G S I J O : Int) (g : Nat) (l : Nat → Int) (j : Nat) (W : World) : Prop where
  s : At W w.heap.size 42 (scells G S I J O)
  r : Blk W (w.heap.size + 1) 32 256 (fun _ => 0)
  b : Blk W g 32 256 (hz (if j = 0 then l else upd2 l 8 O))
  bel : Below w.heap.size w W

set_option maxRecDepth 100000 in
set_option maxHeartbeats 4000000 in
theorem rsWrite_any (G S I J O : Int) (hO : 0 ≤ O ∧ O < 4294967296) (w : World) :
    Calls Tryd.prog 24 #[sval G S I J O] w fun e w' => e = .returned (.tuple #[bval (supZ G S I J O), .int .i64 (supE G S I J O)]) ∧ Below w.heap.size w w' := by
  have hal := zero_block
  obtain ⟨W, hW⟩ : ∃ W, W = (w.alloc (.cells (scells G S I J O) 42)).alloc (.cells (Ks .u8 256 (fun _ => 0)).toArray 32) := ⟨_, rfl⟩
  have hS : At W w.heap.size 42 (scells G S I J O) := by rw [hW]; exact (At.new w _ _).alloc _
  have hR : Blk W (w.heap.size + 1) 32 256 (fun _ => 0) := by
    rw [hW]
    have := Blk.new (w.alloc (.cells (scells G S I J O) 42)) 32 256 (fun _ => 0)
    simp only [World.size_alloc] at this
    exact this
  have hL : Below w.heap.size w W := by rw [hW]; exact ((Below.refl _ _).alloc (Nat.le_refl _) _).alloc (by simp) _
  have HW := Lib.hid hW
  clear hW
  go_enter Tryd.func24, Tryd.ntmps24
  have hS0 : At ((w.alloc (.cells (scells G S I J O) 42)).alloc (.cells (Ks .u8 256 (fun _ => 0)).toArray 32)) w.heap.size 42 (scells G S I J O) := (At.new w _ _).alloc _
  have hg0 := hS0.geo
  go_wp2_with (first | (refine wp_loadRange rfl 23 (.tmp 5) rfl w.heap.size 0 (gcells G S I J).toList _ rfl hg0 Tryd.underlying23 rfl (by kernel_rfl) ?_))
  rw [← HW.out]
  clear HW hS0 hg0
  refine (rMay5_any G S I J W).mono ?_
  rintro e w1 ⟨rfl, hb1⟩
  have hS1 := hS.below hb1 hS.lt
  have hR1 := hR.below hb1 hR.lt
  have hL1 : Below w.heap.size w w1 := hL.trans (hb1.mono hL.size)
  clear hS hR hL hb1
  cases hm : mayG G S I J with
  | false =>
    have HO : Hid (supOk G S I J O = false ∧ supE G S I J O = 50) := by show _ ∧ _; unfold supOk supE; rw [hm]; exact ⟨rfl, rfl⟩
    clear hm
    go_wp2_with (first | (refine wp_storeBlk rfl (.tmp 2) (.tmp 9) rfl (w.heap.size + 1) (fun _ => 0) _ rfl rfl hR1 ?_))
    intro w2 hR2 ho2
    go_wp2_with fail
    exact bodyPost_ret (results_blk2 rfl _ _ (w.heap.size + 1) _ rfl hR2) rfl ⟨by rw [supZ, HO.out.1, HO.out.2]; rfl, hL1.trans (ho2.below (by omega))⟩
  | true =>
  have HM := Lib.hid hm
  obtain ⟨p1, p2, p3, p4, p5, p6, p7, p8, p9, p10, p11⟩ := (mayG_iff G S I J).1 hm
  have hgi := GI_bd p1 p2 p5 p6
  have hw : IntKind.i64.wrap (G * I) = G * I := IntWalk.i64_in _ (by omega)
  have hnI : Hid (nIn G S I J = G * I) := by show _ = _; unfold nIn; rw [hm]; rfl
  have hwo : IntKind.i64.wrap O = O := IntWalk.i64_in _ (by omega)
  have c0 : w1.cell? ⟨w.heap.size, 0, none⟩ = some (.int .i64 G) := hS1.cell (i := 0) rfl
  have c2 : w1.cell? ⟨w.heap.size, 2, none⟩ = some (.int .i64 I) := hS1.cell (i := 2) rfl
  have c4 : w1.cell? ⟨w.heap.size, 4, none⟩ = some (.int .u32 O) := hS1.cell (i := 4) rfl
  clear hm p7 p10 p11
  by_cases ho : O ≤ G * I
  rotate_left
  · have HO : Hid (supOk G S I J O = false ∧ supE G S I J O = 2) := by
      show _ ∧ _
      unfold supOk supE; rw [HM.out, hnI.out, if_pos rfl, if_neg ho, decide_eq_false ho]; exact ⟨rfl, rfl⟩
    have hq : decide (G * I < O) = true := by rw [decide_eq_true_eq]; omega
    clear ho
    go_wp2_with (first | (refine wp_storeBlk rfl (.tmp 2) (.tmp 21) rfl (w.heap.size + 1) (fun _ => 0) _ rfl rfl hR1 ?_))
    intro w3 hR3 ho3
    go_wp2_with fail
    exact bodyPost_ret (results_blk2 rfl _ _ (w.heap.size + 1) _ rfl hR3) rfl ⟨by rw [supZ, HO.out.1, HO.out.2]; rfl, hL1.trans (ho3.below (by omega))⟩
  have hq : decide (G * I < O) = false := by rw [decide_eq_false_iff_not]; omega
  have HO : Hid (supOk G S I J O = true ∧ supE G S I J O = 0) := by
    show _ ∧ _
    unfold supOk supE; rw [HM.out, hnI.out, if_pos rfl, if_pos ho, decide_eq_true ho]; exact ⟨rfl, rfl⟩
  clear ho
  have hgl1 := hR1.lt
  obtain ⟨g, hg⟩ : ∃ g, g = w1.heap.size := ⟨_, rfl⟩
  have hg2 : w.heap.size + 2 ≤ g := by omega
  have st0 : Hid (WrC w G S I J O g (fun _ => 0) 0 0 0 (w1.alloc (.cells (Ks .u8 256 (fun _ => 0)).toArray 32))) :=
    ⟨hS1.alloc _, hR1.alloc _, by rw [hg]; exact (Blk.new w1 _ _ _).congr fun i _ => (hz_zero i).symm, hL1.alloc hL1.size _⟩
  have hsa := fun W => run_sliceBlkAll g 0 W
  have hsa1 := hsa
  rw [hg] at hsa1
  clear hS1 hR1 hL1 hgl1
  go_wp2_with fail
  rw [← hg]
  clear hg hsa1 hq c0 c2 c4 hw hgi
  have e1 : G % 4294967296 = G := by omega
  have e2 : S % 4294967296 = S := by omega
  have e3 : I % 4294967296 = I := by omega
  have e4 : J % 4294967296 = J := by omega
  refine (rputH4 g _ 0 0 827216465 rfl (by omega) (by omega) (by omega) _ st0.out.b).mono ?_
  rintro e w2 ⟨rfl, hB2, ho2⟩
  have st1 : Hid (WrC w G S I J O g (upd2 (fun _ => 0) 0 827216465) 0 0 0 w2) := ⟨st0.out.s.only ho2 (by omega), st0.out.r.only ho2 (by omega), hB2, st0.out.bel.trans (ho2.below (by omega))⟩
  clear st0 hB2 ho2
  go_wp2_with fail
  refine (rputH g _ 2 4 1 rfl (by omega) (by omega) (by omega) _ st1.out.b).mono ?_
  rintro e w3 ⟨rfl, hB3, ho3⟩
  have st2 : Hid (WrC w G S I J O g (upd (upd2 (fun _ => 0) 0 827216465) 2 1) 0 0 0 w3) := ⟨st1.out.s.only ho3 (by omega), st1.out.r.only ho3 (by omega), hB3, st1.out.bel.trans (ho3.below (by omega))⟩
  clear st1 hB3 ho3
  go_wp2_with fail
  refine (rputH g _ 3 6 256 rfl (by omega) (by omega) (by omega) _ st2.out.b).mono ?_
  rintro e w4 ⟨rfl, hB4, ho4⟩
  have st3 : WrC w G S I J O g (upd (upd (upd2 (fun _ => 0) 0 827216465) 2 1) 3 256) 0 0 0 w4 := ⟨st2.out.s.only ho4 (by omega), st2.out.r.only ho4 (by omega), hB4, st2.out.bel.trans (ho4.below (by omega))⟩
  clear st2 hB4 ho4
  obtain ⟨l3, hl3⟩ : ∃ l, l = upd (upd (upd2 (fun _ => 0) 0 827216465) 2 1) 3 256 := ⟨_, rfl⟩
  rw [← hl3] at st3
  have HL3 := Lib.hid hl3
  clear hl3
  have hf4 : ∀ x : InW (fun W => ∃ j, WrC w G S I J O g l3 4 G j W), x.W.cell? ⟨w.heap.size, 0, none⟩ = some (.int .i64 G) := fun x => by obtain ⟨j, h⟩ := x.h; exact h.s.cell (i := 0) rfl
  go_wp2_with fail
  refine wp_region_lin (WrC w G S I J O g l3 4 G) (by kernel_rfl) (by kernel_rfl) (by kernel_rfl) ⟨st3.s, st3.r, st3.b, st3.bel.drew⟩ ?_
  clear st3
  intro hne
  (refine lin_take 5 (by kernel_rfl) ?_; simp only [List.take_succ_cons, List.take_zero, List.drop_succ_cons, List.drop_zero])
  first | go_big_quiet_skip | (go_big_quiet_want; go_big_quiet_op; go_big_quiet_on)
  first | go_big_quiet_skip | (go_big_quiet_want; go_big_quiet_op; go_big_quiet_on)
  first | go_big_quiet_skip | (go_big_quiet_want; go_big_quiet_op; go_big_quiet_on)
  first | go_big_quiet_skip | (go_big_quiet_want; go_big_quiet_op; go_big_quiet_on)
  first | go_big_quiet_skip | (go_big_quiet_want; go_big_quiet_op; go_big_quiet_on)
  refine wpQuiet_nil ?_
  refine lin_call rfl rfl 50 #[.slice (some ⟨g, 0, none⟩) 256 256, .int .i64 8, .int .u32 G] (.bool true) (fun W => by kernel_rfl) (fun W h => ?c4) ?_
  case c4 =>
    refine (rputH g l3 4 8 G rfl (by omega) (by omega) (by omega) W h.b).mono ?_
    rintro e w6 ⟨rfl, hB6, ho6⟩
    exact ⟨rfl, h.s.only ho6 (by omega), h.r.only ho6 (by omega), hB6, h.bel.trans (ho6.below (by omega))⟩
  refine wpLin_frame (by simp only [Act.put, List.setIfInBounds_toArray, List.set_cons_succ, List.set_cons_zero]; exact rfl) ?_
  refine wpLin_nil ?_
  intro w14 st4'
  have st4 : WrC w G S I J O g (upd l3 4 G) 0 0 0 w14 := ⟨st4'.s, st4'.r, st4'.b, st4'.bel⟩
  clear hne hf4 st4'
  obtain ⟨l4, hl4⟩ : ∃ l, l = upd l3 4 G := ⟨_, rfl⟩
  rw [← hl4] at st4
  have HL4 := Lib.hid hl4
  clear hl4
  have hf5 : ∀ x : InW (fun W => ∃ j, WrC w G S I J O g l4 5 S j W), x.W.cell? ⟨w.heap.size, 1, none⟩ = some (.int .i64 S) := fun x => by obtain ⟨j, h⟩ := x.h; exact h.s.cell (i := 1) rfl
  go_wp2_with fail
  refine wp_region_lin (WrC w G S I J O g l4 5 S) (by kernel_rfl) (by kernel_rfl) (by kernel_rfl) ⟨st4.s, st4.r, st4.b, st4.bel.drew⟩ ?_
  clear st4
  intro hne
  (refine lin_take 5 (by kernel_rfl) ?_; simp only [List.take_succ_cons, List.take_zero, List.drop_succ_cons, List.drop_zero])
  first | go_big_quiet_skip | (go_big_quiet_want; go_big_quiet_op; go_big_quiet_on)
  first | go_big_quiet_skip | (go_big_quiet_want; go_big_quiet_op; go_big_quiet_on)
  first | go_big_quiet_skip | (go_big_quiet_want; go_big_quiet_op; go_big_quiet_on)
  first | go_big_quiet_skip | (go_big_quiet_want; go_big_quiet_op; go_big_quiet_on)
  first | go_big_quiet_skip | (go_big_quiet_want; go_big_quiet_op; go_big_quiet_on)
  refine wpQuiet_nil ?_
  refine lin_call rfl rfl 50 #[.slice (some ⟨g, 0, none⟩) 256 256, .int .i64 10, .int .u32 S] (.bool true) (fun W => by kernel_rfl) (fun W h => ?c5) ?_
  case c5 =>
    refine (rputH g l4 5 10 S rfl (by omega) (by omega) (by omega) W h.b).mono ?_
    rintro e w6 ⟨rfl, hB6, ho6⟩
    exact ⟨rfl, h.s.only ho6 (by omega), h.r.only ho6 (by omega), hB6, h.bel.trans (ho6.below (by omega))⟩
  refine wpLin_frame (by simp only [Act.put, List.setIfInBounds_toArray, List.set_cons_succ, List.set_cons_zero]; exact rfl) ?_
  refine wpLin_nil ?_
  intro w15 st5'
  have st5 : WrC w G S I J O g (upd l4 5 S) 0 0 0 w15 := ⟨st5'.s, st5'.r, st5'.b, st5'.bel⟩
  clear hne hf5 st5'
  obtain ⟨l5, hl5⟩ : ∃ l, l = upd l4 5 S := ⟨_, rfl⟩
  rw [← hl5] at st5
  have HL5 := Lib.hid hl5
  clear hl5
  have hf6 : ∀ x : InW (fun W => ∃ j, WrC w G S I J O g l5 6 I j W), x.W.cell? ⟨w.heap.size, 2, none⟩ = some (.int .i64 I) := fun x => by obtain ⟨j, h⟩ := x.h; exact h.s.cell (i := 2) rfl
  go_wp2_with fail
  refine wp_region_lin (WrC w G S I J O g l5 6 I) (by kernel_rfl) (by kernel_rfl) (by kernel_rfl) ⟨st5.s, st5.r, st5.b, st5.bel.drew⟩ ?_
  clear st5
  intro hne
  (refine lin_take 5 (by kernel_rfl) ?_; simp only [List.take_succ_cons, List.take_zero, List.drop_succ_cons, List.drop_zero])
  first | go_big_quiet_skip | (go_big_quiet_want; go_big_quiet_op; go_big_quiet_on)
  first | go_big_quiet_skip | (go_big_quiet_want; go_big_quiet_op; go_big_quiet_on)
  first | go_big_quiet_skip | (go_big_quiet_want; go_big_quiet_op; go_big_quiet_on)
  first | go_big_quiet_skip | (go_big_quiet_want; go_big_quiet_op; go_big_quiet_on)
  first | go_big_quiet_skip | (go_big_quiet_want; go_big_quiet_op; go_big_quiet_on)
  refine wpQuiet_nil ?_
  refine lin_call rfl rfl 50 #[.slice (some ⟨g, 0, none⟩) 256 256, .int .i64 12, .int .u32 I] (.bool true) (fun W => by kernel_rfl) (fun W h => ?c6) ?_
  case c6 =>
    refine (rputH g l5 6 12 I rfl (by omega) (by omega) (by omega) W h.b).mono ?_
    rintro e w6 ⟨rfl, hB6, ho6⟩
    exact ⟨rfl, h.s.only ho6 (by omega), h.r.only ho6 (by omega), hB6, h.bel.trans (ho6.below (by omega))⟩
  refine wpLin_frame (by simp only [Act.put, List.setIfInBounds_toArray, List.set_cons_succ, List.set_cons_zero]; exact rfl) ?_
  refine wpLin_nil ?_
  intro w16 st6'
  have st6 : WrC w G S I J O g (upd l5 6 I) 0 0 0 w16 := ⟨st6'.s, st6'.r, st6'.b, st6'.bel⟩
  clear hne hf6 st6'
  obtain ⟨l6, hl6⟩ : ∃ l, l = upd l5 6 I := ⟨_, rfl⟩
  rw [← hl6] at st6
  have HL6 := Lib.hid hl6
  clear hl6
  have hf7 : ∀ x : InW (fun W => ∃ j, WrC w G S I J O g l6 7 J j W), x.W.cell? ⟨w.heap.size, 3, none⟩ = some (.int .i64 J) := fun x => by obtain ⟨j, h⟩ := x.h; exact h.s.cell (i := 3) rfl
  go_wp2_with fail
  refine wp_region_lin (WrC w G S I J O g l6 7 J) (by kernel_rfl) (by kernel_rfl) (by kernel_rfl) ⟨st6.s, st6.r, st6.b, st6.bel.drew⟩ ?_
  clear st6
  intro hne
  (refine lin_take 5 (by kernel_rfl) ?_; simp only [List.take_succ_cons, List.take_zero, List.drop_succ_cons, List.drop_zero])
  first | go_big_quiet_skip | (go_big_quiet_want; go_big_quiet_op; go_big_quiet_on)
  first | go_big_quiet_skip | (go_big_quiet_want; go_big_quiet_op; go_big_quiet_on)
  first | go_big_quiet_skip | (go_big_quiet_want; go_big_quiet_op; go_big_quiet_on)
  first | go_big_quiet_skip | (go_big_quiet_want; go_big_quiet_op; go_big_quiet_on)
  first | go_big_quiet_skip | (go_big_quiet_want; go_big_quiet_op; go_big_quiet_on)
  refine wpQuiet_nil ?_
  refine lin_call rfl rfl 50 #[.slice (some ⟨g, 0, none⟩) 256 256, .int .i64 14, .int .u32 J] (.bool true) (fun W => by kernel_rfl) (fun W h => ?c7) ?_
  case c7 =>
    refine (rputH g l6 7 14 J rfl (by omega) (by omega) (by omega) W h.b).mono ?_
    rintro e w6 ⟨rfl, hB6, ho6⟩
    exact ⟨rfl, h.s.only ho6 (by omega), h.r.only ho6 (by omega), hB6, h.bel.trans (ho6.below (by omega))⟩
  refine wpLin_frame (by simp only [Act.put, List.setIfInBounds_toArray, List.set_cons_succ, List.set_cons_zero]; exact rfl) ?_
  refine wpLin_nil ?_
  intro w17 st7'
  have st7 : WrC w G S I J O g (upd l6 7 J) 0 0 0 w17 := ⟨st7'.s, st7'.r, st7'.b, st7'.bel⟩
  clear hne hf7 st7'
  obtain ⟨l7, hl7⟩ : ∃ l, l = upd l6 7 J := ⟨_, rfl⟩
  rw [← hl7] at st7
  have HL7 := Lib.hid hl7
  clear hl7
  have hf8 : ∀ x : InW (fun W => ∃ j, WrD w G S I J O g l7 j W), x.W.cell? ⟨w.heap.size, 4, none⟩ = some (.int .u32 O) := fun x => by obtain ⟨j, h⟩ := x.h; exact h.s.cell (i := 4) rfl
  go_wp2_with fail
  refine wp_region_lin (WrD w G S I J O g l7) (by kernel_rfl) (by kernel_rfl) (by kernel_rfl) ⟨st7.s, st7.r, st7.b, st7.bel.drew⟩ ?_
  clear st7
  intro hne
  (refine lin_take 3 (by kernel_rfl) ?_; simp only [List.take_succ_cons, List.take_zero, List.drop_succ_cons, List.drop_zero])
  first | go_big_quiet_skip | (go_big_quiet_want; go_big_quiet_op; go_big_quiet_on)
  first | go_big_quiet_skip | (go_big_quiet_want; go_big_quiet_op; go_big_quiet_on)
  first | go_big_quiet_skip | (go_big_quiet_want; go_big_quiet_op; go_big_quiet_on)
  refine wpQuiet_nil ?_
  refine lin_call rfl rfl 49 #[.slice (some ⟨g, 0, none⟩) 256 256, .int .i64 16, .int .u32 O] (.bool true) (fun W => by kernel_rfl) (fun W h => ?c8) ?_
  case c8 =>
    refine (rputH4 g l7 8 16 O rfl (by omega) hO.1 hO.2 W h.b).mono ?_
    rintro e w6 ⟨rfl, hB6, ho6⟩
    exact ⟨rfl, h.s.only ho6 (by omega), h.r.only ho6 (by omega), hB6, h.bel.trans (ho6.below (by omega))⟩
  refine wpLin_frame (by simp only [Act.put, List.setIfInBounds_toArray, List.set_cons_succ, List.set_cons_zero]; exact rfl) ?_
  refine wpLin_nil ?_
  rintro w18 ⟨_, hR18, hB18, hL18⟩
  rw [if_neg (by decide)] at hB18
  have HLL : Hid (upd2 l7 8 O = supH G S I J O) := by show _ = _; rw [HL7.out, HL6.out, HL5.out, HL4.out, HL3.out]; rfl
  rw [HLL.out] at hB18
  clear hne hf8 hsa HLL HL3 HL4 HL5 HL6 HL7
  go_wp2_with (first | (refine wp_loadBlk rfl (.tmp 4) rfl g (hz (supH G S I J O)) rfl hB18 ?_))
  refine (rsealed_any _ (hz_byt _) _).mono ?_
  rintro e w19 ⟨rfl, hb19⟩
  have hR19 := hR18.below hb19 hR18.lt
  have hL19 : Below w.heap.size w w19 := hL18.trans (hb19.mono hL18.size)
  clear hR18 hB18 hL18 hb19
  go_wp2_with (first | (refine wp_storeBlk rfl (.tmp 2) (.tmp 57) rfl (w.heap.size + 1) (sealZ (hz (supH G S I J O))) _ rfl rfl hR19 ?_))
  intro w20 hR20 ho20
  go_wp2_with fail
  exact bodyPost_ret (results_blk2 rfl _ _ (w.heap.size + 1) _ rfl hR20) rfl ⟨by rw [supZ, HO.out.1, HO.out.2]; rfl, hL19.trans (ho20.below (by omega))⟩
end Go.Proofs.YtopakpmepioomaaDoor
