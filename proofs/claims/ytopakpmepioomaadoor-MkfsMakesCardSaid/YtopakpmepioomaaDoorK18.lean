/- Texts of this claim, merged by a program (a claim may have 60 files): Geo3, MkA. -/
import Derived.Test.YtopakpmepioomaaDoorK05
import Derived.Test.YtopakpmepioomaaDoorK04
import Derived.Test.YtopakpmepioomaaDoorK13
import Derived.Test.YtopakpmepioomaaDoorK02
import Derived.Test.YtopakpmepioomaaDoorK15
import Derived.Test.YtopakpmepioomaaDoorK17
/- geo.Blocks, geo.Start. -/
namespace Go.Proofs.YtopakpmepioomaaDoor
open Go.RowKit
set_option linter.unusedVariables false

set_option maxHeartbeats 2000000 in
theorem geoBlocks_any (G S I J : Int) (w : World) : Calls Tryd.prog 28 #[gval G S I J] w fun e w' => e = .returned (.int .i64 (nBl G S I J)) ∧ Below w.heap.size w w' := by
  have HA := Lib.hid (At.new w 23 (gcells G S I J))
  have HL : Hid (Below w.heap.size w (w.alloc (.cells (gcells G S I J) 23))) := (Below.refl _ _).alloc (Nat.le_refl _) _
  go_enter Tryd.func28, Tryd.ntmps28
  have hA := HA.out
  go_wp2_with (first | (refine wp_loadAtG rfl 23 _ rfl _ _ _ rfl hA Tryd.underlying23 rfl (by kernel_rfl) ?_))
  refine (geoMay_any G S I J _).mono ?_
  rintro e w1 ⟨rfl, hb1⟩
  have hA1 := hA.below hb1 hA.lt
  have hL1 : Below w.heap.size w w1 := HL.out.trans (hb1.mono HL.out.size)
  clear hA HA HL hb1
  cases hm : mayG G S I J with
  | false =>
    have HN : Hid (nBl G S I J = 0) := by show _ = _; unfold nBl; rw [hm]; rfl
    clear hm
    go_wp2_with fail
    go_ret
    exact ⟨by rw [HN.out]; rfl, hL1⟩
  | true =>
    have HN : Hid (nBl G S I J = 2 + J + G * S) := by show _ = _; unfold nBl; rw [hm]; rfl
    obtain ⟨h1, h2, h3, h4, h5, h6, h7, h8, h9, h10, h11⟩ := (mayG_iff G S I J).1 hm
    have hg0 : 0 ≤ G * S := Int.mul_nonneg (by omega) (by omega)
    have hw : IntKind.i64.wrap (G * S) = G * S := IntWalk.i64_in _ (by omega)
    have hw1 : IntKind.i64.wrap (2 + J) = 2 + J := IntWalk.i64_in _ (by omega)
    have hw2 : IntKind.i64.wrap (2 + J + G * S) = 2 + J + G * S := IntWalk.i64_in _ (by omega)
    have c0 : w1.cell? ⟨w.heap.size, 0, none⟩ = some (.int .i64 G) := hA1.cell (i := 0) rfl
    have c1 : w1.cell? ⟨w.heap.size, 1, none⟩ = some (.int .i64 S) := hA1.cell (i := 1) rfl
    have c3 : w1.cell? ⟨w.heap.size, 3, none⟩ = some (.int .i64 J) := hA1.cell (i := 3) rfl
    clear hm h11
    go_wp2_with fail
    go_ret
    exact ⟨by rw [HN.out]; rfl, hL1⟩
/-- is there such a group? -/
def isGr (G S I J k : Int) : Bool := mayG G S I J && (decide (0 ≤ k) && decide (k < G))
def stGr (G S I J k : Int) : Int := if isGr G S I J k then 2 + J + k * S else 0
set_option maxHeartbeats 2000000 in
theorem geoStart_any (G S I J k : Int) (w : World) : Calls Tryd.prog 12 #[gval G S I J, .int .i64 k] w fun e w' => e = .returned (.tuple #[.int .i64 (stGr G S I J k), .bool (isGr G S I J k)]) ∧ Below w.heap.size w w' := by
  have HA := Lib.hid (At.new w 23 (gcells G S I J))
  have HL : Hid (Below w.heap.size w (w.alloc (.cells (gcells G S I J) 23))) := (Below.refl _ _).alloc (Nat.le_refl _) _
  go_enter Tryd.func12, Tryd.ntmps12
  have hA := HA.out
  go_wp2_with (first | (refine wp_loadAtG rfl 23 _ rfl _ _ _ rfl hA Tryd.underlying23 rfl (by kernel_rfl) ?_))
  refine (geoMay_any G S I J _).mono ?_
  rintro e w1 ⟨rfl, hb1⟩
  have hA1 := hA.below hb1 hA.lt
  have hL1 : Below w.heap.size w w1 := HL.out.trans (hb1.mono HL.out.size)
  clear hA HA HL hb1
  have c0 : w1.cell? ⟨w.heap.size, 0, none⟩ = some (.int .i64 G) := hA1.cell (i := 0) rfl
  have c1 : w1.cell? ⟨w.heap.size, 1, none⟩ = some (.int .i64 S) := hA1.cell (i := 1) rfl
  have c3 : w1.cell? ⟨w.heap.size, 3, none⟩ = some (.int .i64 J) := hA1.cell (i := 3) rfl
  cases hm : mayG G S I J with
  | false =>
    have HN : Hid (isGr G S I J k = false) := by show _ = _; unfold isGr; rw [hm]; rfl
    clear hm
    go_wp2_with fail
    go_ret2
    exact ⟨by unfold stGr; rw [HN.out]; rfl, hL1⟩
  | true =>
    obtain ⟨h1, h2, h3, h4, h5, h6, h7, h8, h9, h10, h11⟩ := (mayG_iff G S I J).1 hm
    have HD : Hid (isGr G S I J k = (decide (0 ≤ k) && decide (k < G))) := by show _ = _; unfold isGr; rw [hm]; rfl
    clear hm h11
    by_cases k0 : k < 0
    · have HN : Hid (isGr G S I J k = false) := by show _ = _; rw [HD.out]; simp; omega
      have q0 : decide (k < 0) = true := decide_eq_true k0
      go_wp2_with fail
      go_ret2
      exact ⟨by unfold stGr; rw [HN.out]; rfl, hL1⟩
    have q0 : decide (k < 0) = false := decide_eq_false k0
    by_cases k1 : G ≤ k
    · have HN : Hid (isGr G S I J k = false) := by show _ = _; rw [HD.out]; simp; omega
      have q1 : decide (G ≤ k) = true := decide_eq_true k1
      go_wp2_with fail
      go_ret2
      exact ⟨by unfold stGr; rw [HN.out]; rfl, hL1⟩
    have q1 : decide (G ≤ k) = false := decide_eq_false k1
    have HN : Hid (isGr G S I J k = true) := by show _ = _; rw [HD.out]; simp; omega
    have hg0 : 0 ≤ k * S := Int.mul_nonneg (by omega) (by omega)
    have hg1 : k * S ≤ 4 * 512 := Int.mul_le_mul (by omega) h4 (by omega) (by omega)
    have hw : IntKind.i64.wrap (k * S) = k * S := IntWalk.i64_in _ (by omega)
    have hw1 : IntKind.i64.wrap (2 + J) = 2 + J := IntWalk.i64_in _ (by omega)
    have hw2 : IntKind.i64.wrap (2 + J + k * S) = 2 + J + k * S := IntWalk.i64_in _ (by omega)
    go_wp2_with fail
    go_ret2
    exact ⟨by unfold stGr; rw [HN.out]; rfl, hL1⟩
end Go.Proofs.YtopakpmepioomaaDoor

/- mkfs.descs. -/
namespace Go.Proofs.YtopakpmepioomaaDoor
open Go.RowKit
set_option linter.unusedVariables false

structure DsC (w : World) (G S I J : Int) (q n : Nat) (f : Nat → List Value) (W : World) : Prop where
  s : At W w.heap.size 23 (gcells G S I J)
  a : RArr W q 50 3 n f
  bel : Below w.heap.size w W
theorem DsC.below {w : World} {G S I J : Int} {q n : Nat} {f : Nat → List Value} {W W' : World} (h : DsC w G S I J q n f W) (hb : Below W.heap.size W W') : DsC w G S I J q n f W' :=
  ⟨h.s.below hb h.s.lt, h.a.below hb, h.bel.trans (hb.mono h.bel.size)⟩
/-- rows that are made so far -/
def mixD (Da I : Int) (k i : Nat) : List Value := if i < k then [.int .i64 Da, .int .i64 I, .int .i64 0] else [.int .i64 0, .int .i64 0, .int .i64 0]
theorem mixD_len (Da I : Int) (k i : Nat) : (mixD Da I k i).length = 3 := by unfold mixD; split <;> rfl
set_option maxRecDepth 100000 in
set_option maxHeartbeats 4000000 in
theorem mkDescs_any (G S I J : Int) (hm : mayG G S I J = true) (w : World) :
    Calls Tryd.prog 32 #[gval G S I J] w fun e w' => ∃ v, e = .returned v ∧ Below w.heap.size w w' ∧
      RMine w' w.heap.size 50 3 v G.toNat (df (fun _ => nDa G S I J) (fun i => if i = 0 then I - 1 else I) (fun i => if i = 0 then 1 else 0)) := by
  obtain ⟨h1, h2, h3, h4, h5, h6, h7, h8, h9, h10, h11⟩ := (mayG_iff G S I J).1 hm
  obtain ⟨n, rfl⟩ : ∃ n : Nat, G = (n : Int) := ⟨G.toNat, by omega⟩
  have HD : Hid (∀ W, Calls Tryd.prog 17 #[gval n S I J] W fun e w' => e = .returned (.int .i64 (nDa n S I J)) ∧ Below W.heap.size W w') := fun W => geoData_any n S I J W
  rw [Int.toNat_natCast]
  generalize nDa n S I J = Da at *
  clear hm h11
  have hmk := fun W => run_mkrow (P := Tryd.prog) 45 50 (dval 0 0 0) 3 24 Tryd.underlying45 info_desc3 .i64 .i64 n (by omega) (by omega) W
  have hs0 := At.new w 23 (gcells n S I J)
  have hL0 : Below w.heap.size w (w.alloc (.cells (gcells n S I J) 23)) := (Below.refl _ _).alloc (Nat.le_refl _) _
  have c0 : (w.alloc (.cells (gcells n S I J) 23)).cell? ⟨w.heap.size, 0, none⟩ = some (.int .i64 (n : Int)) := hs0.cell (i := 0) rfl
  have hA0 := RArr.made (m := 3) (w.alloc (.cells (gcells n S I J) 23)) (dcells 0 0 0) rfl (by omega) n 50
  have st0 : Hid (DsC w n S I J (w.heap.size + 1) n (mixD Da I 0) ((w.alloc (.cells (gcells n S I J) 23)).alloc (.cells (madeCells (dval 0 0 0).cells (n * 3)) 50))) :=
    ⟨hs0.alloc _, by have := hA0.congr (f' := mixD Da I 0) fun i _ => rfl; simp only [World.size_alloc] at this; exact this, hL0.alloc hL0.size _⟩
  clear hs0 hL0 hA0
  go_enter Tryd.func32, Tryd.ntmps32
  go_wp2_with fail
  go_loopw [4, 10] (fun v u wr => ∃ k : Nat, k ≤ n ∧ u = .int .i64 (k : Int) ∧ DsC w n S I J (w.heap.size + 1) n (mixD Da I k) wr) (fun _ u _ => n - (intOf u).toNat)
  case atStart => exact ⟨0, by omega, rfl, st0.out⟩
  case round =>
    clear st0 c0 hmk
    obtain ⟨k, hk, rfl, st⟩ := hrel
    by_cases hlt : k < n
    · have hlt' : (k : Int) < (n : Int) := by omega
      have k0 : (0 : Int) ≤ (k : Int) := by omega
      go_wp2_with fail
      refine wp_region_bar2 (DsC w n S I J (w.heap.size + 1) n (mixD Da I k)) 8 (by kernel_rfl) (by kernel_rfl) (by kernel_rfl) (by kernel_rfl) (by kernel_rfl) (by decide) ⟨st.s, st.a.of_block rfl, st.bel.drew⟩ ?_
      simp only [List.take_succ_cons, List.take_zero, List.drop_succ_cons, List.drop_zero]
      clear st
      intro hne
      have hc : ∀ y : InW (DsC w n S I J (w.heap.size + 1) n (mixD Da I k)), y.W.cell? ⟨w.heap.size, 2, none⟩ = some (.int .i64 I) := fun y => y.h.s.cell (i := 2) rfl
      first | go_big_quiet_skip | (go_big_quiet_want; go_big_quiet_op; go_big_quiet_on)
      first | go_big_quiet_skip | (go_big_quiet_want; go_big_quiet_op; go_big_quiet_on)
      refine q_load rfl 23 (.tmp 1) rfl _ _ rfl (gcells n S I J).toList _ (fun W h => h.s.range) Tryd.underlying23 rfl (by kernel_rfl) ?_
      refine wpQuiet_frame (by simp only [Act.put, List.setIfInBounds_toArray, List.set_cons_succ, List.set_cons_zero]; exact rfl) ?_
      go_big_quiet_want
      go_big_quiet_op
      refine ⟨_, fun s => q_call s (fun W hW => (HD.out W).mono fun e w' h => ⟨h.1, hW.below h.2⟩), ?_⟩
      go_big_quiet_on
      first | go_big_quiet_skip | (go_big_quiet_want; go_big_quiet_op; go_big_quiet_on)
      first | go_big_quiet_skip | (go_big_quiet_want; go_big_quiet_op; go_big_quiet_on)
      first | go_big_quiet_skip | (go_big_quiet_want; go_big_quiet_op; go_big_quiet_on)
      first | go_big_quiet_skip | (go_big_quiet_want; go_big_quiet_op; go_big_quiet_on)
      refine wpQuiet_nil ?_
      intro w5 h5
      have st5 := h5.out
      clear h5 hne hc
      have hth := st5.a.there hlt
      have hset := Lib.hid (st5.a.set hlt (vs := [.int .i64 Da, .int .i64 I, .int .i64 0]) rfl (mixD_len Da I k))
      go_wp2_with (first | (refine wpList_store_mid rfl 50 (.tmp 20) (.tmp 19) rfl (w.heap.size + 1) (k * 3) (dcells Da I 0) rfl rfl hth info_desc (all_d _ _ _) ?_))
      have st7 : DsC w n S I J (w.heap.size + 1) n (mixD Da I (k + 1)) (w5.setCells (w.heap.size + 1) (k * 3) [.int .i64 Da, .int .i64 I, .int .i64 0]) :=
        ⟨st5.s.only hset.out.2 (by omega), hset.out.1.congr fun i _ => by
          unfold mixD
          by_cases e : i = k
          · subst e; rw [if_pos rfl, if_pos (by omega)]
          · rw [if_neg e]
            by_cases e2 : i < k
            · rw [if_pos e2, if_pos (by omega)]
            · rw [if_neg e2, if_neg (by omega)], st5.bel.trans (hset.out.2.below (by omega))⟩
      generalize w5.setCells (w.heap.size + 1) (k * 3) [.int .i64 Da, .int .i64 I, .int .i64 0] = w7 at *
      clear st5 hset hth
      go_wp2_with fail
      go_roundw
      case rel => first | exact ⟨k + 1, by omega, by go_num, st7⟩ | exact ⟨k + 1, by omega, rfl, st7⟩
      case measure => simp [intOf]; omega
    · obtain rfl : k = n := by omega
      have b0 : wr.cell? ⟨w.heap.size + 1, 1, none⟩ = some (.int .i64 I) := by
        have := st.a.seg 0 (by omega) 1 (.int .i64 I) (by unfold mixD; rw [if_pos (by omega)]; rfl)
        simpa using this
      have b2 : wr.cell? ⟨w.heap.size + 1, 2, none⟩ = some (.int .i64 0) := by
        have := st.a.seg 0 (by omega) 2 (.int .i64 0) (by unfold mixD; rw [if_pos (by omega)]; rfl)
        simpa using this
      have f1 : wr.frozen? ⟨w.heap.size + 1, 1, none⟩ = false := by have := (st.a.there (k := 0) (by omega) 1 (by omega)).2; simpa using this
      have f2 : wr.frozen? ⟨w.heap.size + 1, 2, none⟩ = false := by have := (st.a.there (k := 0) (by omega) 2 (by omega)).2; simpa using this
      have e1 : IntKind.i64.wrap (I - 1) = I - 1 := IntWalk.i64_in _ (by omega)
      have x1 := st.a.cellset (k := 0) (j := 1) (by omega) (by omega) (mixD_len Da I k) (.int .i64 (I - 1))
      have x2 := x1.cellset (k := 0) (j := 2) (by omega) (by omega) (fun i => by split <;> simp [mixD_len]) (.int .i64 1)
      rw [Nat.zero_mul, Nat.zero_add, Nat.zero_add] at x2
      have HX := Lib.hid x2
      have HL : Hid (Below w.heap.size w ((wr.setCell ⟨w.heap.size + 1, 1, none⟩ (.int .i64 (I - 1))).setCell ⟨w.heap.size + 1, 2, none⟩ (.int .i64 1))) := (st.bel.trans ((Only.setCell wr ⟨w.heap.size + 1, 1, none⟩ _).below (by simp))).trans ((Only.setCell _ ⟨w.heap.size + 1, 2, none⟩ _).below (by simp))
      clear x1 x2 st
      go_wp2_with fail
      go_ret
      refine ⟨_, rfl, HL.out, ?_⟩
      refine (HX.out.congr (f' := df (fun _ => Da) (fun i => if i = 0 then I - 1 else I) (fun i => if i = 0 then 1 else 0)) fun i hi => ?_).mine (df_len _ _ _) (by omega) (by unfold maxLen; omega)
      unfold mixD df
      by_cases e : i = 0
      · subst e; rw [if_pos rfl, if_pos rfl, if_pos (by omega)]; rfl
      · rw [if_neg e, if_neg e, if_pos hi]; simp [e]
end Go.Proofs.YtopakpmepioomaaDoor
