/- quernref06.ReadDescs. Printed by gen_u6x.py. -/
import Derived.Test.YtbbcckopkbiojaaDoorU6v
import Derived.Test.YtbbcckopkbiojaaDoorMove2
namespace Go.Proofs.YtbbcckopkbiojaaDoor
open Go.RowKit
set_option linter.unusedVariables false

structure RdL (w : World) (G S I J : Int) (z : Nat → Int) (v : Value) (k : Nat) (W : World) : Prop where
  s : At W w.heap.size 23 (gcells G S I J)
  b : Blk W (w.heap.size + 1) 29 256 z
  own : RMine W (w.heap.size + 2) 48 3 v k (df (rB z) (rI z) (rD z))
  bel : Below w.heap.size w W
theorem RdL.below {w : World} {G S I J : Int} {z : Nat → Int} {v : Value} {k : Nat} {W W' : World} (h : RdL w G S I J z v k W) (hb : Below W.heap.size W W') : RdL w G S I J z v k W' :=
  ⟨h.s.below hb h.s.lt, h.b.below hb h.b.lt, h.own.below hb, h.bel.trans (hb.mono h.bel.size)⟩
/-- while a row is appended -/
structure RdM (w : World) (G S I J : Int) (z : Nat → Int) (v : Value) (k : Nat) (t : Mv.St) (W : World) : Prop where
  s : At W w.heap.size 23 (gcells G S I J)
  b : Blk W (w.heap.size + 1) 29 256 z
  bel : Below w.heap.size w W
  s0 : t.n < 2 → RMine W (w.heap.size + 2) 48 3 v k (df (rB z) (rI z) (rD z))
  s1 : t.n = 1 → ∀ q, t.v = .slice (some ⟨q, 0, none⟩) 1 1 → ∀ j u, (df (rB z) (rI z) (rD z) k)[j]? = some u → W.cell? ((⟨q, 0, none⟩ : Addr).add j) = some u
  s2 : t.n = 2 → RMine W (w.heap.size + 2) 48 3 t.v (k + 1) (df (rB z) (rI z) (rD z))
theorem RdM.below {w : World} {G S I J : Int} {z : Nat → Int} {v : Value} {k : Nat} {W W' : World} (h : RdM w G S I J z v k ⟨0, undef⟩ W) (hb : Below W.heap.size W W') : RdM w G S I J z v k ⟨0, undef⟩ W' :=
  ⟨h.s.below hb h.s.lt, h.b.below hb h.b.lt, h.bel.trans (hb.mono h.bel.size), fun h' => (h.s0 h').below hb, (fun h' => by cases h'), (fun h' => by cases h')⟩
theorem run_desc1 (x y v : Int) (w : World) : (Instr.buildSlice 27 1 #[(0, dval x y v)]).run Tryd.prog w = .ok (.slice (some ⟨w.heap.size, 0, none⟩) 1 1) (w.alloc (.cells #[.int .i64 x, .int .i64 y, .int .i64 v] 48)) := by kernel_rfl
theorem info_partsD : ∃ i, Tryd.prog.info? 48 = some i ∧ i.zero = some (dval 0 0 0) ∧ i.size = 3 ∧ i.bytes = 24 := by
  obtain ⟨i, hi, h⟩ := Option.map_eq_some_iff.1 info_desc3
  simp only [Prod.mk.injEq] at h
  exact ⟨i, hi, h.1, h.2.1, h.2.2⟩

set_option maxRecDepth 100000 in
set_option maxHeartbeats 8000000 in
theorem rsReadDescs_any (G S I J : Int) (z : Nat → Int) (hzb : Byt z) (w : World) :
    Calls Tryd.prog 18 #[gval G S I J, bval z] w fun e w' => ∃ v E, e = .returned (.tuple #[v, .int .i64 E]) ∧ RdPost w G S I J z v E w' ∧ Below w.heap.size w w' := by
  obtain ⟨W, hW⟩ : ∃ W, W = (w.alloc (.cells (gcells G S I J) 23)).alloc (.cells (Ks .u8 256 z).toArray 29) := ⟨_, rfl⟩
  have hS : At W w.heap.size 23 (gcells G S I J) := by rw [hW]; exact (At.new w _ _).alloc _
  have hB : Blk W (w.heap.size + 1) 29 256 z := by
    rw [hW]
    have := Blk.new (w.alloc (.cells (gcells G S I J) 23)) 29 256 z
    simp only [World.size_alloc] at this
    exact this
  have hL : Below w.heap.size w W := by rw [hW]; exact ((Below.refl _ _).alloc (Nat.le_refl _) _).alloc (by simp) _
  have HW := Lib.hid hW
  clear hW
  go_enter Tryd.func18, Tryd.ntmps18
  have hS0 : At ((w.alloc (.cells (gcells G S I J) 23)).alloc (.cells (Ks .u8 256 z).toArray 29)) w.heap.size 23 (gcells G S I J) := (At.new w _ _).alloc _
  go_wp2_with (first | (refine wp_loadAtG rfl 23 (.tmp 2) rfl _ _ _ rfl hS0 Tryd.underlying23 rfl (by kernel_rfl) ?_))
  rw [← HW.out]
  clear HW hS0
  refine (rMay5_any G S I J W).mono ?_
  rintro e w1 ⟨rfl, hb1⟩
  have hS1 := hS.below hb1 hS.lt
  have hB1 := hB.below hb1 hB.lt
  have hL1 : Below w.heap.size w w1 := hL.trans (hb1.mono hL.size)
  clear hS hB hL hb1
  cases hm : mayG G S I J with
  | false =>
    have HO : Hid (RdPost w G S I J z (.slice none 0 0) 50 w1) := .inr ⟨by unfold rdOk; rw [hm]; rfl, by rw [hm]; rfl, rfl⟩
    clear hm
    go_wp2_with fail
    go_ret2
    exact ⟨_, _, rfl, HO.out, hL1⟩
  | true =>
  have HM := Lib.hid hm
  have hG : 1 ≤ G ∧ G ≤ 4 := by
    obtain ⟨h1, h2, h3, h4, h5, h6, h7, h8, h9, h10, h11⟩ := (mayG_iff G S I J).1 hm
    exact ⟨h1, h2⟩
  clear hm
  have HF : Hid (∀ W, rdIn G S I J z = false → RdPost w G S I J z (.slice none 0 0) 60 W) := fun W h => .inr ⟨by unfold rdOk; rw [HM.out, h]; rfl, by rw [HM.out]; rfl, rfl⟩
  obtain ⟨n, hn⟩ : ∃ n : Nat, G = (n : Int) := ⟨G.toNat, by omega⟩
  have HGN : Hid (G.toNat = n) := by show _ = _; omega
  have hn4 : 1 ≤ n ∧ n ≤ 4 := by omega
  have HNEQ := Lib.hid hn
  clear hn
  have st0 : Hid (RdL w G S I J z (.slice none 0 0) 0 w1) := ⟨hS1, hB1, RMine.nil _ _ _ _ _, hL1⟩
  clear hS1 hB1 hL1
  go_wp2_with fail
  go_loopw [6, 7] (fun v u wr => ∃ (V : Value) (k : Nat), V = v ∧ k ≤ n ∧ u = .int .i64 (k : Int) ∧ Hid (allB (fun k => hd z (4 * k + 3) == 0) k = true) ∧ RdL w G S I J z V k wr) (fun _ u _ => n - (intOf u).toNat)
  case atStart => exact ⟨_, 0, rfl, by omega, rfl, rfl, st0.out⟩
  case round =>
    clear st0
    obtain ⟨v, k, rfl, hk, rfl, HALL, st⟩ := hrel
    have hc0 : wr.cell? ⟨w.heap.size, 0, none⟩ = some (.int .i64 G) := st.s.cell (i := 0) rfl
    have hgk : (decide ((k : Int) < G)) = decide (k < n) := by rw [HNEQ.out]; simp
    by_cases hlt : k < n
    · have hq : decide ((k : Int) < G) = true := by rw [hgk]; simpa using hlt
      have hq2 : (k : Int) < G := by simpa using hq
      have e0 : IntKind.i64.wrap (8 * (k : Int)) = 8 * (k : Int) := IntWalk.i64_in _ (by omega)
      have e1 : IntKind.i64.wrap (8 * (k : Int) + 2) = 8 * (k : Int) + 2 := IntWalk.i64_in _ (by omega)
      have e2 : IntKind.i64.wrap (8 * (k : Int) + 4) = 8 * (k : Int) + 4 := IntWalk.i64_in _ (by omega)
      have e3 : IntKind.i64.wrap (8 * (k : Int) + 6) = 8 * (k : Int) + 6 := IntWalk.i64_in _ (by omega)
      obtain ⟨i0, hi, hz0, hz1, hz2⟩ := info_partsD
      clear hgk
      go_wp2_with fail
      clear hc0
      refine Mv.wp_region_mc (RdM w G S I J z v k) ⟨0, undef⟩ (by kernel_rfl) (by kernel_rfl) (by kernel_rfl) ⟨st.s, st.b, st.bel.drew, fun _ => st.own, (fun h => by cases h), (fun h => by cases h)⟩ ?_
      clear st
      intro hne
      (refine Mv.lin_take 4 (by kernel_rfl) ?_; simp only [List.take_succ_cons, List.take_zero, List.drop_succ_cons, List.drop_zero])
      first | go_big_quiet_skip | (go_big_quiet_want; go_big_quiet_op; go_big_quiet_on)
      refine q_load rfl 29 (.tmp 3) rfl _ _ rfl (Ks .u8 256 z) _ (fun W h => by obtain ⟨_, h⟩ := h; exact h.b.range) Tryd.underlying29 rfl (by rw [Ks_length]; exact info_block) ?_
      refine wpQuiet_frame (by simp only [Act.put, List.setIfInBounds_toArray, List.set_cons_succ, List.set_cons_zero]; exact rfl) ?_
      first | go_big_quiet_skip | (go_big_quiet_want; go_big_quiet_op; go_big_quiet_on)
      first | go_big_quiet_skip | (go_big_quiet_want; go_big_quiet_op; go_big_quiet_on)
      refine wpQuiet_nil ?_
      refine Mv.lin_call rfl rfl 40 #[bval z, .int .i64 (8 * (k : Int))] (.int .i64 (hd z (4 * k))) ⟨0, undef⟩ (fun W => by kernel_rfl) (fun W hW => ?c0) ?_
      case c0 => exact (rshort_any z hzb (4 * k) _ (by omega) (by omega) W).mono fun e w' h => ⟨h.1, hW.below h.2⟩
      refine Mv.frame (by simp only [Act.put, List.setIfInBounds_toArray, List.set_cons_succ, List.set_cons_zero]; exact rfl) ?_
      (refine Mv.lin_take 4 (by kernel_rfl) ?_; simp only [List.take_succ_cons, List.take_zero, List.drop_succ_cons, List.drop_zero])
      refine q_load rfl 29 (.tmp 3) rfl _ _ rfl (Ks .u8 256 z) _ (fun W h => by obtain ⟨_, h⟩ := h; exact h.b.range) Tryd.underlying29 rfl (by rw [Ks_length]; exact info_block) ?_
      refine wpQuiet_frame (by simp only [Act.put, List.setIfInBounds_toArray, List.set_cons_succ, List.set_cons_zero]; exact rfl) ?_
      first | go_big_quiet_skip | (go_big_quiet_want; go_big_quiet_op; go_big_quiet_on)
      first | go_big_quiet_skip | (go_big_quiet_want; go_big_quiet_op; go_big_quiet_on)
      first | go_big_quiet_skip | (go_big_quiet_want; go_big_quiet_op; go_big_quiet_on)
      refine wpQuiet_nil ?_
      refine Mv.lin_call rfl rfl 40 #[bval z, .int .i64 (8 * (k : Int) + 2)] (.int .i64 (hd z (4 * k + 1))) ⟨0, undef⟩ (fun W => by kernel_rfl) (fun W hW => ?c1) ?_
      case c1 => exact (rshort_any z hzb (4 * k + 1) _ (by omega) (by omega) W).mono fun e w' h => ⟨h.1, hW.below h.2⟩
      refine Mv.frame (by simp only [Act.put, List.setIfInBounds_toArray, List.set_cons_succ, List.set_cons_zero]; exact rfl) ?_
      (refine Mv.lin_take 4 (by kernel_rfl) ?_; simp only [List.take_succ_cons, List.take_zero, List.drop_succ_cons, List.drop_zero])
      refine q_load rfl 29 (.tmp 3) rfl _ _ rfl (Ks .u8 256 z) _ (fun W h => by obtain ⟨_, h⟩ := h; exact h.b.range) Tryd.underlying29 rfl (by rw [Ks_length]; exact info_block) ?_
      refine wpQuiet_frame (by simp only [Act.put, List.setIfInBounds_toArray, List.set_cons_succ, List.set_cons_zero]; exact rfl) ?_
      first | go_big_quiet_skip | (go_big_quiet_want; go_big_quiet_op; go_big_quiet_on)
      first | go_big_quiet_skip | (go_big_quiet_want; go_big_quiet_op; go_big_quiet_on)
      first | go_big_quiet_skip | (go_big_quiet_want; go_big_quiet_op; go_big_quiet_on)
      refine wpQuiet_nil ?_
      refine Mv.lin_call rfl rfl 40 #[bval z, .int .i64 (8 * (k : Int) + 4)] (.int .i64 (hd z (4 * k + 2))) ⟨0, undef⟩ (fun W => by kernel_rfl) (fun W hW => ?c2) ?_
      case c2 => exact (rshort_any z hzb (4 * k + 2) _ (by omega) (by omega) W).mono fun e w' h => ⟨h.1, hW.below h.2⟩
      refine Mv.frame (by simp only [Act.put, List.setIfInBounds_toArray, List.set_cons_succ, List.set_cons_zero]; exact rfl) ?_
      (refine Mv.lin_take 1 (by kernel_rfl) ?_; simp only [List.take_succ_cons, List.take_zero, List.drop_succ_cons, List.drop_zero])
      first | go_big_quiet_skip | (go_big_quiet_want; go_big_quiet_op; go_big_quiet_on)
      refine wpQuiet_nil ?_
      refine Mv.lin_build1 rfl _ _ _ _ rfl fun W hW => ⟨_, _, ⟨1, .slice (some ⟨W.heap.size, 0, none⟩) 1 1⟩, run_desc1 _ _ _ W, ?_, ?_⟩
      · refine ⟨hW.s.alloc _, hW.b.alloc _, hW.bel.alloc hW.bel.size _, fun _ => (hW.s0 (by decide)).alloc _, ?_, (fun h => by cases h)⟩
        rintro _ q hq
        injection hq with h1 h2 h3; injection h1 with h1; injection h1 with h1; subst h1
        exact cells_news W (df (rB z) (rI z) (rD z) k) _
      generalize W.heap.size = g0 at *
      clear hW
      refine Mv.frame (by simp only [Act.put, List.setIfInBounds_toArray, List.set_cons_succ, List.set_cons_zero]; exact rfl) ?_
      refine Mv.lin_append rfl _ _ _ rfl fun W hW => ?_
      have hown := hW.s0 (by show (1 : Nat) < 2; decide)
      obtain ⟨v', w', hr, ho, hg, _⟩ := run_append_own (P := Tryd.prog) W (w.heap.size + 2) 27 27 48 i0 (dval 0 0 0) 3 24 Tryd.underlying27 hi hz0 hz1 hz2 rfl (by decide) v k (Cs (df (rB z) (rI z) (rD z)) k) hown ⟨g0, 0, none⟩ 1 1 (df (rB z) (rI z) (rD z) k) rfl
        (hW.s1 rfl g0 rfl) (df_one _ _ _ k) (by unfold maxLen; omega) (by omega) (by have := hW.b.lt; omega)
      refine ⟨v', w', ⟨2, v'⟩, hr, ?_, ?_⟩
      · have hob : ∀ q, v.ownBlock = some q → w.heap.size + 2 ≤ q := fun q hq => (World.ownsRow.lt hown q hq).1
        have hs := hW.s
        have hb := hW.b
        exact ⟨(hg.block _ hs.lt (fun e => by have := hob _ e.symm; omega)).trans hs, (hg.block _ hb.lt (fun e => by have := hob _ e.symm; omega)).trans hb, hW.bel.grown hg hW.bel.size (fun q e => by have := hob q e; omega), (fun h => absurd h (by show ¬ (2 : Nat) < 2; decide)), (fun h => by cases h), fun _ => RMine.append ho (by rfl)⟩
      clear hr ho hg hW hown
      refine Mv.frame (by simp only [Act.put, List.setIfInBounds_toArray, List.set_cons_succ, List.set_cons_zero]; exact rfl) ?_
      (refine Mv.lin_take 1 (by kernel_rfl) ?_; simp only [List.take_succ_cons, List.take_zero, List.drop_succ_cons, List.drop_zero])
      first | go_big_quiet_skip | (go_big_quiet_want; go_big_quiet_op; go_big_quiet_on)
      refine wpQuiet_nil ?_
      refine Mv.wpLin_nil ?_
      intro w4 h4
      have st4 : RdL w G S I J z v' (k + 1) w4 := ⟨h4.s, h4.b, h4.s2 rfl, h4.bel⟩
      clear h4 hne
      have hB4 := st4.b
      go_wp2_with (first | (refine wp_loadBlkG rfl (.tmp 3) rfl (w.heap.size + 1) z rfl hB4 ?_))
      clear hB4
      refine (rshort_any z hzb (4 * k + 3) _ (by omega) (by omega) _).mono ?_
      rintro e w6 ⟨rfl, hb6⟩
      have st6 := st4.below hb6
      clear st4 hb6
      cases hzq : (hd z (4 * k + 3) == 0) with
      | false =>
        have HX : Hid (rdIn G S I J z = false) := by show _ = _; unfold rdIn; rw [HGN.out, allB_no hlt hzq]; simp
        have hn7 : (hd z (4 * k + 3) != 0) = true := by rw [bne, hzq]; rfl
        clear hzq
        go_wp2_with fail
        go_ret2
        exact ⟨_, _, rfl, HF.out _ HX.out, st6.bel⟩
      | true =>
        have HALL2 : Hid (allB (fun k => hd z (4 * k + 3) == 0) (k + 1) = true) := by show (allB _ k && (hd z (4 * k + 3) == 0)) = true; rw [HALL.out, hzq]; rfl
        have hn7 : (hd z (4 * k + 3) != 0) = false := by rw [bne, hzq]; rfl
        clear hzq HALL
        go_wp2_with fail
        go_roundw
        case rel => first | exact ⟨_, k + 1, rfl, by omega, by go_num, HALL2, st6⟩ | exact ⟨_, k + 1, rfl, by omega, rfl, HALL2, st6⟩
        case measure => simp [intOf]; omega
    · obtain rfl : k = n := by omega
      have hq : decide ((k : Int) < G) = false := by rw [hgk]; simp
      have hq2 : ¬ (k : Int) < G := by simpa using hq
      have hgg := HNEQ.out
      obtain ⟨a, cap, rfl⟩ := st.own.form
      have e0 : IntKind.i64.wrap (8 * (k : Int)) = 8 * (k : Int) := IntWalk.i64_in _ (by omega)
      have hgl : ∀ x : InW (RdL w G S I J z (.slice a k cap) k), x.W.cell? ⟨w.heap.size, 0, none⟩ = some (.int .i64 (k : Int)) := fun x => (x.h.s.cell (i := 0) (v := .int .i64 G) rfl).trans (congrArg (fun t => some (Value.int .i64 t)) HNEQ.out)
      have hsb := fun W => run_sliceBlk (w.heap.size + 1) 0 0 252 0 252 rfl rfl (by omega) (by omega) (by omega) W
      have hsc := fun W => run_sliceBlk (w.heap.size + 1) 0 (8 * k) 252 (8 * (k : Int)) 252 (by omega) rfl (by omega) (by omega) (by omega) W
      clear hgk hgg
      obtain ⟨c0, hc0⟩ : ∃ c, (g32 z 252 == crcZ z 252) = c := ⟨_, rfl⟩
      have hn0 : (g32 z 252 != crcZ z 252) = !c0 := by rw [← hc0]; rfl
      have HS : Hid (sumB z = c0) := hc0
      clear hc0
      cases c0 with
      | false =>
        have HX : Hid (rdIn G S I J z = false) := by show _ = _; unfold rdIn; rw [HS.out]; rfl
        go_wp2_with fail
        refine wp_region_S (RdL w G S I J z (.slice a k cap) k) (by kernel_rfl) (by kernel_rfl) ⟨st.s, st.b, st.own, st.bel.drew⟩ ?_
        clear st
        intro hne
        refine q_load rfl 29 (.tmp 3) rfl _ _ rfl (Ks .u8 256 z) _ (fun W h => h.b.range) Tryd.underlying29 rfl (by rw [Ks_length]; exact info_block) ?_
        refine wpQuiet_frame (by simp only [Act.put, List.setIfInBounds_toArray, List.set_cons_succ, List.set_cons_zero]; exact rfl) ?_
        go_big_quiet_want
        go_big_quiet_op
        refine ⟨_, fun s => q_call s (fun W hW => (rlong_any z hzb 252 252 rfl (by omega) W).mono fun e w' h => ⟨h.1, hW.below h.2⟩), ?_⟩
        go_big_quiet_on
        first | go_big_quiet_skip | (go_big_quiet_want; go_big_quiet_op; go_big_quiet_on)
        go_big_quiet_want
        go_big_quiet_op
        refine ⟨_, fun s => q_call s (fun W hW => (rSum_any (some ⟨w.heap.size + 1, 0, none⟩) 252 256 z W (by omega) (.inr ⟨_, _, rfl, hW.b.seg.take 252 (by omega)⟩) hzb).mono fun e w' h => ⟨h.1, h.2 ▸ hW⟩), ?_⟩
        go_big_quiet_on
        first | go_big_quiet_skip | (go_big_quiet_want; go_big_quiet_op; go_big_quiet_on)
        first | go_big_quiet_skip | (go_big_quiet_want; go_big_quiet_op; go_big_quiet_on)
        first | go_big_quiet_skip | (go_big_quiet_want; go_big_quiet_op; go_big_quiet_on)
        first | go_big_quiet_skip | (go_big_quiet_want; go_big_quiet_op; go_big_quiet_on)
        first | go_big_quiet_skip | (go_big_quiet_want; go_big_quiet_op; go_big_quiet_on)
        first | go_big_quiet_skip | (go_big_quiet_want; go_big_quiet_op; go_big_quiet_on)
        first | go_big_quiet_skip | (go_big_quiet_want; go_big_quiet_op; go_big_quiet_on)
        first | go_big_quiet_skip | (go_big_quiet_want; go_big_quiet_op; go_big_quiet_on)
        first | go_big_quiet_skip | (go_big_quiet_want; go_big_quiet_op; go_big_quiet_on)
        first | go_big_quiet_skip | (go_big_quiet_want; go_big_quiet_op; go_big_quiet_on)
        first | go_big_quiet_skip | (go_big_quiet_want; go_big_quiet_op; go_big_quiet_on)
        first | go_big_quiet_skip | (go_big_quiet_want; go_big_quiet_op; go_big_quiet_on)
        first | go_big_quiet_skip | (go_big_quiet_want; go_big_quiet_op; go_big_quiet_on)
        first | go_big_quiet_skip | (go_big_quiet_want; go_big_quiet_op; go_big_quiet_on)
        first | go_big_quiet_skip | (go_big_quiet_want; go_big_quiet_op; go_big_quiet_on)
        refine wpQuiet_nil ?_
        intro w5 h5
        have st5 := h5.out
        clear h5 hne
        go_wp2_with fail
        go_ret2
        exact ⟨_, _, rfl, HF.out _ HX.out, st5.bel⟩
      | true =>
      obtain ⟨c1, hc1⟩ : ∃ c, allZ (fun i => z (8 * k + i)) (252 - 8 * k) = c := ⟨_, rfl⟩
      have HZC : Hid (∀ W, Blk W (w.heap.size + 1) 29 256 z → Calls Tryd.prog 42 #[.slice (some ⟨w.heap.size + 1, 8 * k, none⟩) (252 - 8 * k) (256 - 8 * k)] W fun e w' => e = .returned (.bool c1) ∧ W = w') := fun W hB => by
        rw [← hc1]
        exact rzero_any (some ⟨w.heap.size + 1, 8 * k, none⟩) (252 - 8 * k) (256 - 8 * k) (fun i => z (8 * k + i)) W (by omega) (.inr ⟨_, _, rfl, by have := hB.seg.sub (8 * k) (252 - 8 * k) (by omega); rwa [Nat.zero_add] at this⟩)
      have HZ := Lib.hid hc1
      clear hc1
      cases c1 with
      | false =>
        have HX : Hid (rdIn G S I J z = false) := by show _ = _; unfold rdIn; rw [HS.out, HGN.out, HZ.out]; rfl
        go_wp2_with fail
        refine wp_region_S (RdL w G S I J z (.slice a k cap) k) (by kernel_rfl) (by kernel_rfl) ⟨st.s, st.b, st.own, st.bel.drew⟩ ?_
        clear st
        intro hne
        refine q_load rfl 29 (.tmp 3) rfl _ _ rfl (Ks .u8 256 z) _ (fun W h => h.b.range) Tryd.underlying29 rfl (by rw [Ks_length]; exact info_block) ?_
        refine wpQuiet_frame (by simp only [Act.put, List.setIfInBounds_toArray, List.set_cons_succ, List.set_cons_zero]; exact rfl) ?_
        go_big_quiet_want
        go_big_quiet_op
        refine ⟨_, fun s => q_call s (fun W hW => (rlong_any z hzb 252 252 rfl (by omega) W).mono fun e w' h => ⟨h.1, hW.below h.2⟩), ?_⟩
        go_big_quiet_on
        first | go_big_quiet_skip | (go_big_quiet_want; go_big_quiet_op; go_big_quiet_on)
        go_big_quiet_want
        go_big_quiet_op
        refine ⟨_, fun s => q_call s (fun W hW => (rSum_any (some ⟨w.heap.size + 1, 0, none⟩) 252 256 z W (by omega) (.inr ⟨_, _, rfl, hW.b.seg.take 252 (by omega)⟩) hzb).mono fun e w' h => ⟨h.1, h.2 ▸ hW⟩), ?_⟩
        go_big_quiet_on
        first | go_big_quiet_skip | (go_big_quiet_want; go_big_quiet_op; go_big_quiet_on)
        first | go_big_quiet_skip | (go_big_quiet_want; go_big_quiet_op; go_big_quiet_on)
        first | go_big_quiet_skip | (go_big_quiet_want; go_big_quiet_op; go_big_quiet_on)
        first | go_big_quiet_skip | (go_big_quiet_want; go_big_quiet_op; go_big_quiet_on)
        first | go_big_quiet_skip | (go_big_quiet_want; go_big_quiet_op; go_big_quiet_on)
        first | go_big_quiet_skip | (go_big_quiet_want; go_big_quiet_op; go_big_quiet_on)
        go_big_quiet_want
        go_big_quiet_op
        refine ⟨_, fun s => q_call s (fun W hW => (HZC.out W hW.b).mono fun e w' h => ⟨h.1, h.2 ▸ hW⟩), ?_⟩
        go_big_quiet_on
        first | go_big_quiet_skip | (go_big_quiet_want; go_big_quiet_op; go_big_quiet_on)
        first | go_big_quiet_skip | (go_big_quiet_want; go_big_quiet_op; go_big_quiet_on)
        first | go_big_quiet_skip | (go_big_quiet_want; go_big_quiet_op; go_big_quiet_on)
        first | go_big_quiet_skip | (go_big_quiet_want; go_big_quiet_op; go_big_quiet_on)
        first | go_big_quiet_skip | (go_big_quiet_want; go_big_quiet_op; go_big_quiet_on)
        first | go_big_quiet_skip | (go_big_quiet_want; go_big_quiet_op; go_big_quiet_on)
        first | go_big_quiet_skip | (go_big_quiet_want; go_big_quiet_op; go_big_quiet_on)
        first | go_big_quiet_skip | (go_big_quiet_want; go_big_quiet_op; go_big_quiet_on)
        refine wpQuiet_nil ?_
        intro w5 h5
        have st5 := h5.out
        clear h5 hne
        go_wp2_with fail
        go_ret2
        exact ⟨_, _, rfl, HF.out _ HX.out, st5.bel⟩
      | true =>
      obtain ⟨c2, hc2⟩ : ∃ c, mayD G S I J k (rB z) (rI z) (rD z) = c := ⟨_, rfl⟩
      have HMY : Hid (∀ W, RMine W (w.heap.size + 2) 48 3 (.slice a k cap) k (df (rB z) (rI z) (rD z)) → Below w.heap.size w W → Calls Tryd.prog 33 #[gval G S I J, .slice a k cap] W fun e w' => e = .returned (.bool c2) ∧ Below W.heap.size W w') := fun W hM _ => by
        rw [← hc2]
        exact rsMay_any G S I J HM.out a k cap _ _ _ (by omega) W (hM.row (df_len _ _ _))
      have HD := Lib.hid hc2
      clear hc2
      cases c2 with
      | false =>
        have HX : Hid (rdIn G S I J z = false) := by show _ = _; unfold rdIn; rw [HS.out, HGN.out, HZ.out, HD.out]; simp
        go_wp2_with fail
        refine wp_region_S (RdL w G S I J z (.slice a k cap) k) (by kernel_rfl) (by kernel_rfl) ⟨st.s, st.b, st.own, st.bel.drew⟩ ?_
        clear st
        intro hne
        refine q_load rfl 29 (.tmp 3) rfl _ _ rfl (Ks .u8 256 z) _ (fun W h => h.b.range) Tryd.underlying29 rfl (by rw [Ks_length]; exact info_block) ?_
        refine wpQuiet_frame (by simp only [Act.put, List.setIfInBounds_toArray, List.set_cons_succ, List.set_cons_zero]; exact rfl) ?_
        go_big_quiet_want
        go_big_quiet_op
        refine ⟨_, fun s => q_call s (fun W hW => (rlong_any z hzb 252 252 rfl (by omega) W).mono fun e w' h => ⟨h.1, hW.below h.2⟩), ?_⟩
        go_big_quiet_on
        first | go_big_quiet_skip | (go_big_quiet_want; go_big_quiet_op; go_big_quiet_on)
        go_big_quiet_want
        go_big_quiet_op
        refine ⟨_, fun s => q_call s (fun W hW => (rSum_any (some ⟨w.heap.size + 1, 0, none⟩) 252 256 z W (by omega) (.inr ⟨_, _, rfl, hW.b.seg.take 252 (by omega)⟩) hzb).mono fun e w' h => ⟨h.1, h.2 ▸ hW⟩), ?_⟩
        go_big_quiet_on
        first | go_big_quiet_skip | (go_big_quiet_want; go_big_quiet_op; go_big_quiet_on)
        first | go_big_quiet_skip | (go_big_quiet_want; go_big_quiet_op; go_big_quiet_on)
        first | go_big_quiet_skip | (go_big_quiet_want; go_big_quiet_op; go_big_quiet_on)
        first | go_big_quiet_skip | (go_big_quiet_want; go_big_quiet_op; go_big_quiet_on)
        first | go_big_quiet_skip | (go_big_quiet_want; go_big_quiet_op; go_big_quiet_on)
        first | go_big_quiet_skip | (go_big_quiet_want; go_big_quiet_op; go_big_quiet_on)
        go_big_quiet_want
        go_big_quiet_op
        refine ⟨_, fun s => q_call s (fun W hW => (HZC.out W hW.b).mono fun e w' h => ⟨h.1, h.2 ▸ hW⟩), ?_⟩
        go_big_quiet_on
        first | go_big_quiet_skip | (go_big_quiet_want; go_big_quiet_op; go_big_quiet_on)
        first | go_big_quiet_skip | (go_big_quiet_want; go_big_quiet_op; go_big_quiet_on)
        first | go_big_quiet_skip | (go_big_quiet_want; go_big_quiet_op; go_big_quiet_on)
        refine q_load rfl 23 (.tmp 2) rfl _ _ rfl (gcells G S I J).toList _ (fun W h => h.s.range) Tryd.underlying23 rfl (by kernel_rfl) ?_
        refine wpQuiet_frame (by simp only [Act.put, List.setIfInBounds_toArray, List.set_cons_succ, List.set_cons_zero]; exact rfl) ?_
        first | go_big_quiet_skip | (go_big_quiet_want; go_big_quiet_op; go_big_quiet_on)
        go_big_quiet_want
        go_big_quiet_op
        refine ⟨_, fun s => q_call s (fun W hW => (HMY.out W hW.own hW.bel).mono fun e w' h => ⟨h.1, hW.below h.2⟩), ?_⟩
        go_big_quiet_on
        first | go_big_quiet_skip | (go_big_quiet_want; go_big_quiet_op; go_big_quiet_on)
        first | go_big_quiet_skip | (go_big_quiet_want; go_big_quiet_op; go_big_quiet_on)
        refine wpQuiet_nil ?_
        intro w5 h5
        have st5 := h5.out
        clear h5 hne
        go_wp2_with fail
        go_ret2
        exact ⟨_, _, rfl, HF.out _ HX.out, st5.bel⟩
      | true =>
      have HX : Hid (rdOk G S I J z = true) := by show _ = _; unfold rdOk rdIn; rw [HM.out, HS.out, HGN.out, HZ.out, HD.out, HALL.out]; rfl
      go_wp2_with fail
      refine wp_region_S (RdL w G S I J z (.slice a k cap) k) (by kernel_rfl) (by kernel_rfl) ⟨st.s, st.b, st.own, st.bel.drew⟩ ?_
      clear st
      intro hne
      refine q_load rfl 29 (.tmp 3) rfl _ _ rfl (Ks .u8 256 z) _ (fun W h => h.b.range) Tryd.underlying29 rfl (by rw [Ks_length]; exact info_block) ?_
      refine wpQuiet_frame (by simp only [Act.put, List.setIfInBounds_toArray, List.set_cons_succ, List.set_cons_zero]; exact rfl) ?_
      go_big_quiet_want
      go_big_quiet_op
      refine ⟨_, fun s => q_call s (fun W hW => (rlong_any z hzb 252 252 rfl (by omega) W).mono fun e w' h => ⟨h.1, hW.below h.2⟩), ?_⟩
      go_big_quiet_on
      first | go_big_quiet_skip | (go_big_quiet_want; go_big_quiet_op; go_big_quiet_on)
      go_big_quiet_want
      go_big_quiet_op
      refine ⟨_, fun s => q_call s (fun W hW => (rSum_any (some ⟨w.heap.size + 1, 0, none⟩) 252 256 z W (by omega) (.inr ⟨_, _, rfl, hW.b.seg.take 252 (by omega)⟩) hzb).mono fun e w' h => ⟨h.1, h.2 ▸ hW⟩), ?_⟩
      go_big_quiet_on
      first | go_big_quiet_skip | (go_big_quiet_want; go_big_quiet_op; go_big_quiet_on)
      first | go_big_quiet_skip | (go_big_quiet_want; go_big_quiet_op; go_big_quiet_on)
      first | go_big_quiet_skip | (go_big_quiet_want; go_big_quiet_op; go_big_quiet_on)
      first | go_big_quiet_skip | (go_big_quiet_want; go_big_quiet_op; go_big_quiet_on)
      first | go_big_quiet_skip | (go_big_quiet_want; go_big_quiet_op; go_big_quiet_on)
      first | go_big_quiet_skip | (go_big_quiet_want; go_big_quiet_op; go_big_quiet_on)
      go_big_quiet_want
      go_big_quiet_op
      refine ⟨_, fun s => q_call s (fun W hW => (HZC.out W hW.b).mono fun e w' h => ⟨h.1, h.2 ▸ hW⟩), ?_⟩
      go_big_quiet_on
      first | go_big_quiet_skip | (go_big_quiet_want; go_big_quiet_op; go_big_quiet_on)
      first | go_big_quiet_skip | (go_big_quiet_want; go_big_quiet_op; go_big_quiet_on)
      first | go_big_quiet_skip | (go_big_quiet_want; go_big_quiet_op; go_big_quiet_on)
      refine q_load rfl 23 (.tmp 2) rfl _ _ rfl (gcells G S I J).toList _ (fun W h => h.s.range) Tryd.underlying23 rfl (by kernel_rfl) ?_
      refine wpQuiet_frame (by simp only [Act.put, List.setIfInBounds_toArray, List.set_cons_succ, List.set_cons_zero]; exact rfl) ?_
      first | go_big_quiet_skip | (go_big_quiet_want; go_big_quiet_op; go_big_quiet_on)
      go_big_quiet_want
      go_big_quiet_op
      refine ⟨_, fun s => q_call s (fun W hW => (HMY.out W hW.own hW.bel).mono fun e w' h => ⟨h.1, hW.below h.2⟩), ?_⟩
      go_big_quiet_on
      first | go_big_quiet_skip | (go_big_quiet_want; go_big_quiet_op; go_big_quiet_on)
      first | go_big_quiet_skip | (go_big_quiet_want; go_big_quiet_op; go_big_quiet_on)
      refine wpQuiet_nil ?_
      intro w5 h5
      have st5 := h5.out
      clear h5 hne
      go_wp2_with fail
      go_ret2
      exact ⟨_, _, rfl, .inl ⟨HX.out, rfl, by rw [HGN.out]; exact st5.own.low (by omega)⟩, st5.bel⟩
end Go.Proofs.YtbbcckopkbiojaaDoor
