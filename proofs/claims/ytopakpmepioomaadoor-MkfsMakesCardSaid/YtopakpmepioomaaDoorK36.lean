/- Texts of this claim, merged by a program (a claim may have 60 files): U6v. -/
import Derived.Test.YtopakpmepioomaaDoorK34
/- quernref06.may. Printed by gen_u6v.py. -/
namespace Go.Proofs.YtopakpmepioomaaDoor
open Go.RowKit
set_option linter.unusedVariables false

structure RmS (w : World) (G S I J : Int) (p : Nat) (x y v : Int) (W : World) : Prop where
  s : At W w.heap.size 23 (gcells G S I J)
  dd : At W p 50 (dcells x y v)
  bel : Below w.heap.size w W
theorem RmS.below {w : World} {G S I J : Int} {p : Nat} {x y v : Int} {W W' : World} (h : RmS w G S I J p x y v W) (hb : Below W.heap.size W W') : RmS w G S I J p x y v W' := ⟨h.s.below hb h.s.lt, h.dd.below hb h.dd.lt, h.bel.trans (hb.mono h.bel.size)⟩

set_option maxRecDepth 100000 in
set_option maxHeartbeats 8000000 in
theorem rsMay_any (G S I J : Int) (hm : mayG G S I J = true) (a : Option Addr) (n cap : Nat) (b i d : Nat → Int) (hn : (n : Int) ≤ 9223372036854775807) (w : World) (hr : RRow w a 3 n (df b i d)) :
    Calls Tryd.prog 52 #[gval G S I J, .slice a n cap] w fun e w' => e = .returned (.bool (mayD G S I J n b i d)) ∧ Below w.heap.size w w' := by
  have hs0 := At.new w 23 (gcells G S I J)
  have hL0 : Below w.heap.size w (w.alloc (.cells (gcells G S I J) 23)) := (Below.refl _ _).alloc (Nat.le_refl _) _
  have HR := Lib.hid hr
  have hI : 4 ≤ I ∧ I ≤ 64 := by
    obtain ⟨h1, h2, h3, h4, h5, h6, h7, h8, h9, h10, h11⟩ := (mayG_iff G S I J).1 hm
    exact ⟨h5, h6⟩
  have c0 : (w.alloc (.cells #[.int .i64 G, .int .i64 S, .int .i64 I, .int .i64 J] 23)).cell? ⟨w.heap.size, 0, none⟩ = some (.int .i64 G) := hs0.cell (i := 0) rfl
  have HS0 := Lib.hid hs0
  have HL0 := Lib.hid hL0
  clear hr hm hs0 hL0
  go_enter Tryd.func52, Tryd.ntmps52
  by_cases hg : (n : Int) = G
  rotate_left
  · have hg' : ((n : Int) != G) = true := by simpa using hg
    have HN : Hid (mayD G S I J n b i d = false) := by show _ = _; unfold mayD; simp [hg]
    clear hg
    go_wp2_with fail
    go_ret
    exact ⟨by rw [HN.out]; rfl, HL0.out⟩
  have hg' : ((n : Int) != G) = false := by simpa using hg
  have HD : Hid (mayD G S I J n b i d = allB (fun k => okD (nDa G S I J) I (b k) (i k) (d k)) n) := by show _ = _; unfold mayD; simp [hg]
  have HDA : Hid (∀ W, Calls Tryd.prog 22 #[gval G S I J] W fun e w' => e = .returned (.int .i64 (nDa G S I J)) ∧ Below W.heap.size W w') := fun W => rData5_any G S I J W
  have hda := nDa_bd G S I J
  generalize nDa G S I J = da at *
  clear hg
  go_wp2_with fail
  clear hg' c0
  go_loopw [5] (fun u wr => ∃ k : Nat, k ≤ n ∧ u = .int .i64 (k : Int) ∧ Hid (allB (fun k => okD da I (b k) (i k) (d k)) k = true) ∧ At wr w.heap.size 23 (gcells G S I J) ∧ Below w.heap.size w wr) (fun u _ => n - (intOf u).toNat)
  case atStart => exact ⟨0, by omega, rfl, rfl, HS0.out, HL0.out⟩
  case round =>
    clear HS0 HL0
    obtain ⟨k, hk, rfl, HALL, hs, hbl⟩ := hrel
    by_cases hlt : k < n
    · rcases HR.out.below (df_ne _ _ _ _) hbl with h0 | ⟨bb, off, rfl, hsg⟩
      · omega
      have r0 : wr.cell? ⟨bb, off + k * 3, none⟩ = some (.int .i64 (b k)) := hsg k hlt 0 _ rfl
      have r1 : wr.cell? ⟨bb, off + k * 3 + 1, none⟩ = some (.int .i64 (i k)) := hsg k hlt 1 _ rfl
      have r2 : wr.cell? ⟨bb, off + k * 3 + 2, none⟩ = some (.int .i64 (d k)) := hsg k hlt 2 _ rfl
      have ST : Hid (RmS w G S I J wr.heap.size (b k) (i k) (d k) (wr.alloc (.cells (dcells (b k) (i k) (d k)) 50))) := ⟨hs.alloc _, At.new _ _ _, hbl.alloc hbl.size _⟩
      have HK : Hid (∀ c, okD da I (b k) (i k) (d k) = c → (c = true → allB (fun k => okD da I (b k) (i k) (d k)) (k + 1) = true) ∧ (c = false → allB (fun k => okD da I (b k) (i k) (d k)) n = false)) := fun c hc =>
        ⟨fun h => by show (allB _ k && okD da I (b k) (i k) (d k)) = true; rw [HALL.out, hc, h]; rfl, fun h => allB_no hlt (by rw [hc, h])⟩
      clear hsg hs hbl HALL
      generalize b k = x at *
      generalize i k = y at *
      generalize d k = v at *
      have hd0 : ∀ X : InW (RmS w G S I J wr.heap.size x y v), X.W.cell? ⟨wr.heap.size, 0, none⟩ = some (.int .i64 x) := fun X => X.h.dd.cell (i := 0) rfl
      have hd1 : ∀ X : InW (RmS w G S I J wr.heap.size x y v), X.W.cell? ⟨wr.heap.size, 1, none⟩ = some (.int .i64 y) := fun X => X.h.dd.cell (i := 1) rfl
      have hd2 : ∀ X : InW (RmS w G S I J wr.heap.size x y v), X.W.cell? ⟨wr.heap.size, 2, none⟩ = some (.int .i64 v) := fun X => X.h.dd.cell (i := 2) rfl
      have hg2 : ∀ X : InW (RmS w G S I J wr.heap.size x y v), X.W.cell? ⟨w.heap.size, 2, none⟩ = some (.int .i64 I) := fun X => X.h.s.cell (i := 2) rfl
      by_cases h1 : 0 ≤ x
      rotate_left
      · have HF : Hid (allB (fun k => okD da I (b k) (i k) (d k)) n = false) := (HK.out false (okD_no fun h => h1 (h.1))).2 rfl
        have q1 : decide (x < 0) = true := by rw [decide_eq_true_eq]; omega
        go_wp2_with fail
        refine wp_region_S (RmS w G S I J wr.heap.size x y v) (by kernel_rfl) (by kernel_rfl) ⟨ST.out.s, ST.out.dd, ST.out.bel.drew⟩ ?_
        intro hne
        repeat first | go_big_quiet_skip | (go_big_quiet_want; go_big_quiet_op; go_big_quiet_on)
        refine wpQuiet_nil ?_
        intro w6 h6
        have st6 := h6.out
        clear h6 hne hd0 hd1 hd2 hg2
        go_wp2_with fail
        go_ret
        exact ⟨by rw [HD.out, HF.out]; rfl, st6.bel⟩
      have q1 : decide (x < 0) = false := by rw [decide_eq_false_iff_not]; omega
      by_cases h2 : x ≤ da
      rotate_left
      · have HF : Hid (allB (fun k => okD da I (b k) (i k) (d k)) n = false) := (HK.out false (okD_no fun h => h2 (h.2.1))).2 rfl
        have q2 : decide (da < x) = true := by rw [decide_eq_true_eq]; omega
        go_wp2_with fail
        refine wp_region_S (RmS w G S I J wr.heap.size x y v) (by kernel_rfl) (by kernel_rfl) ⟨ST.out.s, ST.out.dd, ST.out.bel.drew⟩ ?_
        intro hne
        first | go_big_quiet_skip | (go_big_quiet_want; go_big_quiet_op; go_big_quiet_on)
        first | go_big_quiet_skip | (go_big_quiet_want; go_big_quiet_op; go_big_quiet_on)
        first | go_big_quiet_skip | (go_big_quiet_want; go_big_quiet_op; go_big_quiet_on)
        first | go_big_quiet_skip | (go_big_quiet_want; go_big_quiet_op; go_big_quiet_on)
        first | go_big_quiet_skip | (go_big_quiet_want; go_big_quiet_op; go_big_quiet_on)
        first | go_big_quiet_skip | (go_big_quiet_want; go_big_quiet_op; go_big_quiet_on)
        refine q_load rfl 23 _ rfl _ _ rfl (gcells G S I J).toList _ (fun W h => h.s.range) Tryd.underlying23 rfl (by kernel_rfl) ?_
        refine wpQuiet_frame (by simp only [Act.put, List.setIfInBounds_toArray, List.set_cons_succ, List.set_cons_zero]; exact rfl) ?_
        go_big_quiet_want
        go_big_quiet_op
        refine ⟨_, fun s => q_call s (fun W hW => (HDA.out W).mono fun e w' h => ⟨h.1, hW.below h.2⟩), ?_⟩
        go_big_quiet_on
        repeat first | go_big_quiet_skip | (go_big_quiet_want; go_big_quiet_op; go_big_quiet_on)
        refine wpQuiet_nil ?_
        intro w6 h6
        have st6 := h6.out
        clear h6 hne hd0 hd1 hd2 hg2
        go_wp2_with fail
        go_ret
        exact ⟨by rw [HD.out, HF.out]; rfl, st6.bel⟩
      have q2 : decide (da < x) = false := by rw [decide_eq_false_iff_not]; omega
      by_cases h3 : 0 ≤ y
      rotate_left
      · have HF : Hid (allB (fun k => okD da I (b k) (i k) (d k)) n = false) := (HK.out false (okD_no fun h => h3 (h.2.2.1))).2 rfl
        have q3 : decide (y < 0) = true := by rw [decide_eq_true_eq]; omega
        go_wp2_with fail
        refine wp_region_S (RmS w G S I J wr.heap.size x y v) (by kernel_rfl) (by kernel_rfl) ⟨ST.out.s, ST.out.dd, ST.out.bel.drew⟩ ?_
        intro hne
        first | go_big_quiet_skip | (go_big_quiet_want; go_big_quiet_op; go_big_quiet_on)
        first | go_big_quiet_skip | (go_big_quiet_want; go_big_quiet_op; go_big_quiet_on)
        first | go_big_quiet_skip | (go_big_quiet_want; go_big_quiet_op; go_big_quiet_on)
        first | go_big_quiet_skip | (go_big_quiet_want; go_big_quiet_op; go_big_quiet_on)
        first | go_big_quiet_skip | (go_big_quiet_want; go_big_quiet_op; go_big_quiet_on)
        first | go_big_quiet_skip | (go_big_quiet_want; go_big_quiet_op; go_big_quiet_on)
        refine q_load rfl 23 _ rfl _ _ rfl (gcells G S I J).toList _ (fun W h => h.s.range) Tryd.underlying23 rfl (by kernel_rfl) ?_
        refine wpQuiet_frame (by simp only [Act.put, List.setIfInBounds_toArray, List.set_cons_succ, List.set_cons_zero]; exact rfl) ?_
        go_big_quiet_want
        go_big_quiet_op
        refine ⟨_, fun s => q_call s (fun W hW => (HDA.out W).mono fun e w' h => ⟨h.1, hW.below h.2⟩), ?_⟩
        go_big_quiet_on
        repeat first | go_big_quiet_skip | (go_big_quiet_want; go_big_quiet_op; go_big_quiet_on)
        refine wpQuiet_nil ?_
        intro w6 h6
        have st6 := h6.out
        clear h6 hne hd0 hd1 hd2 hg2
        go_wp2_with fail
        go_ret
        exact ⟨by rw [HD.out, HF.out]; rfl, st6.bel⟩
      have q3 : decide (y < 0) = false := by rw [decide_eq_false_iff_not]; omega
      by_cases h4 : 0 ≤ v
      rotate_left
      · have HF : Hid (allB (fun k => okD da I (b k) (i k) (d k)) n = false) := (HK.out false (okD_no fun h => h4 (h.2.2.2.2.1))).2 rfl
        have q4 : decide (v < 0) = true := by rw [decide_eq_true_eq]; omega
        go_wp2_with fail
        refine wp_region_S (RmS w G S I J wr.heap.size x y v) (by kernel_rfl) (by kernel_rfl) ⟨ST.out.s, ST.out.dd, ST.out.bel.drew⟩ ?_
        intro hne
        first | go_big_quiet_skip | (go_big_quiet_want; go_big_quiet_op; go_big_quiet_on)
        first | go_big_quiet_skip | (go_big_quiet_want; go_big_quiet_op; go_big_quiet_on)
        first | go_big_quiet_skip | (go_big_quiet_want; go_big_quiet_op; go_big_quiet_on)
        first | go_big_quiet_skip | (go_big_quiet_want; go_big_quiet_op; go_big_quiet_on)
        first | go_big_quiet_skip | (go_big_quiet_want; go_big_quiet_op; go_big_quiet_on)
        first | go_big_quiet_skip | (go_big_quiet_want; go_big_quiet_op; go_big_quiet_on)
        refine q_load rfl 23 _ rfl _ _ rfl (gcells G S I J).toList _ (fun W h => h.s.range) Tryd.underlying23 rfl (by kernel_rfl) ?_
        refine wpQuiet_frame (by simp only [Act.put, List.setIfInBounds_toArray, List.set_cons_succ, List.set_cons_zero]; exact rfl) ?_
        go_big_quiet_want
        go_big_quiet_op
        refine ⟨_, fun s => q_call s (fun W hW => (HDA.out W).mono fun e w' h => ⟨h.1, hW.below h.2⟩), ?_⟩
        go_big_quiet_on
        repeat first | go_big_quiet_skip | (go_big_quiet_want; go_big_quiet_op; go_big_quiet_on)
        refine wpQuiet_nil ?_
        intro w6 h6
        have st6 := h6.out
        clear h6 hne hd0 hd1 hd2 hg2
        go_wp2_with fail
        go_ret
        exact ⟨by rw [HD.out, HF.out]; rfl, st6.bel⟩
      have q4 : decide (v < 0) = false := by rw [decide_eq_false_iff_not]; omega
      by_cases h5 : y ≤ I
      rotate_left
      · have HF : Hid (allB (fun k => okD da I (b k) (i k) (d k)) n = false) := (HK.out false (okD_no fun h => h5 (h.2.2.2.1))).2 rfl
        have q5 : decide (I < y) = true := by rw [decide_eq_true_eq]; omega
        go_wp2_with fail
        refine wp_region_S (RmS w G S I J wr.heap.size x y v) (by kernel_rfl) (by kernel_rfl) ⟨ST.out.s, ST.out.dd, ST.out.bel.drew⟩ ?_
        intro hne
        first | go_big_quiet_skip | (go_big_quiet_want; go_big_quiet_op; go_big_quiet_on)
        first | go_big_quiet_skip | (go_big_quiet_want; go_big_quiet_op; go_big_quiet_on)
        first | go_big_quiet_skip | (go_big_quiet_want; go_big_quiet_op; go_big_quiet_on)
        first | go_big_quiet_skip | (go_big_quiet_want; go_big_quiet_op; go_big_quiet_on)
        first | go_big_quiet_skip | (go_big_quiet_want; go_big_quiet_op; go_big_quiet_on)
        first | go_big_quiet_skip | (go_big_quiet_want; go_big_quiet_op; go_big_quiet_on)
        refine q_load rfl 23 _ rfl _ _ rfl (gcells G S I J).toList _ (fun W h => h.s.range) Tryd.underlying23 rfl (by kernel_rfl) ?_
        refine wpQuiet_frame (by simp only [Act.put, List.setIfInBounds_toArray, List.set_cons_succ, List.set_cons_zero]; exact rfl) ?_
        go_big_quiet_want
        go_big_quiet_op
        refine ⟨_, fun s => q_call s (fun W hW => (HDA.out W).mono fun e w' h => ⟨h.1, hW.below h.2⟩), ?_⟩
        go_big_quiet_on
        repeat first | go_big_quiet_skip | (go_big_quiet_want; go_big_quiet_op; go_big_quiet_on)
        refine wpQuiet_nil ?_
        intro w6 h6
        have st6 := h6.out
        clear h6 hne hd0 hd1 hd2 hg2
        go_wp2_with fail
        go_ret
        exact ⟨by rw [HD.out, HF.out]; rfl, st6.bel⟩
      have q5 : decide (I < y) = false := by rw [decide_eq_false_iff_not]; omega
      by_cases h6 : v ≤ I
      rotate_left
      · have HF : Hid (allB (fun k => okD da I (b k) (i k) (d k)) n = false) := (HK.out false (okD_no fun h => by omega)).2 rfl
        have q6 : decide (I < v) = true := by rw [decide_eq_true_eq]; omega
        go_wp2_with fail
        refine wp_region_S (RmS w G S I J wr.heap.size x y v) (by kernel_rfl) (by kernel_rfl) ⟨ST.out.s, ST.out.dd, ST.out.bel.drew⟩ ?_
        intro hne
        first | go_big_quiet_skip | (go_big_quiet_want; go_big_quiet_op; go_big_quiet_on)
        first | go_big_quiet_skip | (go_big_quiet_want; go_big_quiet_op; go_big_quiet_on)
        first | go_big_quiet_skip | (go_big_quiet_want; go_big_quiet_op; go_big_quiet_on)
        first | go_big_quiet_skip | (go_big_quiet_want; go_big_quiet_op; go_big_quiet_on)
        first | go_big_quiet_skip | (go_big_quiet_want; go_big_quiet_op; go_big_quiet_on)
        first | go_big_quiet_skip | (go_big_quiet_want; go_big_quiet_op; go_big_quiet_on)
        refine q_load rfl 23 _ rfl _ _ rfl (gcells G S I J).toList _ (fun W h => h.s.range) Tryd.underlying23 rfl (by kernel_rfl) ?_
        refine wpQuiet_frame (by simp only [Act.put, List.setIfInBounds_toArray, List.set_cons_succ, List.set_cons_zero]; exact rfl) ?_
        go_big_quiet_want
        go_big_quiet_op
        refine ⟨_, fun s => q_call s (fun W hW => (HDA.out W).mono fun e w' h => ⟨h.1, hW.below h.2⟩), ?_⟩
        go_big_quiet_on
        repeat first | go_big_quiet_skip | (go_big_quiet_want; go_big_quiet_op; go_big_quiet_on)
        refine wpQuiet_nil ?_
        intro w6 h6
        have st6 := h6.out
        clear h6 hne hd0 hd1 hd2 hg2
        go_wp2_with fail
        go_ret
        exact ⟨by rw [HD.out, HF.out]; rfl, st6.bel⟩
      have q6 : decide (I < v) = false := by rw [decide_eq_false_iff_not]; omega
      by_cases h7 : y + v ≤ I
      rotate_left
      · have HF : Hid (allB (fun k => okD da I (b k) (i k) (d k)) n = false) := (HK.out false (okD_no fun h => by omega)).2 rfl
        have q7 : decide (I < y + v) = true := by rw [decide_eq_true_eq]; omega
        go_wp2_with fail
        refine wp_region_S (RmS w G S I J wr.heap.size x y v) (by kernel_rfl) (by kernel_rfl) ⟨ST.out.s, ST.out.dd, ST.out.bel.drew⟩ ?_
        intro hne
        first | go_big_quiet_skip | (go_big_quiet_want; go_big_quiet_op; go_big_quiet_on)
        first | go_big_quiet_skip | (go_big_quiet_want; go_big_quiet_op; go_big_quiet_on)
        first | go_big_quiet_skip | (go_big_quiet_want; go_big_quiet_op; go_big_quiet_on)
        first | go_big_quiet_skip | (go_big_quiet_want; go_big_quiet_op; go_big_quiet_on)
        first | go_big_quiet_skip | (go_big_quiet_want; go_big_quiet_op; go_big_quiet_on)
        first | go_big_quiet_skip | (go_big_quiet_want; go_big_quiet_op; go_big_quiet_on)
        refine q_load rfl 23 _ rfl _ _ rfl (gcells G S I J).toList _ (fun W h => h.s.range) Tryd.underlying23 rfl (by kernel_rfl) ?_
        refine wpQuiet_frame (by simp only [Act.put, List.setIfInBounds_toArray, List.set_cons_succ, List.set_cons_zero]; exact rfl) ?_
        go_big_quiet_want
        go_big_quiet_op
        refine ⟨_, fun s => q_call s (fun W hW => (HDA.out W).mono fun e w' h => ⟨h.1, hW.below h.2⟩), ?_⟩
        go_big_quiet_on
        repeat first | go_big_quiet_skip | (go_big_quiet_want; go_big_quiet_op; go_big_quiet_on)
        refine wpQuiet_nil ?_
        intro w6 h6
        have st6 := h6.out
        clear h6 hne hd0 hd1 hd2 hg2
        go_wp2_with fail
        go_ret
        exact ⟨by rw [HD.out, HF.out]; rfl, st6.bel⟩
      have q7 : decide (I < y + v) = false := by rw [decide_eq_false_iff_not]; omega
      have HY : Hid (allB (fun k => okD da I (b k) (i k) (d k)) (k + 1) = true) := (HK.out true ((okD_iff _ _ _ _ _).2 ⟨h1, h2, h3, h5, h4, by omega⟩)).1 rfl
      go_wp2_with fail
      refine wp_region_S (RmS w G S I J wr.heap.size x y v) (by kernel_rfl) (by kernel_rfl) ⟨ST.out.s, ST.out.dd, ST.out.bel.drew⟩ ?_
      intro hne
      first | go_big_quiet_skip | (go_big_quiet_want; go_big_quiet_op; go_big_quiet_on)
      first | go_big_quiet_skip | (go_big_quiet_want; go_big_quiet_op; go_big_quiet_on)
      first | go_big_quiet_skip | (go_big_quiet_want; go_big_quiet_op; go_big_quiet_on)
      first | go_big_quiet_skip | (go_big_quiet_want; go_big_quiet_op; go_big_quiet_on)
      first | go_big_quiet_skip | (go_big_quiet_want; go_big_quiet_op; go_big_quiet_on)
      first | go_big_quiet_skip | (go_big_quiet_want; go_big_quiet_op; go_big_quiet_on)
      refine q_load rfl 23 _ rfl _ _ rfl (gcells G S I J).toList _ (fun W h => h.s.range) Tryd.underlying23 rfl (by kernel_rfl) ?_
      refine wpQuiet_frame (by simp only [Act.put, List.setIfInBounds_toArray, List.set_cons_succ, List.set_cons_zero]; exact rfl) ?_
      go_big_quiet_want
      go_big_quiet_op
      refine ⟨_, fun s => q_call s (fun W hW => (HDA.out W).mono fun e w' h => ⟨h.1, hW.below h.2⟩), ?_⟩
      go_big_quiet_on
      repeat first | go_big_quiet_skip | (go_big_quiet_want; go_big_quiet_op; go_big_quiet_on)
      refine wpQuiet_nil ?_
      intro w6 h6
      have st6 := h6.out
      clear h6 hne hd0 hd1 hd2 hg2
      go_wp2_with fail
      go_roundw
      case rel => first | exact ⟨k + 1, by omega, by go_num, HY, st6.s, st6.bel⟩ | exact ⟨k + 1, by omega, rfl, HY, st6.s, st6.bel⟩
      case measure => simp [intOf]; omega
    · obtain rfl : k = n := by omega
      go_wp2_with fail
      go_ret
      exact ⟨by rw [HD.out, HALL.out]; rfl, hbl⟩
end Go.Proofs.YtopakpmepioomaaDoor
