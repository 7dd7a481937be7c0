/- quernref06.Read. Printed by gen_u6t.py. -/
import Derived.Test.YtbbcckopkbiojaaDoorU6r
import Derived.Test.YtbbcckopkbiojaaDoorBar
import Derived.Test.YtbbcckopkbiojaaDoorNew
namespace Go.Proofs.YtbbcckopkbiojaaDoor
open Go.RowKit
set_option linter.unusedVariables false

structure RrS (w : World) (z : Nat → Int) (W : World) : Prop where
  b : Blk W w.heap.size 29 256 z
  r : At W (w.heap.size + 1) 26 (scells 0 0 0 0 0)
  bel : Below w.heap.size w W
theorem RrS.below {w : World} {z : Nat → Int} {W W' : World} (h : RrS w z W) (hb : Below W.heap.size W W') : RrS w z W' := ⟨h.b.below hb h.b.lt, h.r.below hb h.r.lt, h.bel.trans (hb.mono h.bel.size)⟩
theorem RrS.sz {w : World} {z : Nat → Int} {W : World} (h : RrS w z W) : w.heap.size + 2 ≤ W.heap.size := h.r.lt
theorem rzeroF (z : Nat → Int) (c : Bool) (hc : allZ (fun i => z (20 + i)) 232 = c) (w W : World) (hB : Blk W w.heap.size 29 256 z) :
    Calls Tryd.prog 42 #[.slice (some ⟨w.heap.size, 20, none⟩) 232 236] W fun e w' => e = .returned (.bool c) ∧ W = w' := by
  rw [← hc]
  exact rzero_any (some ⟨w.heap.size, 20, none⟩) 232 236 (fun i => z (20 + i)) W (by omega) (.inr ⟨_, _, rfl, by have := hB.seg.sub 20 232 (by omega); rwa [Nat.zero_add] at this⟩)
theorem info_geo : (Tryd.prog.info? 23).map (·.size) = some 4 := by kernel_rfl
theorem all_g (G S I J : Int) : (gcells G S I J).all (·.oneCell') = true := by kernel_rfl
structure RrV (w : World) (z : Nat → Int) (p : Nat) (G S I J : Int) (W : World) : Prop extends RrS w z W where
  v : At W p 23 (gcells G S I J)
theorem RrV.below {w : World} {z : Nat → Int} {p : Nat} {G S I J : Int} {W W' : World} (h : RrV w z p G S I J W) (hb : Below W.heap.size W W') : RrV w z p G S I J W' := ⟨h.toRrS.below hb, h.v.below hb h.v.lt⟩

set_option maxRecDepth 100000 in
set_option maxHeartbeats 8000000 in
theorem rsRead_any (z : Nat → Int) (hzb : Byt z) (w : World) :
    Calls Tryd.prog 17 #[bval z] w fun e w' => e = .returned (.tuple #[readV z, .int .i64 (readE z)]) ∧ Below w.heap.size w w' := by
  have hals := zero_super
  have halg := zero_geo
  have st : RrS w z ((w.alloc (.cells (Ks .u8 256 z).toArray 29)).alloc (.cells (scells 0 0 0 0 0) 26)) := by
    refine ⟨(Blk.new w _ _ _).alloc _, ?_, ((Below.refl _ _).alloc (Nat.le_refl _) _).alloc (by simp) _⟩
    have := At.new (w.alloc (.cells (Ks .u8 256 z).toArray 29)) 26 (scells 0 0 0 0 0)
    simp only [World.size_alloc] at this
    exact this
  have hsb := fun W => run_sliceBlk w.heap.size 0 0 252 0 252 rfl rfl (by omega) (by omega) (by omega) W
  have hsc := fun W => run_sliceBlk w.heap.size 0 20 252 20 252 rfl rfl (by omega) (by omega) (by omega) W
  go_enter Tryd.func17, Tryd.ntmps17
  obtain ⟨c0, hc0⟩ : ∃ c, (g32 z 0 == 827216465) = c := ⟨_, rfl⟩
  have hn0 : (g32 z 0 != 827216465) = !c0 := by rw [← hc0]; rfl
  cases c0 with
  | false =>
    have HC := Lib.hid hc0
    clear hc0
    go_wp2_with fail
    refine wp_region_S (RrS w z) (by kernel_rfl) (by kernel_rfl) ⟨st.b, st.r, st.bel.drew⟩ ?_
    clear st
    intro hne
    refine q_load rfl 29 (.tmp 1) rfl _ _ rfl (Ks .u8 256 z) _ (fun W h => h.b.range) Tryd.underlying29 rfl (by rw [Ks_length]; exact info_block) ?_
    refine wpQuiet_frame (by simp only [Act.put, List.setIfInBounds_toArray, List.set_cons_succ, List.set_cons_zero]; exact rfl) ?_
    go_big_quiet_want
    go_big_quiet_op
    refine ⟨_, fun s => q_call s (fun W hW => (rlong_any z hzb 0 0 rfl (by omega) W).mono fun e w' h => ⟨h.1, hW.below h.2⟩), ?_⟩
    go_big_quiet_on
    first | go_big_quiet_skip | (go_big_quiet_want; go_big_quiet_op; go_big_quiet_on)
    first | go_big_quiet_skip | (go_big_quiet_want; go_big_quiet_op; go_big_quiet_on)
    first | go_big_quiet_skip | (go_big_quiet_want; go_big_quiet_op; go_big_quiet_on)
    first | go_big_quiet_skip | (go_big_quiet_want; go_big_quiet_op; go_big_quiet_on)
    first | go_big_quiet_skip | (go_big_quiet_want; go_big_quiet_op; go_big_quiet_on)
    first | go_big_quiet_skip | (go_big_quiet_want; go_big_quiet_op; go_big_quiet_on)
    first | go_big_quiet_skip | (go_big_quiet_want; go_big_quiet_op; go_big_quiet_on)
    first | go_big_quiet_skip | (go_big_quiet_want; go_big_quiet_op; go_big_quiet_on)
    first | go_big_quiet_skip | (go_big_quiet_want; go_big_quiet_op; go_big_quiet_on)
    first | go_big_quiet_skip | (go_big_quiet_want; go_big_quiet_op; go_big_quiet_on)
    first | go_big_quiet_skip | (go_big_quiet_want; go_big_quiet_op; go_big_quiet_on)
    first | go_big_quiet_skip | (go_big_quiet_want; go_big_quiet_op; go_big_quiet_on)
    first | go_big_quiet_skip | (go_big_quiet_want; go_big_quiet_op; go_big_quiet_on)
    first | go_big_quiet_skip | (go_big_quiet_want; go_big_quiet_op; go_big_quiet_on)
    first | go_big_quiet_skip | (go_big_quiet_want; go_big_quiet_op; go_big_quiet_on)
    first | go_big_quiet_skip | (go_big_quiet_want; go_big_quiet_op; go_big_quiet_on)
    first | go_big_quiet_skip | (go_big_quiet_want; go_big_quiet_op; go_big_quiet_on)
    first | go_big_quiet_skip | (go_big_quiet_want; go_big_quiet_op; go_big_quiet_on)
    first | go_big_quiet_skip | (go_big_quiet_want; go_big_quiet_op; go_big_quiet_on)
    first | go_big_quiet_skip | (go_big_quiet_want; go_big_quiet_op; go_big_quiet_on)
    first | go_big_quiet_skip | (go_big_quiet_want; go_big_quiet_op; go_big_quiet_on)
    first | go_big_quiet_skip | (go_big_quiet_want; go_big_quiet_op; go_big_quiet_on)
    first | go_big_quiet_skip | (go_big_quiet_want; go_big_quiet_op; go_big_quiet_on)
    refine wpQuiet_nil ?_
    intro w5 h5
    have st5 := h5.out
    clear h5 hne
    have HE : Hid (readE z = 60) := by show _ = _; unfold readE readA; rw [HC.out]; rfl
    have hr := st5.r
    go_wp2_with (first | (refine wp_storeAt rfl 26 (.tmp 2) (.tmp 30) rfl (w.heap.size + 1) (scells 0 0 0 0 0) (scells 0 0 0 0 0) rfl rfl hr info_super rfl (all_s _ _ _ _ _) ?_))
    intro w9 hR9 ho9
    go_wp2_with fail
    exact bodyPost_ret (results_sup2 rfl _ _ (w.heap.size + 1) _ _ _ _ _ rfl hR9) rfl ⟨by rw [readV_no (by rw [HE.out]; decide), HE.out]; rfl, st5.bel.trans (ho9.below (by omega))⟩
  | true =>
  have HC0 := Lib.hid hc0
  clear hc0
  obtain ⟨c1, hc1⟩ : ∃ c, (hd z 2 == 1) = c := ⟨_, rfl⟩
  have hn1 : (hd z 2 != 1) = !c1 := by rw [← hc1]; rfl
  cases c1 with
  | false =>
    have HC := Lib.hid hc1
    clear hc1
    go_wp2_with fail
    refine wp_region_S (RrS w z) (by kernel_rfl) (by kernel_rfl) ⟨st.b, st.r, st.bel.drew⟩ ?_
    clear st
    intro hne
    refine q_load rfl 29 (.tmp 1) rfl _ _ rfl (Ks .u8 256 z) _ (fun W h => h.b.range) Tryd.underlying29 rfl (by rw [Ks_length]; exact info_block) ?_
    refine wpQuiet_frame (by simp only [Act.put, List.setIfInBounds_toArray, List.set_cons_succ, List.set_cons_zero]; exact rfl) ?_
    go_big_quiet_want
    go_big_quiet_op
    refine ⟨_, fun s => q_call s (fun W hW => (rlong_any z hzb 0 0 rfl (by omega) W).mono fun e w' h => ⟨h.1, hW.below h.2⟩), ?_⟩
    go_big_quiet_on
    first | go_big_quiet_skip | (go_big_quiet_want; go_big_quiet_op; go_big_quiet_on)
    first | go_big_quiet_skip | (go_big_quiet_want; go_big_quiet_op; go_big_quiet_on)
    refine q_load rfl 29 (.tmp 1) rfl _ _ rfl (Ks .u8 256 z) _ (fun W h => h.b.range) Tryd.underlying29 rfl (by rw [Ks_length]; exact info_block) ?_
    refine wpQuiet_frame (by simp only [Act.put, List.setIfInBounds_toArray, List.set_cons_succ, List.set_cons_zero]; exact rfl) ?_
    go_big_quiet_want
    go_big_quiet_op
    refine ⟨_, fun s => q_call s (fun W hW => (rshort_any z hzb 2 4 rfl (by omega) W).mono fun e w' h => ⟨h.1, hW.below h.2⟩), ?_⟩
    go_big_quiet_on
    first | go_big_quiet_skip | (go_big_quiet_want; go_big_quiet_op; go_big_quiet_on)
    first | go_big_quiet_skip | (go_big_quiet_want; go_big_quiet_op; go_big_quiet_on)
    first | go_big_quiet_skip | (go_big_quiet_want; go_big_quiet_op; go_big_quiet_on)
    first | go_big_quiet_skip | (go_big_quiet_want; go_big_quiet_op; go_big_quiet_on)
    first | go_big_quiet_skip | (go_big_quiet_want; go_big_quiet_op; go_big_quiet_on)
    first | go_big_quiet_skip | (go_big_quiet_want; go_big_quiet_op; go_big_quiet_on)
    first | go_big_quiet_skip | (go_big_quiet_want; go_big_quiet_op; go_big_quiet_on)
    first | go_big_quiet_skip | (go_big_quiet_want; go_big_quiet_op; go_big_quiet_on)
    first | go_big_quiet_skip | (go_big_quiet_want; go_big_quiet_op; go_big_quiet_on)
    first | go_big_quiet_skip | (go_big_quiet_want; go_big_quiet_op; go_big_quiet_on)
    first | go_big_quiet_skip | (go_big_quiet_want; go_big_quiet_op; go_big_quiet_on)
    first | go_big_quiet_skip | (go_big_quiet_want; go_big_quiet_op; go_big_quiet_on)
    first | go_big_quiet_skip | (go_big_quiet_want; go_big_quiet_op; go_big_quiet_on)
    first | go_big_quiet_skip | (go_big_quiet_want; go_big_quiet_op; go_big_quiet_on)
    first | go_big_quiet_skip | (go_big_quiet_want; go_big_quiet_op; go_big_quiet_on)
    first | go_big_quiet_skip | (go_big_quiet_want; go_big_quiet_op; go_big_quiet_on)
    first | go_big_quiet_skip | (go_big_quiet_want; go_big_quiet_op; go_big_quiet_on)
    first | go_big_quiet_skip | (go_big_quiet_want; go_big_quiet_op; go_big_quiet_on)
    first | go_big_quiet_skip | (go_big_quiet_want; go_big_quiet_op; go_big_quiet_on)
    refine wpQuiet_nil ?_
    intro w5 h5
    have st5 := h5.out
    clear h5 hne
    have HE : Hid (readE z = 60) := by show _ = _; unfold readE readA; rw [HC0.out, HC.out]; rfl
    have hr := st5.r
    go_wp2_with (first | (refine wp_storeAt rfl 26 (.tmp 2) (.tmp 30) rfl (w.heap.size + 1) (scells 0 0 0 0 0) (scells 0 0 0 0 0) rfl rfl hr info_super rfl (all_s _ _ _ _ _) ?_))
    intro w9 hR9 ho9
    go_wp2_with fail
    exact bodyPost_ret (results_sup2 rfl _ _ (w.heap.size + 1) _ _ _ _ _ rfl hR9) rfl ⟨by rw [readV_no (by rw [HE.out]; decide), HE.out]; rfl, st5.bel.trans (ho9.below (by omega))⟩
  | true =>
  have HC1 := Lib.hid hc1
  clear hc1
  obtain ⟨c2, hc2⟩ : ∃ c, (hd z 3 == 256) = c := ⟨_, rfl⟩
  have hn2 : (hd z 3 != 256) = !c2 := by rw [← hc2]; rfl
  cases c2 with
  | false =>
    have HC := Lib.hid hc2
    clear hc2
    go_wp2_with fail
    refine wp_region_S (RrS w z) (by kernel_rfl) (by kernel_rfl) ⟨st.b, st.r, st.bel.drew⟩ ?_
    clear st
    intro hne
    refine q_load rfl 29 (.tmp 1) rfl _ _ rfl (Ks .u8 256 z) _ (fun W h => h.b.range) Tryd.underlying29 rfl (by rw [Ks_length]; exact info_block) ?_
    refine wpQuiet_frame (by simp only [Act.put, List.setIfInBounds_toArray, List.set_cons_succ, List.set_cons_zero]; exact rfl) ?_
    go_big_quiet_want
    go_big_quiet_op
    refine ⟨_, fun s => q_call s (fun W hW => (rlong_any z hzb 0 0 rfl (by omega) W).mono fun e w' h => ⟨h.1, hW.below h.2⟩), ?_⟩
    go_big_quiet_on
    first | go_big_quiet_skip | (go_big_quiet_want; go_big_quiet_op; go_big_quiet_on)
    first | go_big_quiet_skip | (go_big_quiet_want; go_big_quiet_op; go_big_quiet_on)
    refine q_load rfl 29 (.tmp 1) rfl _ _ rfl (Ks .u8 256 z) _ (fun W h => h.b.range) Tryd.underlying29 rfl (by rw [Ks_length]; exact info_block) ?_
    refine wpQuiet_frame (by simp only [Act.put, List.setIfInBounds_toArray, List.set_cons_succ, List.set_cons_zero]; exact rfl) ?_
    go_big_quiet_want
    go_big_quiet_op
    refine ⟨_, fun s => q_call s (fun W hW => (rshort_any z hzb 2 4 rfl (by omega) W).mono fun e w' h => ⟨h.1, hW.below h.2⟩), ?_⟩
    go_big_quiet_on
    first | go_big_quiet_skip | (go_big_quiet_want; go_big_quiet_op; go_big_quiet_on)
    first | go_big_quiet_skip | (go_big_quiet_want; go_big_quiet_op; go_big_quiet_on)
    first | go_big_quiet_skip | (go_big_quiet_want; go_big_quiet_op; go_big_quiet_on)
    refine q_load rfl 29 (.tmp 1) rfl _ _ rfl (Ks .u8 256 z) _ (fun W h => h.b.range) Tryd.underlying29 rfl (by rw [Ks_length]; exact info_block) ?_
    refine wpQuiet_frame (by simp only [Act.put, List.setIfInBounds_toArray, List.set_cons_succ, List.set_cons_zero]; exact rfl) ?_
    go_big_quiet_want
    go_big_quiet_op
    refine ⟨_, fun s => q_call s (fun W hW => (rshort_any z hzb 3 6 rfl (by omega) W).mono fun e w' h => ⟨h.1, hW.below h.2⟩), ?_⟩
    go_big_quiet_on
    first | go_big_quiet_skip | (go_big_quiet_want; go_big_quiet_op; go_big_quiet_on)
    first | go_big_quiet_skip | (go_big_quiet_want; go_big_quiet_op; go_big_quiet_on)
    first | go_big_quiet_skip | (go_big_quiet_want; go_big_quiet_op; go_big_quiet_on)
    first | go_big_quiet_skip | (go_big_quiet_want; go_big_quiet_op; go_big_quiet_on)
    first | go_big_quiet_skip | (go_big_quiet_want; go_big_quiet_op; go_big_quiet_on)
    first | go_big_quiet_skip | (go_big_quiet_want; go_big_quiet_op; go_big_quiet_on)
    first | go_big_quiet_skip | (go_big_quiet_want; go_big_quiet_op; go_big_quiet_on)
    first | go_big_quiet_skip | (go_big_quiet_want; go_big_quiet_op; go_big_quiet_on)
    first | go_big_quiet_skip | (go_big_quiet_want; go_big_quiet_op; go_big_quiet_on)
    first | go_big_quiet_skip | (go_big_quiet_want; go_big_quiet_op; go_big_quiet_on)
    first | go_big_quiet_skip | (go_big_quiet_want; go_big_quiet_op; go_big_quiet_on)
    first | go_big_quiet_skip | (go_big_quiet_want; go_big_quiet_op; go_big_quiet_on)
    first | go_big_quiet_skip | (go_big_quiet_want; go_big_quiet_op; go_big_quiet_on)
    first | go_big_quiet_skip | (go_big_quiet_want; go_big_quiet_op; go_big_quiet_on)
    refine wpQuiet_nil ?_
    intro w5 h5
    have st5 := h5.out
    clear h5 hne
    have HE : Hid (readE z = 60) := by show _ = _; unfold readE readA; rw [HC0.out, HC1.out, HC.out]; rfl
    have hr := st5.r
    go_wp2_with (first | (refine wp_storeAt rfl 26 (.tmp 2) (.tmp 30) rfl (w.heap.size + 1) (scells 0 0 0 0 0) (scells 0 0 0 0 0) rfl rfl hr info_super rfl (all_s _ _ _ _ _) ?_))
    intro w9 hR9 ho9
    go_wp2_with fail
    exact bodyPost_ret (results_sup2 rfl _ _ (w.heap.size + 1) _ _ _ _ _ rfl hR9) rfl ⟨by rw [readV_no (by rw [HE.out]; decide), HE.out]; rfl, st5.bel.trans (ho9.below (by omega))⟩
  | true =>
  have HC2 := Lib.hid hc2
  clear hc2
  obtain ⟨c3, hc3⟩ : ∃ c, (g32 z 252 == crcZ z 252) = c := ⟨_, rfl⟩
  have hn3 : (g32 z 252 != crcZ z 252) = !c3 := by rw [← hc3]; rfl
  cases c3 with
  | false =>
    have HC := Lib.hid hc3
    clear hc3
    go_wp2_with fail
    refine wp_region_S (RrS w z) (by kernel_rfl) (by kernel_rfl) ⟨st.b, st.r, st.bel.drew⟩ ?_
    clear st
    intro hne
    refine q_load rfl 29 (.tmp 1) rfl _ _ rfl (Ks .u8 256 z) _ (fun W h => h.b.range) Tryd.underlying29 rfl (by rw [Ks_length]; exact info_block) ?_
    refine wpQuiet_frame (by simp only [Act.put, List.setIfInBounds_toArray, List.set_cons_succ, List.set_cons_zero]; exact rfl) ?_
    go_big_quiet_want
    go_big_quiet_op
    refine ⟨_, fun s => q_call s (fun W hW => (rlong_any z hzb 0 0 rfl (by omega) W).mono fun e w' h => ⟨h.1, hW.below h.2⟩), ?_⟩
    go_big_quiet_on
    first | go_big_quiet_skip | (go_big_quiet_want; go_big_quiet_op; go_big_quiet_on)
    first | go_big_quiet_skip | (go_big_quiet_want; go_big_quiet_op; go_big_quiet_on)
    refine q_load rfl 29 (.tmp 1) rfl _ _ rfl (Ks .u8 256 z) _ (fun W h => h.b.range) Tryd.underlying29 rfl (by rw [Ks_length]; exact info_block) ?_
    refine wpQuiet_frame (by simp only [Act.put, List.setIfInBounds_toArray, List.set_cons_succ, List.set_cons_zero]; exact rfl) ?_
    go_big_quiet_want
    go_big_quiet_op
    refine ⟨_, fun s => q_call s (fun W hW => (rshort_any z hzb 2 4 rfl (by omega) W).mono fun e w' h => ⟨h.1, hW.below h.2⟩), ?_⟩
    go_big_quiet_on
    first | go_big_quiet_skip | (go_big_quiet_want; go_big_quiet_op; go_big_quiet_on)
    first | go_big_quiet_skip | (go_big_quiet_want; go_big_quiet_op; go_big_quiet_on)
    first | go_big_quiet_skip | (go_big_quiet_want; go_big_quiet_op; go_big_quiet_on)
    refine q_load rfl 29 (.tmp 1) rfl _ _ rfl (Ks .u8 256 z) _ (fun W h => h.b.range) Tryd.underlying29 rfl (by rw [Ks_length]; exact info_block) ?_
    refine wpQuiet_frame (by simp only [Act.put, List.setIfInBounds_toArray, List.set_cons_succ, List.set_cons_zero]; exact rfl) ?_
    go_big_quiet_want
    go_big_quiet_op
    refine ⟨_, fun s => q_call s (fun W hW => (rshort_any z hzb 3 6 rfl (by omega) W).mono fun e w' h => ⟨h.1, hW.below h.2⟩), ?_⟩
    go_big_quiet_on
    first | go_big_quiet_skip | (go_big_quiet_want; go_big_quiet_op; go_big_quiet_on)
    first | go_big_quiet_skip | (go_big_quiet_want; go_big_quiet_op; go_big_quiet_on)
    first | go_big_quiet_skip | (go_big_quiet_want; go_big_quiet_op; go_big_quiet_on)
    refine q_load rfl 29 (.tmp 1) rfl _ _ rfl (Ks .u8 256 z) _ (fun W h => h.b.range) Tryd.underlying29 rfl (by rw [Ks_length]; exact info_block) ?_
    refine wpQuiet_frame (by simp only [Act.put, List.setIfInBounds_toArray, List.set_cons_succ, List.set_cons_zero]; exact rfl) ?_
    go_big_quiet_want
    go_big_quiet_op
    refine ⟨_, fun s => q_call s (fun W hW => (rlong_any z hzb 252 252 rfl (by omega) W).mono fun e w' h => ⟨h.1, hW.below h.2⟩), ?_⟩
    go_big_quiet_on
    first | go_big_quiet_skip | (go_big_quiet_want; go_big_quiet_op; go_big_quiet_on)
    go_big_quiet_want
    go_big_quiet_op
    refine ⟨_, fun s => q_call s (fun W hW => (rSum_any (some ⟨w.heap.size, 0, none⟩) 252 256 z W (by omega) (.inr ⟨_, _, rfl, hW.b.seg.take 252 (by omega)⟩) hzb).mono fun e w' h => ⟨h.1, h.2 ▸ hW⟩), ?_⟩
    go_big_quiet_on
    first | go_big_quiet_skip | (go_big_quiet_want; go_big_quiet_op; go_big_quiet_on)
    first | go_big_quiet_skip | (go_big_quiet_want; go_big_quiet_op; go_big_quiet_on)
    first | go_big_quiet_skip | (go_big_quiet_want; go_big_quiet_op; go_big_quiet_on)
    first | go_big_quiet_skip | (go_big_quiet_want; go_big_quiet_op; go_big_quiet_on)
    first | go_big_quiet_skip | (go_big_quiet_want; go_big_quiet_op; go_big_quiet_on)
    first | go_big_quiet_skip | (go_big_quiet_want; go_big_quiet_op; go_big_quiet_on)
    first | go_big_quiet_skip | (go_big_quiet_want; go_big_quiet_op; go_big_quiet_on)
    refine wpQuiet_nil ?_
    intro w5 h5
    have st5 := h5.out
    clear h5 hne
    have HE : Hid (readE z = 60) := by show _ = _; unfold readE readA; rw [HC0.out, HC1.out, HC2.out, show sumB z = false from HC.out]; rfl
    have hr := st5.r
    go_wp2_with (first | (refine wp_storeAt rfl 26 (.tmp 2) (.tmp 30) rfl (w.heap.size + 1) (scells 0 0 0 0 0) (scells 0 0 0 0 0) rfl rfl hr info_super rfl (all_s _ _ _ _ _) ?_))
    intro w9 hR9 ho9
    go_wp2_with fail
    exact bodyPost_ret (results_sup2 rfl _ _ (w.heap.size + 1) _ _ _ _ _ rfl hR9) rfl ⟨by rw [readV_no (by rw [HE.out]; decide), HE.out]; rfl, st5.bel.trans (ho9.below (by omega))⟩
  | true =>
  have HC3 : Hid (sumB z = true) := Lib.hid hc3
  clear hc3
  cases hc4 : allZ (fun i => z (20 + i)) 232 with
  | false =>
    have HC := Lib.hid hc4
    clear hc4
    go_wp2_with fail
    refine wp_region_S (RrS w z) (by kernel_rfl) (by kernel_rfl) ⟨st.b, st.r, st.bel.drew⟩ ?_
    clear st
    intro hne
    refine q_load rfl 29 (.tmp 1) rfl _ _ rfl (Ks .u8 256 z) _ (fun W h => h.b.range) Tryd.underlying29 rfl (by rw [Ks_length]; exact info_block) ?_
    refine wpQuiet_frame (by simp only [Act.put, List.setIfInBounds_toArray, List.set_cons_succ, List.set_cons_zero]; exact rfl) ?_
    go_big_quiet_want
    go_big_quiet_op
    refine ⟨_, fun s => q_call s (fun W hW => (rlong_any z hzb 0 0 rfl (by omega) W).mono fun e w' h => ⟨h.1, hW.below h.2⟩), ?_⟩
    go_big_quiet_on
    first | go_big_quiet_skip | (go_big_quiet_want; go_big_quiet_op; go_big_quiet_on)
    first | go_big_quiet_skip | (go_big_quiet_want; go_big_quiet_op; go_big_quiet_on)
    refine q_load rfl 29 (.tmp 1) rfl _ _ rfl (Ks .u8 256 z) _ (fun W h => h.b.range) Tryd.underlying29 rfl (by rw [Ks_length]; exact info_block) ?_
    refine wpQuiet_frame (by simp only [Act.put, List.setIfInBounds_toArray, List.set_cons_succ, List.set_cons_zero]; exact rfl) ?_
    go_big_quiet_want
    go_big_quiet_op
    refine ⟨_, fun s => q_call s (fun W hW => (rshort_any z hzb 2 4 rfl (by omega) W).mono fun e w' h => ⟨h.1, hW.below h.2⟩), ?_⟩
    go_big_quiet_on
    first | go_big_quiet_skip | (go_big_quiet_want; go_big_quiet_op; go_big_quiet_on)
    first | go_big_quiet_skip | (go_big_quiet_want; go_big_quiet_op; go_big_quiet_on)
    first | go_big_quiet_skip | (go_big_quiet_want; go_big_quiet_op; go_big_quiet_on)
    refine q_load rfl 29 (.tmp 1) rfl _ _ rfl (Ks .u8 256 z) _ (fun W h => h.b.range) Tryd.underlying29 rfl (by rw [Ks_length]; exact info_block) ?_
    refine wpQuiet_frame (by simp only [Act.put, List.setIfInBounds_toArray, List.set_cons_succ, List.set_cons_zero]; exact rfl) ?_
    go_big_quiet_want
    go_big_quiet_op
    refine ⟨_, fun s => q_call s (fun W hW => (rshort_any z hzb 3 6 rfl (by omega) W).mono fun e w' h => ⟨h.1, hW.below h.2⟩), ?_⟩
    go_big_quiet_on
    first | go_big_quiet_skip | (go_big_quiet_want; go_big_quiet_op; go_big_quiet_on)
    first | go_big_quiet_skip | (go_big_quiet_want; go_big_quiet_op; go_big_quiet_on)
    first | go_big_quiet_skip | (go_big_quiet_want; go_big_quiet_op; go_big_quiet_on)
    refine q_load rfl 29 (.tmp 1) rfl _ _ rfl (Ks .u8 256 z) _ (fun W h => h.b.range) Tryd.underlying29 rfl (by rw [Ks_length]; exact info_block) ?_
    refine wpQuiet_frame (by simp only [Act.put, List.setIfInBounds_toArray, List.set_cons_succ, List.set_cons_zero]; exact rfl) ?_
    go_big_quiet_want
    go_big_quiet_op
    refine ⟨_, fun s => q_call s (fun W hW => (rlong_any z hzb 252 252 rfl (by omega) W).mono fun e w' h => ⟨h.1, hW.below h.2⟩), ?_⟩
    go_big_quiet_on
    first | go_big_quiet_skip | (go_big_quiet_want; go_big_quiet_op; go_big_quiet_on)
    go_big_quiet_want
    go_big_quiet_op
    refine ⟨_, fun s => q_call s (fun W hW => (rSum_any (some ⟨w.heap.size, 0, none⟩) 252 256 z W (by omega) (.inr ⟨_, _, rfl, hW.b.seg.take 252 (by omega)⟩) hzb).mono fun e w' h => ⟨h.1, h.2 ▸ hW⟩), ?_⟩
    go_big_quiet_on
    first | go_big_quiet_skip | (go_big_quiet_want; go_big_quiet_op; go_big_quiet_on)
    first | go_big_quiet_skip | (go_big_quiet_want; go_big_quiet_op; go_big_quiet_on)
    first | go_big_quiet_skip | (go_big_quiet_want; go_big_quiet_op; go_big_quiet_on)
    first | go_big_quiet_skip | (go_big_quiet_want; go_big_quiet_op; go_big_quiet_on)
    go_big_quiet_want
    go_big_quiet_op
    refine ⟨_, fun s => q_call s (fun W hW => (rzeroF z false HC.out w W hW.b).mono fun e w' h => ⟨h.1, h.2 ▸ hW⟩), ?_⟩
    go_big_quiet_on
    first | go_big_quiet_skip | (go_big_quiet_want; go_big_quiet_op; go_big_quiet_on)
    first | go_big_quiet_skip | (go_big_quiet_want; go_big_quiet_op; go_big_quiet_on)
    refine wpQuiet_nil ?_
    intro w5 h5
    have st5 := h5.out
    clear h5 hne
    have HE : Hid (readE z = 60) := by show _ = _; unfold readE readA; rw [HC0.out, HC1.out, HC2.out, HC3.out, HC.out]; rfl
    have hr := st5.r
    go_wp2_with (first | (refine wp_storeAt rfl 26 (.tmp 2) (.tmp 30) rfl (w.heap.size + 1) (scells 0 0 0 0 0) (scells 0 0 0 0 0) rfl rfl hr info_super rfl (all_s _ _ _ _ _) ?_))
    intro w9 hR9 ho9
    go_wp2_with fail
    exact bodyPost_ret (results_sup2 rfl _ _ (w.heap.size + 1) _ _ _ _ _ rfl hR9) rfl ⟨by rw [readV_no (by rw [HE.out]; decide), HE.out]; rfl, st5.bel.trans (ho9.below (by omega))⟩
  | true =>
  have HC := Lib.hid hc4
  have HRA : Hid (readA z = true) := by show _ = _; unfold readA; rw [HC0.out, HC1.out, HC2.out, HC3.out, hc4]; rfl
  clear hc4
  go_wp2_with fail
  refine wp_region_S (RrS w z) (by kernel_rfl) (by kernel_rfl) ⟨st.b, st.r, st.bel.drew⟩ ?_
  clear st
  intro hne
  refine q_load rfl 29 (.tmp 1) rfl _ _ rfl (Ks .u8 256 z) _ (fun W h => h.b.range) Tryd.underlying29 rfl (by rw [Ks_length]; exact info_block) ?_
  refine wpQuiet_frame (by simp only [Act.put, List.setIfInBounds_toArray, List.set_cons_succ, List.set_cons_zero]; exact rfl) ?_
  go_big_quiet_want
  go_big_quiet_op
  refine ⟨_, fun s => q_call s (fun W hW => (rlong_any z hzb 0 0 rfl (by omega) W).mono fun e w' h => ⟨h.1, hW.below h.2⟩), ?_⟩
  go_big_quiet_on
  first | go_big_quiet_skip | (go_big_quiet_want; go_big_quiet_op; go_big_quiet_on)
  first | go_big_quiet_skip | (go_big_quiet_want; go_big_quiet_op; go_big_quiet_on)
  refine q_load rfl 29 (.tmp 1) rfl _ _ rfl (Ks .u8 256 z) _ (fun W h => h.b.range) Tryd.underlying29 rfl (by rw [Ks_length]; exact info_block) ?_
  refine wpQuiet_frame (by simp only [Act.put, List.setIfInBounds_toArray, List.set_cons_succ, List.set_cons_zero]; exact rfl) ?_
  go_big_quiet_want
  go_big_quiet_op
  refine ⟨_, fun s => q_call s (fun W hW => (rshort_any z hzb 2 4 rfl (by omega) W).mono fun e w' h => ⟨h.1, hW.below h.2⟩), ?_⟩
  go_big_quiet_on
  first | go_big_quiet_skip | (go_big_quiet_want; go_big_quiet_op; go_big_quiet_on)
  first | go_big_quiet_skip | (go_big_quiet_want; go_big_quiet_op; go_big_quiet_on)
  first | go_big_quiet_skip | (go_big_quiet_want; go_big_quiet_op; go_big_quiet_on)
  refine q_load rfl 29 (.tmp 1) rfl _ _ rfl (Ks .u8 256 z) _ (fun W h => h.b.range) Tryd.underlying29 rfl (by rw [Ks_length]; exact info_block) ?_
  refine wpQuiet_frame (by simp only [Act.put, List.setIfInBounds_toArray, List.set_cons_succ, List.set_cons_zero]; exact rfl) ?_
  go_big_quiet_want
  go_big_quiet_op
  refine ⟨_, fun s => q_call s (fun W hW => (rshort_any z hzb 3 6 rfl (by omega) W).mono fun e w' h => ⟨h.1, hW.below h.2⟩), ?_⟩
  go_big_quiet_on
  first | go_big_quiet_skip | (go_big_quiet_want; go_big_quiet_op; go_big_quiet_on)
  first | go_big_quiet_skip | (go_big_quiet_want; go_big_quiet_op; go_big_quiet_on)
  first | go_big_quiet_skip | (go_big_quiet_want; go_big_quiet_op; go_big_quiet_on)
  refine q_load rfl 29 (.tmp 1) rfl _ _ rfl (Ks .u8 256 z) _ (fun W h => h.b.range) Tryd.underlying29 rfl (by rw [Ks_length]; exact info_block) ?_
  refine wpQuiet_frame (by simp only [Act.put, List.setIfInBounds_toArray, List.set_cons_succ, List.set_cons_zero]; exact rfl) ?_
  go_big_quiet_want
  go_big_quiet_op
  refine ⟨_, fun s => q_call s (fun W hW => (rlong_any z hzb 252 252 rfl (by omega) W).mono fun e w' h => ⟨h.1, hW.below h.2⟩), ?_⟩
  go_big_quiet_on
  first | go_big_quiet_skip | (go_big_quiet_want; go_big_quiet_op; go_big_quiet_on)
  go_big_quiet_want
  go_big_quiet_op
  refine ⟨_, fun s => q_call s (fun W hW => (rSum_any (some ⟨w.heap.size, 0, none⟩) 252 256 z W (by omega) (.inr ⟨_, _, rfl, hW.b.seg.take 252 (by omega)⟩) hzb).mono fun e w' h => ⟨h.1, h.2 ▸ hW⟩), ?_⟩
  go_big_quiet_on
  first | go_big_quiet_skip | (go_big_quiet_want; go_big_quiet_op; go_big_quiet_on)
  first | go_big_quiet_skip | (go_big_quiet_want; go_big_quiet_op; go_big_quiet_on)
  first | go_big_quiet_skip | (go_big_quiet_want; go_big_quiet_op; go_big_quiet_on)
  first | go_big_quiet_skip | (go_big_quiet_want; go_big_quiet_op; go_big_quiet_on)
  go_big_quiet_want
  go_big_quiet_op
  refine ⟨_, fun s => q_call s (fun W hW => (rzeroF z true HC.out w W hW.b).mono fun e w' h => ⟨h.1, h.2 ▸ hW⟩), ?_⟩
  go_big_quiet_on
  first | go_big_quiet_skip | (go_big_quiet_want; go_big_quiet_op; go_big_quiet_on)
  first | go_big_quiet_skip | (go_big_quiet_want; go_big_quiet_op; go_big_quiet_on)
  refine wpQuiet_nil ?_
  intro w5 h5
  have st5 := h5.out
  clear h5 hne
  have HDEF : Hid (readE z = if mayG (hd z 4) (hd z 5) (hd z 6) (hd z 7) then (if g32 z 16 ≤ nIn (hd z 4) (hd z 5) (hd z 6) (hd z 7) then 0 else 60) else 50) := by show _ = _; unfold readE; rw [HRA.out]; rfl
  have HDV : Hid (readE z = 0 → readV z = sval (hd z 4) (hd z 5) (hd z 6) (hd z 7) (g32 z 16)) := fun h => by unfold readV; rw [if_pos h]
  clear HC HC0 HC1 HC2 HC3 HRA hn0 hn1 hn2 hn3 hsb hsc
  go_wp2_with fail
  apply wp_region_new (RrS w z) 9 4 23 (gcells 0 0 0 0) (w.heap.size + 2) (A := _) (by kernel_rfl) (by kernel_rfl) (by kernel_rfl) (by kernel_rfl) (by kernel_rfl) (by kernel_rfl) (by kernel_rfl) _ rfl rfl rfl (fun a W => by kernel_rfl) (fun W W' h hb => h.below hb) (fun W h => h.sz) ⟨st5.b, st5.r, st5.bel.drew⟩
  case h =>
    intro R hR hne
    simp only [List.take_succ_cons, List.take_zero]
    refine q_load rfl 29 _ rfl _ _ rfl (Ks .u8 256 z) _ (fun W h => h.1.b.range) Tryd.underlying29 rfl (by rw [Ks_length]; exact info_block) ?_
    refine wpQuiet_frame (by simp only [Act.put, List.setIfInBounds_toArray, List.set_cons_succ, List.set_cons_zero]; exact rfl) ?_
    go_big_quiet_want
    go_big_quiet_op
    refine ⟨_, fun s => q_call s (fun W hW => (rshort_any z hzb 4 8 rfl (by omega) W).mono fun e w' h => ⟨h.1, hW.1.below h.2, hR W w' hW.2 h.2⟩), ?_⟩
    go_big_quiet_on
    refine q_load rfl 29 _ rfl _ _ rfl (Ks .u8 256 z) _ (fun W h => h.1.b.range) Tryd.underlying29 rfl (by rw [Ks_length]; exact info_block) ?_
    refine wpQuiet_frame (by simp only [Act.put, List.setIfInBounds_toArray, List.set_cons_succ, List.set_cons_zero]; exact rfl) ?_
    go_big_quiet_want
    go_big_quiet_op
    refine ⟨_, fun s => q_call s (fun W hW => (rshort_any z hzb 5 10 rfl (by omega) W).mono fun e w' h => ⟨h.1, hW.1.below h.2, hR W w' hW.2 h.2⟩), ?_⟩
    go_big_quiet_on
    refine q_load rfl 29 _ rfl _ _ rfl (Ks .u8 256 z) _ (fun W h => h.1.b.range) Tryd.underlying29 rfl (by rw [Ks_length]; exact info_block) ?_
    refine wpQuiet_frame (by simp only [Act.put, List.setIfInBounds_toArray, List.set_cons_succ, List.set_cons_zero]; exact rfl) ?_
    go_big_quiet_want
    go_big_quiet_op
    refine ⟨_, fun s => q_call s (fun W hW => (rshort_any z hzb 6 12 rfl (by omega) W).mono fun e w' h => ⟨h.1, hW.1.below h.2, hR W w' hW.2 h.2⟩), ?_⟩
    go_big_quiet_on
    refine q_load rfl 29 _ rfl _ _ rfl (Ks .u8 256 z) _ (fun W h => h.1.b.range) Tryd.underlying29 rfl (by rw [Ks_length]; exact info_block) ?_
    refine wpQuiet_frame (by simp only [Act.put, List.setIfInBounds_toArray, List.set_cons_succ, List.set_cons_zero]; exact rfl) ?_
    go_big_quiet_want
    go_big_quiet_op
    refine ⟨_, fun s => q_call s (fun W hW => (rshort_any z hzb 7 14 rfl (by omega) W).mono fun e w' h => ⟨h.1, hW.1.below h.2, hR W w' hW.2 h.2⟩), ?_⟩
    go_big_quiet_on
    first | go_big_quiet_skip | (go_big_quiet_want; go_big_quiet_op; go_big_quiet_on)
    exact wpQuiet_nil rfl
  case hcont =>
  intro w4 p st4 hp hbp
  simp only [List.drop_succ_cons, List.drop_zero, Act.put, List.setIfInBounds_toArray, List.set_cons_succ, List.set_cons_zero]
  have hV4 : At w4 p 23 (gcells 0 0 0 0) := hp
  have ho := g32_bd hzb 16
  have hOG := rlong_any z hzb 16 16 rfl (by omega)
  have HLONG := Lib.hid hOG
  clear hp st5 hOG
  go_wp2_with (first | (refine wp_storeAt rfl 23 _ _ rfl _ (gcells (hd z 4) (hd z 5) (hd z 6) (hd z 7)) _ rfl rfl hV4 info_geo rfl (all_g _ _ _ _) ?_))
  intro w6 hV6 ho6
  have hplt := hV4.lt
  generalize hd z 4 = G at *
  generalize hd z 5 = S at *
  generalize hd z 6 = I at *
  generalize hd z 7 = J at *
  generalize hOO : g32 z 16 = O at *
  have sv6 : RrV w z p G S I J w6 := ⟨⟨st4.b.only ho6 (by omega), st4.r.only ho6 (by omega), st4.bel.trans (ho6.below (by omega))⟩, hV6⟩
  clear st4 hV4 ho6 hV6
  have hv6 := sv6.v
  go_wp2_with (first | (refine wp_loadAtG rfl 23 (.tmp 4) rfl _ _ _ rfl hv6 Tryd.underlying23 rfl (by kernel_rfl) ?_))
  refine (rMay5_any G S I J w6).mono ?_
  rintro e w7 ⟨rfl, hb7⟩
  have sv7 := sv6.below hb7
  clear sv6 hv6 hb7
  cases hm : mayG G S I J with
  | false =>
    have HE : Hid (readE z = 50) := by show _ = _; rw [HDEF.out, hm]; rfl
    have hr := sv7.r
    clear hm
    go_wp2_with (first | (refine wp_storeAt rfl 26 (.tmp 2) (.tmp 43) rfl (w.heap.size + 1) (scells 0 0 0 0 0) (scells 0 0 0 0 0) rfl rfl hr info_super rfl (all_s _ _ _ _ _) ?_))
    intro w9 hR9 ho9
    go_wp2_with fail
    exact bodyPost_ret (results_sup2 rfl _ _ (w.heap.size + 1) _ _ _ _ _ rfl hR9) rfl ⟨by rw [readV_no (by rw [HE.out]; decide), HE.out]; rfl, sv7.bel.trans (ho9.below (by omega))⟩
  | true =>
  have HM := Lib.hid hm
  obtain ⟨p1, p2, p3, p4, p5, p6, p7, p8, p9, p10, p11⟩ := (mayG_iff G S I J).1 hm
  have hgi := GI_bd p1 p2 p5 p6
  have hw : IntKind.i64.wrap (G * I) = G * I := IntWalk.i64_in _ (by omega)
  have hwo : IntKind.i64.wrap O = O := IntWalk.i64_in _ (by omega)
  have hnI : Hid (nIn G S I J = G * I) := by show _ = _; unfold nIn; rw [hm]; rfl
  have hf0 : ∀ x : InW (RrV w z p G S I J), x.W.cell? ⟨p, 0, none⟩ = some (.int .i64 G) := fun x => x.h.v.cell (i := 0) rfl
  have hf2 : ∀ x : InW (RrV w z p G S I J), x.W.cell? ⟨p, 2, none⟩ = some (.int .i64 I) := fun x => x.h.v.cell (i := 2) rfl
  clear hm p7 p10 p11
  by_cases hle : O ≤ G * I
  rotate_left
  · have HE : Hid (readE z = 60) := by show _ = _; rw [HDEF.out, HM.out, hnI.out, if_pos rfl, if_neg hle]
    have hq : decide (G * I < O) = true := by rw [decide_eq_true_eq]; omega
    clear hle
    go_wp2_with fail
    refine wp_region_S (RrV w z p G S I J) (by kernel_rfl) (by kernel_rfl) ⟨⟨sv7.b, sv7.r, sv7.bel.drew⟩, sv7.v⟩ ?_
    clear sv7
    intro hne
    refine q_load rfl 29 _ rfl _ _ rfl (Ks .u8 256 z) _ (fun W h => h.b.range) Tryd.underlying29 rfl (by rw [Ks_length]; exact info_block) ?_
    refine wpQuiet_frame (by simp only [Act.put, List.setIfInBounds_toArray, List.set_cons_succ, List.set_cons_zero]; exact rfl) ?_
    go_big_quiet_want
    go_big_quiet_op
    refine ⟨_, fun s => q_call s (fun W hW => (HLONG.out W).mono fun e w' h => ⟨h.1, hW.below h.2⟩), ?_⟩
    go_big_quiet_on
    repeat first | go_big_quiet_skip | (go_big_quiet_want; go_big_quiet_op; go_big_quiet_on)
    refine wpQuiet_nil ?_
    intro w8 h8
    have sv8 := h8.out
    clear h8 hne hf0 hf2
    have hr := sv8.r
    go_wp2_with (first | (refine wp_storeAt rfl 26 (.tmp 2) (.tmp 53) rfl (w.heap.size + 1) (scells 0 0 0 0 0) (scells 0 0 0 0 0) rfl rfl hr info_super rfl (all_s _ _ _ _ _) ?_))
    intro w9 hR9 ho9
    go_wp2_with fail
    exact bodyPost_ret (results_sup2 rfl _ _ (w.heap.size + 1) _ _ _ _ _ rfl hR9) rfl ⟨by rw [readV_no (by rw [HE.out]; decide), HE.out]; rfl, sv8.bel.trans (ho9.below (by omega))⟩
  have HE : Hid (readE z = 0) := by show _ = _; rw [HDEF.out, HM.out, hnI.out, if_pos rfl, if_pos hle]
  have hq : decide (G * I < O) = false := by rw [decide_eq_false_iff_not]; omega
  clear hle
  go_wp2_with fail
  refine wp_region_S (RrV w z p G S I J) (by kernel_rfl) (by kernel_rfl) ⟨⟨sv7.b, sv7.r, sv7.bel.drew⟩, sv7.v⟩ ?_
  clear sv7
  intro hne
  refine q_load rfl 29 _ rfl _ _ rfl (Ks .u8 256 z) _ (fun W h => h.b.range) Tryd.underlying29 rfl (by rw [Ks_length]; exact info_block) ?_
  refine wpQuiet_frame (by simp only [Act.put, List.setIfInBounds_toArray, List.set_cons_succ, List.set_cons_zero]; exact rfl) ?_
  go_big_quiet_want
  go_big_quiet_op
  refine ⟨_, fun s => q_call s (fun W hW => (HLONG.out W).mono fun e w' h => ⟨h.1, hW.below h.2⟩), ?_⟩
  go_big_quiet_on
  repeat first | go_big_quiet_skip | (go_big_quiet_want; go_big_quiet_op; go_big_quiet_on)
  refine wpQuiet_nil ?_
  intro w8 h8
  have sv8 := h8.out
  clear h8 hne hf0 hf2
  have hbs := fun W => build_super G S I J O W
  go_wp2_with fail
  refine wp_region_bar (RrV w z p G S I J) 4 (by kernel_rfl) (by kernel_rfl) (by kernel_rfl) (by kernel_rfl) (by kernel_rfl) (by decide) ⟨⟨sv8.b, sv8.r, sv8.bel.drew⟩, sv8.v⟩ ?_
  simp only [List.take_succ_cons, List.take_zero, List.drop_succ_cons, List.drop_zero]
  clear sv8
  intro hne
  refine q_load rfl 23 _ rfl _ _ rfl (gcells G S I J).toList _ (fun W h => h.v.range) Tryd.underlying23 rfl (by kernel_rfl) ?_
  refine wpQuiet_frame (by simp only [Act.put, List.setIfInBounds_toArray, List.set_cons_succ, List.set_cons_zero]; exact rfl) ?_
  refine q_load rfl 29 _ rfl _ _ rfl (Ks .u8 256 z) _ (fun W h => h.b.range) Tryd.underlying29 rfl (by rw [Ks_length]; exact info_block) ?_
  refine wpQuiet_frame (by simp only [Act.put, List.setIfInBounds_toArray, List.set_cons_succ, List.set_cons_zero]; exact rfl) ?_
  go_big_quiet_want
  go_big_quiet_op
  refine ⟨_, fun s => q_call s (fun W hW => (HLONG.out W).mono fun e w' h => ⟨h.1, hW.below h.2⟩), ?_⟩
  go_big_quiet_on
  repeat first | go_big_quiet_skip | (go_big_quiet_want; go_big_quiet_op; go_big_quiet_on)
  refine wpQuiet_nil ?_
  intro w10 h10
  have sv10 := h10.out
  clear h10 hne
  have hr := sv10.r
  go_wp2_with (first | (refine wp_storeAt rfl 26 (.tmp 2) (.tmp 57) rfl (w.heap.size + 1) (scells G S I J O) (scells 0 0 0 0 0) rfl rfl hr info_super rfl (all_s _ _ _ _ _) ?_))
  intro w9 hR9 ho9
  go_wp2_with fail
  exact bodyPost_ret (results_sup2 rfl _ _ (w.heap.size + 1) _ _ _ _ _ rfl hR9) rfl ⟨by rw [HDV.out HE.out, HE.out]; rfl, sv10.bel.trans (ho9.below (by omega))⟩
end Go.Proofs.YtbbcckopkbiojaaDoor
