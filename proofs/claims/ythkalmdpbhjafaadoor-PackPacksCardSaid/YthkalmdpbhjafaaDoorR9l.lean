/- The contract of quernref09.ReadDesc. -/
import Derived.Test.YthkalmdpbhjafaaDoorR9k
import Derived.Test.YthkalmdpbhjafaaDoorMg1
namespace Go.Proofs.YthkalmdpbhjafaaDoor
open Go.RowKit
set_option linter.unusedVariables false

structure RsSt (w : World) (z : Nat → Int) (v : Value) (k : Nat) (W : World) : Prop where
  b : Blk W w.heap.size 40 256 z
  own : W.ownsRow (w.heap.size + 1) 67 2 v k (Tc (descT z) (descE z) k)
  bel : Below w.heap.size w W
theorem RsSt.below {w W W' : World} {z : Nat → Int} {v : Value} {k : Nat} (h : RsSt w z v k W) (hb : Below W.heap.size W W') : RsSt w z v k W' := ⟨h.b.below hb h.b.lt, own_below' h.own hb, h.bel.trans (hb.mono h.bel.size)⟩
theorem own_only {W W' : World} {base k p : Nat} {v : Value} {e : TypeId} {size : Nat} {xs : List Value} (h : W.ownsRow base e size v k xs) (ho : Only p W W') (hp : v.ownBlock ≠ some p) : W'.ownsRow base e size v k xs := by
  refine ⟨h.1, ?_⟩
  rcases h.2 with h' | ⟨g', cap', cur, hv, hbb, hg, hr⟩
  · exact .inl h'
  · exact .inr ⟨g', cap', cur, hv, hbb, (ho.block g' (fun e => hp (by rw [hv, e]; rfl))).trans hg, hr⟩
theorem own_fresh {W : World} {base k : Nat} {v : Value} {e : TypeId} {size : Nat} {xs : List Value} (h : W.ownsRow base e size v k xs) {p : Nat} (hp : W.heap.size ≤ p) : v.ownBlock ≠ some p := by
  rcases h.2 with ⟨rfl, _⟩ | ⟨g', cap', cur, rfl, hbb, hg, _⟩
  · intro h; cases h
  · intro h
    have : g' = p := by simpa [Value.ownBlock] using h
    have := (Array.getElem?_eq_some_iff.1 hg).1
    omega
structure RsN (w : World) (z : Nat → Int) (v : Value) (k N : Nat) (W : World) : Prop extends RsSt w z v k W where
  sz : N ≤ W.heap.size
theorem RsN.below {w W W' : World} {z : Nat → Int} {v : Value} {k N : Nat} (h : RsN w z v k N W) (hb : Below W.heap.size W W') : RsN w z v k N W' := ⟨h.toRsSt.below hb, by have := h.sz; have := hb.size; omega⟩
structure RsV (w : World) (z : Nat → Int) (v : Value) (k V : Nat) (W : World) : Prop extends RsSt w z v k W where
  v : At W V 67 #[.int .u32 (descT z k), .bool (descE z k)]
theorem RsV.below {w W W' : World} {z : Nat → Int} {v : Value} {k V : Nat} (h : RsV w z v k V W) (hb : Below W.heap.size W W') : RsV w z v k V W' := ⟨h.toRsSt.below hb, h.v.below hb h.v.lt⟩

set_option maxRecDepth 100000 in
set_option maxHeartbeats 4000000 in
theorem rReadDesc_any (z : Nat → Int) (hz : Byt z) (w : World) : Calls Tryd.prog 60 #[bval z] w (DescRead w z) := by
  have ST0 : Hid (RkSt w z (w.alloc (.cells (Ks .u8 256 z).toArray 40))) := ⟨Blk.new _ _ _ _, (Below.refl _ _).alloc (Nat.le_refl _) _⟩
  have hkp : Hid (∀ W W', RkSt w z W → Below W.heap.size W W' → RkSt w z W') := fun W W' h hb => ⟨h.b.below hb h.b.lt, h.bel.trans (hb.mono h.bel.size)⟩
  obtain ⟨hw30, hw31⟩ := wd_wds hz 3
  have hB := ST0.out.b
  go_enter Tryd.func60, Tryd.ntmps60
  go_wp2_with (first | (refine wp_loadBlkG rfl _ rfl _ _ rfl hB ?_))
  refine (rat_any z hz 3 12 rfl (by omega) _).mono ?_
  rintro e w1 ⟨rfl, hb1⟩
  have st1 := hkp.out _ _ ST0.out hb1
  clear hB hb1 ST0
  have hB1 := st1.b
  go_wp2_with (first | (refine wp_loadBlkG rfl _ rfl _ _ rfl hB1 ?_))
  refine (rbegins_any z hz 1 _).mono ?_
  rintro e w2 ⟨rfl, hb2⟩
  rw [beginsB_iff z 1 (by omega) (by omega)]
  have st2 := hkp.out _ _ st1 hb2
  clear hB1 hb2 st1
  cases hk : (kindOf z == 1) with
  | false =>
    have HN : Hid (descRd z = false) := by show _ = _; unfold descRd; rw [hk]; rfl
    clear hk
    go_wp2_with fail
    go_ret3
    exact ddNo HN.out st2.bel
  | true =>
  have HK := Lib.hid hk
  clear hk
  by_cases h1 : 1 ≤ wd z 3
  rotate_left
  · have HN : Hid (descRd z = false) := by show _ = _; unfold descRd; simp [h1]
    go_wp2_with fail
    go_ret3
    exact ddNo HN.out st2.bel
  by_cases h2 : wd z 3 ≤ 30
  rotate_left
  · have HN : Hid (descRd z = false) := by show _ = _; unfold descRd; simp [h2]
    go_wp2_with fail
    go_ret3
    exact ddNo HN.out st2.bel
  have hn : wd z 3 = (rowsN z : Int) := by unfold rowsN; omega
  have hn1 : 1 ≤ rowsN z := by omega
  have hn2 : rowsN z ≤ 30 := by omega
  have HSQ : Hid (seqOf z = wd z 2) := by
    rcases kind_rng z with h | h
    · have := HK.out; rw [h] at this; cases this
    · exact h.2.2
  have hrd : Hid (∀ (h : descB z (rowsN z) = true) (h' : allZ (fun j => wd z (4 + 2 * rowsN z + j)) (60 - 2 * rowsN z) = true), descRd z = true) := fun h h' => by
    unfold descRd; rw [HK.out, h, h']; simp [h1, h2]
  have hrn : Hid (descB z (rowsN z) = false → descRd z = false) := fun h => by unfold descRd; rw [h]; simp
  have hzn : Hid (allZ (fun j => wd z (4 + 2 * rowsN z + j)) (60 - 2 * rowsN z) = false → descRd z = false) := fun h => by unfold descRd; rw [h]; simp
  rw [hn]
  generalize hN : rowsN z = n at *
  have HN := Lib.hid hN
  clear hN hw30 hw31 h1 h2 hn HK
  have key : Hid (∃ a c, (∀ W, (Instr.sliceAt 40 (.pointer (some ⟨w.heap.size, 0, none⟩)) (some (.int .u32 (16 + 8 * (n : Int)))) none none).run Tryd.prog W = .ok (.slice a (240 - 8 * n) c) W) ∧ ∀ W, RkSt w z W → Row W a (240 - 8 * n) (fun j => z (16 + 8 * n + j))) := by
    by_cases h60 : n = 30
    · subst h60
      exact ⟨_, _, fun W => run_sliceBlkEndU w.heap.size W, fun W _ => .inl rfl⟩
    · refine ⟨some ⟨w.heap.size, 16 + 8 * n, none⟩, 240 - 8 * n, fun W => ?_, fun W st => .inr ⟨_, _, rfl, ?_⟩⟩
      · have := run_sliceBlkFromU w.heap.size (16 + 8 * n) (16 + 8 * (n : Int)) (by omega) (by omega) W
        rw [show 256 - (16 + 8 * n) = 240 - 8 * n by omega] at this
        exact this
      · have := st.b.seg.sub (16 + 8 * n) (240 - 8 * n) (by omega); rwa [Nat.zero_add] at this
  obtain ⟨sa, sc, hsl, hrow⟩ := key.out
  have HROW := Lib.hid hrow
  clear hrow key
  go_wp2_with fail
  refine (rzero_any _ _ _ _ _ (by omega) (HROW.out _ st2)).mono ?_
  rintro e w3 ⟨rfl, rfl⟩
  clear hsl HROW
  have HZ : Hid (allZ (fun j => z (16 + 8 * n + j)) (240 - 8 * n) = allZ (fun j => wd z (4 + 2 * n + j)) (60 - 2 * n)) := by
    show _ = _
    have := allZ_wd hz (4 + 2 * n) (60 - 2 * n)
    rw [show 4 * (4 + 2 * n) = 16 + 8 * n by omega, show 4 * (60 - 2 * n) = 240 - 8 * n by omega] at this
    exact this
  rw [HZ.out]
  cases hzz : allZ (fun j => wd z (4 + 2 * n + j)) (60 - 2 * n) with
  | false =>
    have HN : Hid (descRd z = false) := hzn.out hzz
    clear hzz
    go_wp2_with fail
    go_ret3
    exact ddNo HN.out st2.bel
  | true =>
  have HZZ := Lib.hid hzz
  clear hzz hzn HZ
  obtain ⟨i0, hi, hz0, hz1, hz2⟩ := info_parts info_tag'
  have st0 : Hid (RsSt w z (.slice none 0 0) 0 w2) := ⟨st2.b, World.ownsRow_nil _ _ _ _, st2.bel⟩
  clear st2
  go_wp2_with fail
  go_loopw [6, 7] (fun v u wr => ∃ k : Nat, k ≤ n ∧ u = .int .i64 (k : Int) ∧ Hid (descB z k = true) ∧ RsSt w z v k wr) (fun _ u _ => n - (intOf u).toNat)
  case atStart => exact ⟨0, by omega, rfl, rfl, st0.out⟩
  case round =>
    clear st0
    obtain ⟨k, hk, rfl, HRS, st⟩ := hrel
    have hB := st.b
    by_cases hlt : k < n
    · obtain ⟨hm0, hm1⟩ := wd_wds hz (4 + 2 * k)
      obtain ⟨hq0, hq1⟩ := wd_wds hz (5 + 2 * k)
      have hsz := st.b.lt
      have e1 : IntKind.i64.wrap (8 * (k : Int)) = 8 * (k : Int) := IntWalk.i64_in _ (by omega)
      have e2 : IntKind.i64.wrap (16 + 8 * (k : Int)) = 16 + 8 * (k : Int) := IntWalk.i64_in _ (by omega)
      have e3 : IntKind.i64.wrap (20 + 8 * (k : Int)) = 20 + 8 * (k : Int) := IntWalk.i64_in _ (by omega)
      go_wp2_with fail
      apply wp_region_new (RsN w z u6 k wr.heap.size) 12 8 67 #[.int .u32 0, .bool false] wr.heap.size (A := _) (by kernel_rfl) (by kernel_rfl) (by kernel_rfl) (by kernel_rfl) (by kernel_rfl) (by kernel_rfl) (by kernel_rfl) _ rfl rfl rfl (fun a W => by kernel_rfl) (fun W W' h hb => h.below hb) (fun W h => h.sz) ⟨⟨st.b, st.own, st.bel.drew⟩, Nat.le_refl _⟩
      case h =>
        intro R hR hne
        simp only [List.take_succ_cons, List.take_zero]
        refine q_load rfl 40 _ rfl _ _ rfl (Ks .u8 256 z) _ (fun W h => h.1.b.range) Tryd.underlying40 rfl (by rw [Ks_length]; exact info_block) ?_
        refine wpQuiet_frame (by simp only [Act.put, List.setIfInBounds_toArray, List.set_cons_succ, List.set_cons_zero]; exact rfl) ?_
        first | go_big_quiet_skip | (go_big_quiet_want; go_big_quiet_op; go_big_quiet_on)
        first | go_big_quiet_skip | (go_big_quiet_want; go_big_quiet_op; go_big_quiet_on)
        first | go_big_quiet_skip | (go_big_quiet_want; go_big_quiet_op; go_big_quiet_on)
        go_big_quiet_want
        go_big_quiet_op
        refine ⟨_, fun s => q_call s (fun W hW => (rat_any z hz (4 + 2 * k) _ (by omega) (by omega) W).mono fun e w' h => ⟨h.1, hW.1.below h.2, hR W w' hW.2 h.2⟩), ?_⟩
        go_big_quiet_on
        refine q_load rfl 40 _ rfl _ _ rfl (Ks .u8 256 z) _ (fun W h => h.1.b.range) Tryd.underlying40 rfl (by rw [Ks_length]; exact info_block) ?_
        refine wpQuiet_frame (by simp only [Act.put, List.setIfInBounds_toArray, List.set_cons_succ, List.set_cons_zero]; exact rfl) ?_
        first | go_big_quiet_skip | (go_big_quiet_want; go_big_quiet_op; go_big_quiet_on)
        first | go_big_quiet_skip | (go_big_quiet_want; go_big_quiet_op; go_big_quiet_on)
        first | go_big_quiet_skip | (go_big_quiet_want; go_big_quiet_op; go_big_quiet_on)
        go_big_quiet_want
        go_big_quiet_op
        refine ⟨_, fun s => q_call s (fun W hW => (rat_any z hz (5 + 2 * k) _ (by omega) (by omega) W).mono fun e w' h => ⟨h.1, hW.1.below h.2, hR W w' hW.2 h.2⟩), ?_⟩
        go_big_quiet_on
        first | go_big_quiet_skip | (go_big_quiet_want; go_big_quiet_op; go_big_quiet_on)
        first | go_big_quiet_skip | (go_big_quiet_want; go_big_quiet_op; go_big_quiet_on)
        exact wpQuiet_nil rfl
      case hcont =>
      intro w4 p st4 hp hbp
      simp only [List.drop_succ_cons, List.drop_zero, Act.put, List.setIfInBounds_toArray, List.set_cons_succ, List.set_cons_zero]
      have hV4 : At w4 p 67 #[.int .u32 0, .bool false] := hp
      have hfr := own_fresh st.own hbp
      clear hp st hB
      go_wp2_with (first | (refine wp_storeAt rfl 67 _ _ rfl _ _ _ rfl rfl hV4 (info_tag _ _) rfl (one_tag _ _) ?_))
      intro w5 hV5 ho5
      have hplt := hV4.lt
      have sv5 : RsV w z u6 k p w5 := ⟨⟨st4.b.only ho5 (by omega), own_only st4.own ho5 hfr, st4.bel.trans (ho5.below (by omega))⟩, hV5⟩
      have hB5 := sv5.b
      clear st4 hV4 ho5
      have hc0 : ∀ x : InW (RsV w z u6 k p), x.W.cell? ⟨p, 0, none⟩ = some (.int .u32 (descT z k)) := fun x => x.h.v.cell (i := 0) rfl
      go_wp2_with fail
      by_cases hok : wd z (5 + 2 * k) ≤ 1
      rotate_left
      · have HO : Hid (descRd z = false) := hrn.out (descB_no hlt (by rw [descB_succ, decide_eq_false hok]; simp))
        have d0 : decide (1 < wd z (5 + 2 * k)) = true := by simp; omega
        refine wp_region_S (RsV w z u6 k p) (by kernel_rfl) (by kernel_rfl) ⟨⟨sv5.b, sv5.own, sv5.bel.drew⟩, sv5.v⟩ ?_
        clear sv5 hB5
        intro hne
        refine q_load rfl 40 _ rfl _ _ rfl (Ks .u8 256 z) _ (fun W h => h.b.range) Tryd.underlying40 rfl (by rw [Ks_length]; exact info_block) ?_
        refine wpQuiet_frame (by simp only [Act.put, List.setIfInBounds_toArray, List.set_cons_succ, List.set_cons_zero]; exact rfl) ?_
        first | go_big_quiet_skip | (go_big_quiet_want; go_big_quiet_op; go_big_quiet_on)
        first | go_big_quiet_skip | (go_big_quiet_want; go_big_quiet_op; go_big_quiet_on)
        first | go_big_quiet_skip | (go_big_quiet_want; go_big_quiet_op; go_big_quiet_on)
        go_big_quiet_want
        go_big_quiet_op
        refine ⟨_, fun s => q_call s (fun W hW => (rat_any z hz (5 + 2 * k) _ (by omega) (by omega) W).mono fun e w' h => ⟨h.1, hW.below h.2⟩), ?_⟩
        go_big_quiet_on
        repeat (first | go_big_quiet_skip | (go_big_quiet_want; go_big_quiet_op; go_big_quiet_on))
        refine wpQuiet_nil ?_
        intro w6 h6
        have hb6 := h6.out.bel
        clear h6 hne
        go_wp2_with fail
        go_ret3
        exact ddNo HO.out hb6
      have HOK := Lib.hid hok
      have d0 : decide (1 < wd z (5 + 2 * k)) = false := by simp; omega
      clear hok
      by_cases hk0 : k = 0
      · have HRS1 : Hid (descB z (k + 1) = true) := by show _ = _; rw [descB_succ, HRS.out, decide_eq_true HOK.out, hk0]; rfl
        have e5 : ¬ 0 < k := by omega
        have e6 : ¬ (0 : Int) < (k : Int) := by omega
        clear hk0
        refine wp_region_S (RsV w z u6 k p) (by kernel_rfl) (by kernel_rfl) ⟨⟨sv5.b, sv5.own, sv5.bel.drew⟩, sv5.v⟩ ?_
        clear sv5 hB5
        intro hne
        refine q_load rfl 40 _ rfl _ _ rfl (Ks .u8 256 z) _ (fun W h => h.b.range) Tryd.underlying40 rfl (by rw [Ks_length]; exact info_block) ?_
        refine wpQuiet_frame (by simp only [Act.put, List.setIfInBounds_toArray, List.set_cons_succ, List.set_cons_zero]; exact rfl) ?_
        first | go_big_quiet_skip | (go_big_quiet_want; go_big_quiet_op; go_big_quiet_on)
        first | go_big_quiet_skip | (go_big_quiet_want; go_big_quiet_op; go_big_quiet_on)
        first | go_big_quiet_skip | (go_big_quiet_want; go_big_quiet_op; go_big_quiet_on)
        go_big_quiet_want
        go_big_quiet_op
        refine ⟨_, fun s => q_call s (fun W hW => (rat_any z hz (5 + 2 * k) _ (by omega) (by omega) W).mono fun e w' h => ⟨h.1, hW.below h.2⟩), ?_⟩
        go_big_quiet_on
        repeat (first | go_big_quiet_skip | (go_big_quiet_want; go_big_quiet_op; go_big_quiet_on))
        refine wpQuiet_nil ?_
        intro w6 h6
        have sv6 := h6.out
        clear h6 hne hc0 d0 e1 e2 e3
        have hbs := run_tag1
        have c0 := sv6.v.cell (i := 0) rfl
        have c1 := sv6.v.cell (i := 1) rfl
        have hown' := World.ownsRow.alloc sv6.own (.cells #[.int .u32 (descT z k), .bool (descE z k)] 67)
        go_wp2_with (first | (refine wpList_append_own _ rfl _ _ 63 rfl (w.heap.size + 1) 67 i0 (.agg #[.int .u32 0, .bool false]) 2 8 Tryd.underlying63 hi hz0 hz1 hz2 rfl (by decide) _ k _ rfl hown' ⟨w6.heap.size, 0, none⟩ 1 1 [.int .u32 (descT z k), .bool (descE z k)] rfl rfl (tagNews w6 (descT z k) (descE z k)) (tagOne (descT z k) (descE z k)) (by unfold maxLen; omega) (by omega) (by have := sv6.b.lt; simp; omega) ?rest1))
        intro v' w7 hown7 hg7 _
        have hblt := sv6.b.lt
        have st7 : RsSt w z v' (k + 1) w7 := ⟨(hg7.block _ (sv6.b.alloc _).lt (by rcases own_blk hown' with h | ⟨x, h, hx⟩ <;> simp [h]; omega)).trans (sv6.b.alloc _), hown7, (sv6.bel.alloc sv6.bel.size _).grown hg7 (sv6.bel.alloc sv6.bel.size _).size (fun j e => by rcases own_blk hown' with h | ⟨x, h, hx⟩ <;> rw [h] at e <;> simp at e; omega)⟩
        clear sv6 hown' hown7 hg7 hbs c0 c1
        go_wp2_with fail
        go_roundw
        case rel => first | exact ⟨k + 1, by omega, by go_num, HRS1, st7⟩ | ((repeat apply Exists.intro); exact ⟨⟨k + 1, by omega, by go_num, HRS1, st7⟩, rfl⟩)
        case measure => simp [intOf]; omega
      · have e4 : IntKind.i64.wrap ((k : Int) - 1) = (k : Int) - 1 := IntWalk.i64_in _ (by omega)
        have e7 : (0 : Int) ≤ (k : Int) - 1 := by omega
        have e8 : ((k : Int) - 1).toNat = k - 1 := by omega
        have e9 : (k : Int) - 1 < (k : Int) := by omega
        have e5 : 0 < k := by omega
        have e6 : (0 : Int) < (k : Int) := by omega
        obtain ⟨g, cap, rfl⟩ := own_form' sv5.own e5
        have hc1 : ∀ x : InW (RsV w z (.slice (some ⟨g, 0, none⟩) k cap) k p), x.W.cell? ⟨g, (k - 1) * 2, none⟩ = some (.int .u32 (descT z (k - 1))) := fun x => by
          obtain ⟨a, cp, he, ht, _⟩ := own_tags x.h.own
          injection he with h1 h2 h3
          rcases ht with h0 | ⟨b, off, hb, ht⟩
          · omega
          · rw [← h1] at hb; cases hb; have := (ht (k - 1) (by omega)).1; rwa [Nat.zero_add] at this
        by_cases hri : descT z (k - 1) < descT z k
        · have HRS1 : Hid (descB z (k + 1) = true) := by show _ = _; rw [descB_succ, HRS.out, decide_eq_true HOK.out, decide_eq_true hri]; simp
          have d1 : decide (descT z k ≤ descT z (k - 1)) = false := by simp; omega
          refine wp_region_S (RsV w z (.slice (some ⟨g, 0, none⟩) k cap) k p) (by kernel_rfl) (by kernel_rfl) ⟨⟨sv5.b, sv5.own, sv5.bel.drew⟩, sv5.v⟩ ?_
          clear sv5 hB5
          intro hne
          refine q_load rfl 40 _ rfl _ _ rfl (Ks .u8 256 z) _ (fun W h => h.b.range) Tryd.underlying40 rfl (by rw [Ks_length]; exact info_block) ?_
          refine wpQuiet_frame (by simp only [Act.put, List.setIfInBounds_toArray, List.set_cons_succ, List.set_cons_zero]; exact rfl) ?_
          first | go_big_quiet_skip | (go_big_quiet_want; go_big_quiet_op; go_big_quiet_on)
          first | go_big_quiet_skip | (go_big_quiet_want; go_big_quiet_op; go_big_quiet_on)
          first | go_big_quiet_skip | (go_big_quiet_want; go_big_quiet_op; go_big_quiet_on)
          go_big_quiet_want
          go_big_quiet_op
          refine ⟨_, fun s => q_call s (fun W hW => (rat_any z hz (5 + 2 * k) _ (by omega) (by omega) W).mono fun e w' h => ⟨h.1, hW.below h.2⟩), ?_⟩
          go_big_quiet_on
          repeat (first | go_big_quiet_skip | (go_big_quiet_want; go_big_quiet_op; go_big_quiet_on))
          refine wpQuiet_nil ?_
          intro w6 h6
          have sv6 := h6.out
          clear h6 hne hc0 hc1 d0 d1 e1 e2 e3 e4 e7 e8 e9
          have hbs := run_tag1
          have c0 := sv6.v.cell (i := 0) rfl
          have c1 := sv6.v.cell (i := 1) rfl
          have hown' := World.ownsRow.alloc sv6.own (.cells #[.int .u32 (descT z k), .bool (descE z k)] 67)
          go_wp2_with (first | (refine wpList_append_own _ rfl _ _ 63 rfl (w.heap.size + 1) 67 i0 (.agg #[.int .u32 0, .bool false]) 2 8 Tryd.underlying63 hi hz0 hz1 hz2 rfl (by decide) _ k _ rfl hown' ⟨w6.heap.size, 0, none⟩ 1 1 [.int .u32 (descT z k), .bool (descE z k)] rfl rfl (tagNews w6 (descT z k) (descE z k)) (tagOne (descT z k) (descE z k)) (by unfold maxLen; omega) (by omega) (by have := sv6.b.lt; simp; omega) ?rest2))
          intro v' w7 hown7 hg7 _
          have hblt := sv6.b.lt
          have st7 : RsSt w z v' (k + 1) w7 := ⟨(hg7.block _ (sv6.b.alloc _).lt (by rcases own_blk hown' with h | ⟨x, h, hx⟩ <;> simp [h]; omega)).trans (sv6.b.alloc _), hown7, (sv6.bel.alloc sv6.bel.size _).grown hg7 (sv6.bel.alloc sv6.bel.size _).size (fun j e => by rcases own_blk hown' with h | ⟨x, h, hx⟩ <;> rw [h] at e <;> simp at e; omega)⟩
          clear sv6 hown' hown7 hg7 hbs c0 c1
          go_wp2_with fail
          go_roundw
          case rel => first | exact ⟨k + 1, by omega, by go_num, HRS1, st7⟩ | ((repeat apply Exists.intro); exact ⟨⟨k + 1, by omega, by go_num, HRS1, st7⟩, rfl⟩)
          case measure => simp [intOf]; omega
        · have HO : Hid (descRd z = false) := hrn.out (descB_no hlt (by rw [descB_succ, decide_eq_false hri]; simp [hk0]))
          have d1 : decide (descT z k ≤ descT z (k - 1)) = true := by simp; omega
          refine wp_region_S (RsV w z (.slice (some ⟨g, 0, none⟩) k cap) k p) (by kernel_rfl) (by kernel_rfl) ⟨⟨sv5.b, sv5.own, sv5.bel.drew⟩, sv5.v⟩ ?_
          clear sv5 hB5
          intro hne
          refine q_load rfl 40 _ rfl _ _ rfl (Ks .u8 256 z) _ (fun W h => h.b.range) Tryd.underlying40 rfl (by rw [Ks_length]; exact info_block) ?_
          refine wpQuiet_frame (by simp only [Act.put, List.setIfInBounds_toArray, List.set_cons_succ, List.set_cons_zero]; exact rfl) ?_
          first | go_big_quiet_skip | (go_big_quiet_want; go_big_quiet_op; go_big_quiet_on)
          first | go_big_quiet_skip | (go_big_quiet_want; go_big_quiet_op; go_big_quiet_on)
          first | go_big_quiet_skip | (go_big_quiet_want; go_big_quiet_op; go_big_quiet_on)
          go_big_quiet_want
          go_big_quiet_op
          refine ⟨_, fun s => q_call s (fun W hW => (rat_any z hz (5 + 2 * k) _ (by omega) (by omega) W).mono fun e w' h => ⟨h.1, hW.below h.2⟩), ?_⟩
          go_big_quiet_on
          repeat (first | go_big_quiet_skip | (go_big_quiet_want; go_big_quiet_op; go_big_quiet_on))
          refine wpQuiet_nil ?_
          intro w6 h6
          have hb6 := h6.out.bel
          clear h6 hne
          go_wp2_with fail
          go_ret3
          exact ddNo HO.out hb6
    · obtain rfl : k = n := by omega
      obtain ⟨g, cap, rfl⟩ := own_form' st.own (by omega)
      have hY : Hid (descRd z = true) := hrd.out HRS.out HZZ.out
      go_wp2_with (first | (refine wp_loadBlkG rfl _ rfl _ _ rfl hB ?_))
      refine (rat_any z hz 2 8 rfl (by omega) _).mono ?_
      rintro e w4 ⟨rfl, hb4⟩
      have st4 := st.below hb4
      clear st hb4 hB
      have hfin : Hid (DescRead w z (.returned (.tuple #[.int .u32 (wd z 2), .slice (some ⟨g, 0, none⟩) k cap, .int .i64 0])) w4) := ⟨st4.bel, .inr ⟨hY.out, g, cap, by rw [HN.out], by rw [HN.out]; exact own_mono st4.own (by omega)⟩⟩
      go_wp2_with fail
      go_ret3
      exact hfin.out
end Go.Proofs.YthkalmdpbhjafaaDoor
