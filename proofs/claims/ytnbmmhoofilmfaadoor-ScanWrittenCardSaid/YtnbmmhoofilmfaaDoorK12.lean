/- Texts of this claim, merged by a program (a claim may have 60 files): Jb9. -/
import Derived.Test.YtnbmmhoofilmfaaDoorK11
/- The contract of jblock.readRows over tags, and of ReadDesc: the walk. -/
namespace Go.Proofs.YtnbmmhoofilmfaaDoor
open Go.RowKit
set_option linter.unusedVariables false

structure RtSt (w : World) (z : Nat → Int) (g cap k : Nat) (W : World) : Prop where
  b : Blk W w.heap.size 32 256 z
  own : W.ownsRow (w.heap.size + 1) 169 2 (.slice (some ⟨g, 0, none⟩) k cap) k (Tc (descT z) (jdE z) k)
  bel : Below w.heap.size w W
theorem own_lt {W : World} {base g cap k : Nat} {e : TypeId} {size : Nat} {xs : List Value} (h : W.ownsRow base e size (.slice (some ⟨g, 0, none⟩) k cap) k xs) : g < W.heap.size := by
  rcases h.2 with ⟨hv, _⟩ | ⟨g', cap', cur, hv, hb, hg, _⟩
  · cases hv
  · injection hv with h1; injection h1 with h1; injection h1 with h1; subst h1; exact (Array.getElem?_eq_some_iff.1 hg).1
theorem own_below {W W' : World} {base g cap k : Nat} {e : TypeId} {size : Nat} {xs : List Value} (h : W.ownsRow base e size (.slice (some ⟨g, 0, none⟩) k cap) k xs) (hb : Below W.heap.size W W') : W'.ownsRow base e size (.slice (some ⟨g, 0, none⟩) k cap) k xs := by
  refine ⟨h.1, ?_⟩
  rcases h.2 with h' | ⟨g', cap', cur, hv, hbb, hg, hr⟩
  · exact .inl h'
  · exact .inr ⟨g', cap', cur, hv, hbb, (hb.block _ (Array.getElem?_eq_some_iff.1 hg).1).trans hg, hr⟩
theorem RtSt.below {w W W' : World} {z : Nat → Int} {g cap k : Nat} (h : RtSt w z g cap k W) (hb : Below W.heap.size W W') : RtSt w z g cap k W' :=
  ⟨h.b.below hb h.b.lt, own_below h.own hb, h.bel.trans (hb.mono h.bel.size)⟩
structure RtV (w : World) (z : Nat → Int) (g cap k V : Nat) (W : World) : Prop extends RtSt w z g cap k W where
  v : At W V 169 #[.int .u32 (descT z k), .bool (jdE z k)]
theorem RtV.below {w W W' : World} {z : Nat → Int} {g cap k V : Nat} (h : RtV w z g cap k V W) (hb : Below W.heap.size W W') : RtV w z g cap k V W' := ⟨h.toRtSt.below hb, h.v.below hb h.v.lt⟩
theorem RtSt.seg {w W : World} {z : Nat → Int} {g cap k : Nat} (h : RtSt w z g cap k W) : TagSeg W g 0 k (descT z) (jdE z) := by
  obtain ⟨a, cp, he, ht, _⟩ := own_tags h.own
  injection he with h1 h2 h3
  rcases ht with h0 | ⟨b, off, hb, ht⟩
  · intro i hi; omega
  · rw [← h1] at hb; cases hb; exact ht

theorem tagNews (w : World) (x : Int) (b : Bool) : ∀ (j : Nat) (u : Value), ([.int .u32 x, .bool b] : List Value)[j]? = some u → (w.alloc (.cells #[.int .u32 x, .bool b] 169)).cell? ((⟨w.heap.size, 0, none⟩ : Addr).add j) = some u := by
  intro j u hj
  rw [addr_add]
  rcases j with _ | _ | j
  · cases hj; exact cell_of_heap (heap_alloc_new w _) rfl
  · cases hj; exact cell_of_heap (heap_alloc_new w _) rfl
  · cases hj
theorem tagOne (x : Int) (b : Bool) : ∀ u ∈ ([.int .u32 x, .bool b] : List Value), u.oneCell' = true := by
  intro u hu
  simp only [List.mem_cons, List.not_mem_nil, or_false] at hu
  rcases hu with rfl | rfl <;> rfl

set_option maxRecDepth 100000 in
set_option maxHeartbeats 8000000 in
theorem readRowsT_any (z : Nat → Int) (hz : Byt z) (w : World) :
    Calls Tryd.prog 170 #[bval z, .int .u8 1, .int .i64 30, .int .i64 8, .func (.func 130) #[] #[], .func (.func 171) #[] #[]] w (DescRead w z) := by
  have hB := Blk.new w 32 256 z
  have hL : Below w.heap.size w (w.alloc (.cells (Ks .u8 256 z).toArray 32)) := (Below.refl _ _).alloc (Nat.le_refl _) _
  obtain ⟨hw30, hw31⟩ := wd_wds hz 3
  go_enter Tryd.func170, Tryd.ntmps170
  go_wp2_with (first | (refine wp_loadBlk rfl (.tmp 6) rfl w.heap.size z rfl hB ?_))
  refine (kind_any z hz _).mono ?_
  rintro e w1 ⟨rfl, hb1⟩
  have hB1 := hB.below hb1 hB.lt
  have hL1 : Below w.heap.size w w1 := hL.trans (hb1.mono hL.size)
  clear hB hL hb1
  go_wp2_with fail
  refine (numW w.heap.size z hz 3 12 rfl (by omega) _ hB1).mono ?_
  rintro e w2 ⟨rfl, rfl⟩
  by_cases hk : kindOf z = 1
  rotate_left
  · have q : (kindOf z != 1) = true := by simpa using hk
    have HN : Hid (descRd z = false) := by show _ = _; unfold descRd; simp [hk]
    clear hk
    generalize kindOf z = k at q ⊢
    go_wp2_with fail
    go_ret3
    exact ddNo HN.out hL1
  have HK := Lib.hid hk
  rw [hk]
  clear hk
  by_cases h1 : 1 ≤ wd z 3
  rotate_left
  · have HN : Hid (descRd z = false) := by show _ = _; unfold descRd; simp [h1]
    go_wp2_with fail
    go_ret3
    exact ddNo HN.out hL1
  by_cases h2 : wd z 3 ≤ 30
  rotate_left
  · have HN : Hid (descRd z = false) := by show _ = _; unfold descRd; simp [h2]
    go_wp2_with fail
    go_ret3
    exact ddNo HN.out hL1
  have hn : wd z 3 = (rowsN z : Int) := by unfold rowsN; omega
  have hn1 : 1 ≤ rowsN z := by omega
  have hn2 : rowsN z ≤ 30 := by omega
  have HSQ : Hid (seqOf z = wd z 2) := by
    show _ = _
    have := HK.out
    unfold kindOf at this
    unfold seqOf
    split at this
    · rename_i hkb; rw [if_pos hkb]
    · cases this
  have hrd : Hid (∀ (h : descB z (rowsN z) = true) (h' : allZ (fun j => wd z (4 + 2 * rowsN z + j)) (60 - 2 * rowsN z) = true), descRd z = true) := fun h h' => by
    unfold descRd; rw [HK.out, h, h']; simp [h1, h2]
  have hrn : Hid (descB z (rowsN z) = false → descRd z = false) := fun h => by unfold descRd; rw [h]; simp
  have hzn : Hid (allZ (fun j => wd z (4 + 2 * rowsN z + j)) (60 - 2 * rowsN z) = false → descRd z = false) := fun h => by unfold descRd; rw [h]; simp
  rw [hn]
  generalize hN : rowsN z = n at *
  have HN := Lib.hid hN
  clear hN hw30 hw31 h1 h2 hn HK
  obtain ⟨i0, hi, hz0, hz1, hz2⟩ := info_parts info_tag'
  have hw1lt := hB1.lt
  go_wp2_with (first | (refine wpList_make_own _ rfl (.const (.int .i64 0)) (.tmp 43) 165 rfl (w.heap.size + 1) 169 i0 (.agg #[.int .u32 0, .bool false]) 2 Tryd.underlying165 hi hz0 hz1 .i64 .i64 (n : Int) n rfl rfl rfl (by rw [hz2]; omega) (by unfold maxLen; omega) (by omega) ?_))
  intro w2 hown hg2
  have st2 : RtSt w z w1.heap.size n 0 w2 := ⟨(hg2.block _ hB1.lt (by simp)).trans hB1, hown, hL1.grown hg2 hL1.size (fun k e => by cases e)⟩
  clear hown hg2 hB1 hL1
  go_wp2_with fail
  go_loopw [18, 47] (fun v u wr => ∃ k g cap : Nat, k ≤ n ∧ u = .int .i64 (k : Int) ∧ v = .slice (some ⟨g, 0, none⟩) k cap ∧ Hid (descB z k = true) ∧ RtSt w z g cap k wr) (fun _ u _ => n - (intOf u).toNat)
  case atStart => exact ⟨0, _, _, by omega, rfl, rfl, rfl, st2⟩
  case round =>
    clear st2
    obtain ⟨k, g, cap, hk, rfl, rfl, HRS, st⟩ := hrel
    by_cases hlt2 : k < n
    · have hsl := fun W => run_sliceBlk w.heap.size 0 (16 + 8 * k) (24 + 8 * k) (16 + (k : Int) * 8) (16 + (k : Int) * 8 + 8) (by omega) (by omega) (by omega) (by omega) (by omega) W
      simp only [Nat.zero_add, show 24 + 8 * k - (16 + 8 * k) = 8 by omega] at hsl
      go_wp2_with fail
      refine (tagGet_any w.heap.size z hz k (16 + 8 * k) _ (by omega) (by omega) _ st.b).mono ?_
      rintro e w4 ⟨rfl, hb4⟩
      have st4 := st.below hb4
      clear hsl st hb4
      have hal := zero_tag
      have hV : Hid (RtV w z g cap k w4.heap.size (w4.alloc (.cells #[.int .u32 (descT z k), .bool (jdE z k)] 169))) := ⟨st4.below ((Below.refl _ _).alloc (Nat.le_refl _) _), At.new _ _ _⟩
      obtain ⟨hm0, hm1⟩ := wd_wds hz (4 + 2 * k)
      by_cases hok : wd z (5 + 2 * k) ≤ 1
      rotate_left
      · have HO : Hid (descRd z = false) := hrn.out (descB_no hlt2 (by rw [descB_succ, decide_eq_false hok]; simp))
        rw [decide_eq_false hok]
        clear hok
        go_wp2_with fail
        have sv := hV.out
        refine wp_region_S (RtV w z g cap k w4.heap.size) (by kernel_rfl) (by kernel_rfl) ⟨⟨sv.b, sv.own, sv.bel.drew⟩, sv.v⟩ ?_
        intro hne
        repeat (first | go_big_quiet_skip | (go_big_quiet_want; go_big_quiet_op; go_big_quiet_on))
        refine wpQuiet_nil ?_
        intro w5 h5
        have hb5 := h5.out.bel
        clear h5 hne sv hV st4
        go_wp2_with fail
        go_ret3
        exact ddNo HO.out hb5
      have HOK := Lib.hid hok
      rw [decide_eq_true hok]
      clear hok
      go_wp2_with fail
      have sv := hV.out
      clear hV st4 hal
      generalize w4.alloc (.cells #[.int .u32 (descT z k), .bool (jdE z k)] 169) = w5 at sv ⊢
      generalize w4.heap.size = V at sv ⊢
      have hkeep : Hid (∀ W W', RtV w z g cap k V W → Below W.heap.size W W' → RtV w z g cap k V W') := fun W W' h hb => h.below hb
      by_cases hk0 : k = 0
      · have HRS1 : Hid (descB z (k + 1) = true) := by show _ = _; rw [descB_succ, HRS.out, decide_eq_true HOK.out, hk0]; rfl
        have e5 : ¬ 0 < k := by omega
        have e6 : ¬ (0 : Int) < (k : Int) := by omega
        clear hk0
        refine wp_region_S (RtV w z g cap k V) (by kernel_rfl) (by kernel_rfl) ⟨⟨sv.b, sv.own, sv.bel.drew⟩, sv.v⟩ ?_
        clear sv
        intro hne
        repeat (first | go_big_quiet_skip | (go_big_quiet_want; go_big_quiet_op; go_big_quiet_on))
        refine wpQuiet_nil ?_
        intro w6 h6
        have sv6 := h6.out
        clear h6 hne
        have hbs := run_tag1
        have c0 := sv6.v.cell (i := 0) rfl
        have c1 := sv6.v.cell (i := 1) rfl
        have hown' := World.ownsRow.alloc sv6.own (.cells #[.int .u32 (descT z k), .bool (jdE z k)] 169)
        have hgb := own_base sv6.own
        go_wp2_with (first | (refine wpList_append_own _ rfl (.tmp 83) (.tmp 85) 165 rfl (w.heap.size + 1) 169 i0 (.agg #[.int .u32 0, .bool false]) 2 8 Tryd.underlying165 hi hz0 hz1 hz2 rfl (by decide) _ k _ rfl hown' ⟨w6.heap.size, 0, none⟩ 1 1 [.int .u32 (descT z k), .bool (jdE z k)] rfl rfl (tagNews w6 (descT z k) (jdE z k)) (tagOne (descT z k) (jdE z k)) (by unfold maxLen; omega) (by omega) (by have := sv6.b.lt; simp; omega) ?rest1))
        intro v' w7 hown7 hg7 _
        obtain ⟨g', cap', hv'⟩ := own_form hown7
        subst hv'
        have hblt := sv6.b.lt
        have st7 : RtSt w z g' cap' (k + 1) w7 := ⟨(hg7.block _ (sv6.b.alloc _).lt (by simp [Value.ownBlock]; omega)).trans (sv6.b.alloc _), hown7, (sv6.bel.alloc sv6.bel.size _).grown hg7 (sv6.bel.alloc sv6.bel.size _).size (fun j e => by simp [Value.ownBlock] at e; omega)⟩
        clear sv6 hown' hown7 hg7 hbs c0 c1
        go_wp2_with fail
        go_roundw
        case rel => first | exact ⟨k + 1, g', cap', by omega, by go_num, rfl, HRS1, st7⟩ | ((repeat apply Exists.intro); exact ⟨⟨k + 1, g', cap', by omega, by go_num, rfl, HRS1, st7⟩, rfl⟩)
        case measure => simp [intOf]; omega
      · have e1 : IntKind.i64.wrap ((k : Int) - 1) = (k : Int) - 1 := IntWalk.i64_in _ (by omega)
        have e2 : (0 : Int) ≤ (k : Int) - 1 := by omega
        have e3 : ((k : Int) - 1).toNat = k - 1 := by omega
        have e4 : (k : Int) - 1 < (k : Int) := by omega
        have e5 : 0 < k := by omega
        have e6 : (0 : Int) < (k : Int) := by omega
        by_cases hri : descT z (k - 1) < descT z k
        · have HRS1 : Hid (descB z (k + 1) = true) := by show _ = _; rw [descB_succ, HRS.out, decide_eq_true HOK.out, decide_eq_true hri]; simp
          have d1 : decide (descT z k ≤ descT z (k - 1)) = false := by simp; omega
          refine wp_region_S (RtV w z g cap k V) (by kernel_rfl) (by kernel_rfl) ⟨⟨sv.b, sv.own, sv.bel.drew⟩, sv.v⟩ ?_
          clear sv
          intro hne

          first | go_big_quiet_skip | (go_big_quiet_want; go_big_quiet_op; go_big_quiet_on)
          first | go_big_quiet_skip | (go_big_quiet_want; go_big_quiet_op; go_big_quiet_on)
          first | go_big_quiet_skip | (go_big_quiet_want; go_big_quiet_op; go_big_quiet_on)
          first | go_big_quiet_skip | (go_big_quiet_want; go_big_quiet_op; go_big_quiet_on)
          first | go_big_quiet_skip | (go_big_quiet_want; go_big_quiet_op; go_big_quiet_on)
          first | go_big_quiet_skip | (go_big_quiet_want; go_big_quiet_op; go_big_quiet_on)
          first | go_big_quiet_skip | (go_big_quiet_want; go_big_quiet_op; go_big_quiet_on)
          first | go_big_quiet_skip | (go_big_quiet_want; go_big_quiet_op; go_big_quiet_on)
          first | go_big_quiet_skip | (go_big_quiet_want; go_big_quiet_op; go_big_quiet_on)
          first | go_big_quiet_skip | (go_big_quiet_want; go_big_quiet_op; go_big_quiet_on)
          first | go_big_quiet_skip | (go_big_quiet_want; go_big_quiet_op; go_big_quiet_on)
          refine q_load rfl 169 (.tmp 74) rfl _ _ rfl [.int .u32 (descT z (k - 1)), .bool (jdE z (k - 1))] _ (fun W h => by have := tagRange h.toRtSt.seg (k - 1) (by omega); rwa [Nat.zero_add] at this) Tryd.underlying169 rfl (by kernel_rfl) ?_
          refine wpQuiet_frame (by simp only [Act.put, List.setIfInBounds_toArray, List.set_cons_succ, List.set_cons_zero]; exact rfl) ?_
          go_big_quiet_want
          go_big_quiet_op
          refine ⟨_, fun s => q_call s (fun W hW => (tagKey_any (descT z (k - 1)) (jdE z (k - 1)) W).mono fun e w' h => ⟨h.1, hkeep.out W w' hW h.2⟩), ?_⟩
          go_big_quiet_on
          first | go_big_quiet_skip | (go_big_quiet_want; go_big_quiet_op; go_big_quiet_on)
          refine q_load rfl 169 (.tmp 21) rfl _ _ rfl [.int .u32 (descT z k), .bool (jdE z k)] _ (fun W h => h.v.range) Tryd.underlying169 rfl (by kernel_rfl) ?_
          refine wpQuiet_frame (by simp only [Act.put, List.setIfInBounds_toArray, List.set_cons_succ, List.set_cons_zero]; exact rfl) ?_
          go_big_quiet_want
          go_big_quiet_op
          refine ⟨_, fun s => q_call s (fun W hW => (tagKey_any (descT z k) (jdE z k) W).mono fun e w' h => ⟨h.1, hkeep.out W w' hW h.2⟩), ?_⟩
          go_big_quiet_on
          first | go_big_quiet_skip | (go_big_quiet_want; go_big_quiet_op; go_big_quiet_on)
          first | go_big_quiet_skip | (go_big_quiet_want; go_big_quiet_op; go_big_quiet_on)
          first | go_big_quiet_skip | (go_big_quiet_want; go_big_quiet_op; go_big_quiet_on)
          refine wpQuiet_nil ?_
          intro w6 h6
          have sv6 := h6.out
          clear h6 hne e1 e2 e3 e4 d1
          have hbs := run_tag1
          have c0 := sv6.v.cell (i := 0) rfl
          have c1 := sv6.v.cell (i := 1) rfl
          have hown' := World.ownsRow.alloc sv6.own (.cells #[.int .u32 (descT z k), .bool (jdE z k)] 169)
          have hgb := own_base sv6.own
          go_wp2_with (first | (refine wpList_append_own _ rfl (.tmp 83) (.tmp 85) 165 rfl (w.heap.size + 1) 169 i0 (.agg #[.int .u32 0, .bool false]) 2 8 Tryd.underlying165 hi hz0 hz1 hz2 rfl (by decide) _ k _ rfl hown' ⟨w6.heap.size, 0, none⟩ 1 1 [.int .u32 (descT z k), .bool (jdE z k)] rfl rfl (tagNews w6 (descT z k) (jdE z k)) (tagOne (descT z k) (jdE z k)) (by unfold maxLen; omega) (by omega) (by have := sv6.b.lt; simp; omega) ?rest2))
          intro v' w7 hown7 hg7 _
          obtain ⟨g', cap', hv'⟩ := own_form hown7
          subst hv'
          have hblt := sv6.b.lt
          have st7 : RtSt w z g' cap' (k + 1) w7 := ⟨(hg7.block _ (sv6.b.alloc _).lt (by simp [Value.ownBlock]; omega)).trans (sv6.b.alloc _), hown7, (sv6.bel.alloc sv6.bel.size _).grown hg7 (sv6.bel.alloc sv6.bel.size _).size (fun j e => by simp [Value.ownBlock] at e; omega)⟩
          clear sv6 hown' hown7 hg7 hbs c0 c1
          go_wp2_with fail
          go_roundw
          case rel => first | exact ⟨k + 1, g', cap', by omega, by go_num, rfl, HRS1, st7⟩ | ((repeat apply Exists.intro); exact ⟨⟨k + 1, g', cap', by omega, by go_num, rfl, HRS1, st7⟩, rfl⟩)
          case measure => simp [intOf]; omega
        · have HO : Hid (descRd z = false) := hrn.out (descB_no hlt2 (by rw [descB_succ, decide_eq_false hri]; simp [hk0]))
          have d1 : decide (descT z k ≤ descT z (k - 1)) = true := by simp; omega
          refine wp_region_S (RtV w z g cap k V) (by kernel_rfl) (by kernel_rfl) ⟨⟨sv.b, sv.own, sv.bel.drew⟩, sv.v⟩ ?_
          clear sv
          intro hne

          first | go_big_quiet_skip | (go_big_quiet_want; go_big_quiet_op; go_big_quiet_on)
          first | go_big_quiet_skip | (go_big_quiet_want; go_big_quiet_op; go_big_quiet_on)
          first | go_big_quiet_skip | (go_big_quiet_want; go_big_quiet_op; go_big_quiet_on)
          first | go_big_quiet_skip | (go_big_quiet_want; go_big_quiet_op; go_big_quiet_on)
          first | go_big_quiet_skip | (go_big_quiet_want; go_big_quiet_op; go_big_quiet_on)
          first | go_big_quiet_skip | (go_big_quiet_want; go_big_quiet_op; go_big_quiet_on)
          first | go_big_quiet_skip | (go_big_quiet_want; go_big_quiet_op; go_big_quiet_on)
          first | go_big_quiet_skip | (go_big_quiet_want; go_big_quiet_op; go_big_quiet_on)
          first | go_big_quiet_skip | (go_big_quiet_want; go_big_quiet_op; go_big_quiet_on)
          first | go_big_quiet_skip | (go_big_quiet_want; go_big_quiet_op; go_big_quiet_on)
          first | go_big_quiet_skip | (go_big_quiet_want; go_big_quiet_op; go_big_quiet_on)
          refine q_load rfl 169 (.tmp 74) rfl _ _ rfl [.int .u32 (descT z (k - 1)), .bool (jdE z (k - 1))] _ (fun W h => by have := tagRange h.toRtSt.seg (k - 1) (by omega); rwa [Nat.zero_add] at this) Tryd.underlying169 rfl (by kernel_rfl) ?_
          refine wpQuiet_frame (by simp only [Act.put, List.setIfInBounds_toArray, List.set_cons_succ, List.set_cons_zero]; exact rfl) ?_
          go_big_quiet_want
          go_big_quiet_op
          refine ⟨_, fun s => q_call s (fun W hW => (tagKey_any (descT z (k - 1)) (jdE z (k - 1)) W).mono fun e w' h => ⟨h.1, hkeep.out W w' hW h.2⟩), ?_⟩
          go_big_quiet_on
          first | go_big_quiet_skip | (go_big_quiet_want; go_big_quiet_op; go_big_quiet_on)
          refine q_load rfl 169 (.tmp 21) rfl _ _ rfl [.int .u32 (descT z k), .bool (jdE z k)] _ (fun W h => h.v.range) Tryd.underlying169 rfl (by kernel_rfl) ?_
          refine wpQuiet_frame (by simp only [Act.put, List.setIfInBounds_toArray, List.set_cons_succ, List.set_cons_zero]; exact rfl) ?_
          go_big_quiet_want
          go_big_quiet_op
          refine ⟨_, fun s => q_call s (fun W hW => (tagKey_any (descT z k) (jdE z k) W).mono fun e w' h => ⟨h.1, hkeep.out W w' hW h.2⟩), ?_⟩
          go_big_quiet_on
          first | go_big_quiet_skip | (go_big_quiet_want; go_big_quiet_op; go_big_quiet_on)
          first | go_big_quiet_skip | (go_big_quiet_want; go_big_quiet_op; go_big_quiet_on)
          first | go_big_quiet_skip | (go_big_quiet_want; go_big_quiet_op; go_big_quiet_on)
          refine wpQuiet_nil ?_
          intro w6 h6
          have hb6 := h6.out.bel
          clear h6 hne e1 e2 e3 e4 d1
          go_wp2_with fail
          go_ret3
          exact ddNo HO.out hb6
    · obtain rfl : k = n := by omega
      have fin : Hid (∀ (h : allZ (fun j => wd z (4 + 2 * k + j)) (60 - 2 * k) = true), DescRead w z (.returned (.tuple #[.int .u32 (seqOf z), .slice (some ⟨g, 0, none⟩) k cap, .int .i64 0])) wr) := fun h => by
        refine ⟨st.bel, .inr ⟨hrd.out HRS.out h, g, cap, ?_, ?_⟩⟩
        · rw [HN.out, HSQ.out]
        · rw [HN.out]; exact own_mono st.own (by omega)
      by_cases h30 : k = 30
      · subst h30
        have hsl := fun W => run_sliceBlkEnd w.heap.size W
        have hz30 : Hid (allZ (fun j => wd z (4 + 2 * 30 + j)) (60 - 2 * 30) = true) := rfl
        go_wp2_with fail
        refine (zero_any _ 0 0 (fun _ => 0) _ (by omega) (.inl rfl)).mono ?_
        rintro e w3 ⟨rfl, rfl⟩
        rw [show allZ (fun _ => (0 : Int)) 0 = true from rfl]
        clear hsl
        go_wp2_with fail
        go_ret3
        exact fin.out hz30.out
      have hsl := fun W => run_sliceBlkFrom w.heap.size (16 + 8 * k) (16 + (k : Int) * 8) (by omega) (by omega) W
      have hrow : Hid (Row wr (some ⟨w.heap.size, 16 + 8 * k, none⟩) (256 - (16 + 8 * k)) (fun j => z (16 + 8 * k + j))) := .inr ⟨_, _, rfl, by have := st.b.seg.sub (16 + 8 * k) (256 - (16 + 8 * k)) (by omega); rwa [Nat.zero_add] at this⟩
      go_wp2_with fail
      refine (zero_any _ _ _ _ _ (by omega) (by exact hrow.out)).mono ?_
      rintro e w3 ⟨rfl, rfl⟩
      clear hsl hrow
      have HZ : Hid (allZ (fun j => z (16 + 8 * k + j)) (256 - (16 + 8 * k)) = allZ (fun j => wd z (4 + 2 * k + j)) (60 - 2 * k)) := by
        show _ = _
        have := allZ_wd hz (4 + 2 * k) (60 - 2 * k)
        rw [show 4 * (4 + 2 * k) = 16 + 8 * k by omega, show 4 * (60 - 2 * k) = 256 - (16 + 8 * k) by omega] at this
        exact this
      rw [HZ.out]
      cases hzz : allZ (fun j => wd z (4 + 2 * k + j)) (60 - 2 * k) with
      | true =>
        have FIN := fin.out hzz
        have HF := Lib.hid FIN
        clear hzz FIN fin
        go_wp2_with fail
        go_ret3
        exact HF.out
      | false =>
        have HO : Hid (descRd z = false) := hzn.out hzz
        clear hzz fin
        go_wp2_with fail
        go_ret3
        exact ddNo HO.out st.bel

set_option maxRecDepth 100000 in
theorem readDesc_any (z : Nat → Int) (hz : Byt z) (w : World) : Calls Tryd.prog 155 #[bval z] w (DescRead w z) := by
  have hB := Blk.new w 32 256 z
  have hL : Below w.heap.size w (w.alloc (.cells (Ks .u8 256 z).toArray 32)) := (Below.refl _ _).alloc (Nat.le_refl _) _
  have HL := Lib.hid hL
  clear hL
  go_enter Tryd.func155, Tryd.ntmps155
  go_wp2_with (first | (refine wp_loadBlk rfl (.tmp 1) rfl w.heap.size z rfl hB ?_))
  refine (readRowsT_any z hz _).mono ?_
  rintro e w1 ⟨hb1, ⟨hr, rfl⟩ | ⟨hr, g, cap, rfl, hown⟩⟩
  · have hL1 : Below w.heap.size w w1 := HL.out.trans (hb1.mono HL.out.size)
    have HR := Lib.hid hr
    clear hr hb1 hB
    go_wp2_with fail
    go_ret3
    exact ddNo HR.out hL1
  · have hL1 : Below w.heap.size w w1 := HL.out.trans (hb1.mono HL.out.size)
    have hfin : DescRead w z (.returned (.tuple #[.int .u32 (wd z 2), .slice (some ⟨g, 0, none⟩) (rowsN z) cap, .int .i64 0])) w1 := ⟨hL1, .inr ⟨hr, g, cap, rfl, own_mono hown (by simp)⟩⟩
    have HF := Lib.hid hfin
    clear hr hb1 hB hown hfin hL1
    go_wp2_with fail
    go_ret3
    exact HF.out
end Go.Proofs.YtnbmmhoofilmfaaDoor
