/- The walk of the law JblockHeads. -/
import Derived.Test.YtahobhifafiaeaaW9a
namespace Go.Proofs.Ytahobhifafiaeaa
open Go.RowKit
set_option linter.unusedVariables false

/-- what stands behind the two writings -/
structure HdSt (w : World) (s t s' t' : Int) (A B : Nat) (W : World) : Prop where
  h : At W w.heap.size 24 #[.int .u32 s, .int .i64 t]
  k : At W (w.heap.size + 1) 24 #[.int .u32 s', .int .i64 t']
  a : Blk W A 28 256 (headZ s t)
  b : Blk W B 28 256 (headZ s' t')
  bel : Below w.heap.size w W

set_option maxRecDepth 100000 in
set_option maxHeartbeats 4000000 in
theorem heads_walk (s t s' t' : Int) (w : World) (hs : 0 ≤ s ∧ s < 4294967296) (ht : -9223372036854775808 ≤ t ∧ t ≤ 9223372036854775807) (hs' : 0 ≤ s' ∧ s' < 4294967296) (ht' : -9223372036854775808 ≤ t' ∧ t' ≤ 9223372036854775807) :
    Calls Try.prog 4 #[.agg #[.int .u32 s, .int .i64 t], .agg #[.int .u32 s', .int .i64 t']] w fun e w' => e = .returned (.bool true) ∧ Below w.heap.size w w' := by
  have hcases : headOk s t = true ∧ 1 ≤ s ∧ s ≤ 2147483648 ∧ 0 ≤ t ∧ t < 256 ∨ headOk s t = false ∧ (s < 1 ∨ 1 ≤ s ∧ 2147483648 < s ∨ 1 ≤ s ∧ s ≤ 2147483648 ∧ t < 0 ∨ 1 ≤ s ∧ s ≤ 2147483648 ∧ 0 ≤ t ∧ 256 ≤ t) := by
    unfold headOk seqB
    by_cases h : (1 ≤ s ∧ s ≤ 2147483648) ∧ (0 ≤ t ∧ t ≤ 255)
    · left; refine ⟨by simp [h], by omega⟩
    · right
      refine ⟨?_, by omega⟩
      rw [Bool.and_eq_false_iff]
      simp only [decide_eq_false_iff_not]
      omega
  have HCS := Lib.hid hcases
  clear hcases
  have hH0 : Hid (At ((w.alloc (.cells #[.int .u32 s, .int .i64 t] 24)).alloc (.cells #[.int .u32 s', .int .i64 t'] 24)) w.heap.size 24 #[.int .u32 s, .int .i64 t]) := (At.new _ _ _).alloc _
  have hK0 : Hid (At ((w.alloc (.cells #[.int .u32 s, .int .i64 t] 24)).alloc (.cells #[.int .u32 s', .int .i64 t'] 24)) (w.heap.size + 1) 24 #[.int .u32 s', .int .i64 t']) := by
    have := At.new (w.alloc (.cells #[.int .u32 s, .int .i64 t] 24)) 24 #[.int .u32 s', .int .i64 t']
    simp only [World.size_alloc] at this
    exact this
  have hL0 : Hid (Below w.heap.size w ((w.alloc (.cells #[.int .u32 s, .int .i64 t] 24)).alloc (.cells #[.int .u32 s', .int .i64 t'] 24))) := ((Below.refl _ _).alloc (Nat.le_refl _) _).alloc (by simp) _
  have hal := zero_block
  go_enter Try.func4, Try.ntmps4
  go_wp2_with fail
  refine (awake9 _).mono ?_
  rintro e w1 ⟨rfl, hb1⟩
  have hH1 := hH0.out.below hb1 hH0.out.lt
  have hK1 := hK0.out.below hb1 hK0.out.lt
  have hL1 : Below w.heap.size w w1 := hL0.out.trans (hb1.mono hL0.out.size)
  clear hH0 hK0 hL0 hb1
  go_wp2_with (first | (refine wp_loadAtG rfl 24 (.tmp 2) rfl w.heap.size #[.int .u32 s, .int .i64 t] _ rfl hH1 Try.underlying24 rfl (by kernel_rfl) ?_))
  refine (writeHead_any s t _ hs ht).mono ?_
  rintro e w2 ⟨rfl, hb2⟩
  have hH2 := hH1.below hb2 hH1.lt
  have hK2 := hK1.below hb2 hK1.lt
  have hL2 : Below w.heap.size w w2 := hL1.trans (hb2.mono hL1.size)
  have hn2 := Blk.new w2 28 256 (fun _ => 0)
  have hk2 := hK2.lt
  clear hH1 hK1 hL1 hb2
  go_wp2_with (first | (refine wp_storeBlk rfl (.tmp 5) (.tmp 14) rfl w2.heap.size (headZ s t) _ rfl rfl hn2 ?_))
  intro w3 hA3 ho3
  have hH3 : At w3 w.heap.size 24 #[.int .u32 s, .int .i64 t] := (hH2.alloc _).only ho3 (by omega)
  have hK3 : At w3 (w.heap.size + 1) 24 #[.int .u32 s', .int .i64 t'] := (hK2.alloc _).only ho3 (by omega)
  have hL3 : Below w.heap.size w w3 := (hL2.alloc hL2.size _).trans (ho3.below hL2.size)
  clear hH2 hK2 hL2 hn2 ho3
  go_wp2_with (first | (refine wp_loadAtG rfl 24 (.tmp 3) rfl (w.heap.size + 1) #[.int .u32 s', .int .i64 t'] _ rfl hK3 Try.underlying24 rfl (by kernel_rfl) ?_))
  refine (writeHead_any s' t' _ hs' ht').mono ?_
  rintro e w4 ⟨rfl, hb4⟩
  have hH4 := hH3.below hb4 hH3.lt
  have hK4 := hK3.below hb4 hK3.lt
  have hA4 := hA3.below hb4 hA3.lt
  have hL4 : Below w.heap.size w w4 := hL3.trans (hb4.mono hL3.size)
  have hn4 := Blk.new w4 28 256 (fun _ => 0)
  have hk4 := hA4.lt
  clear hH3 hK3 hA3 hL3 hb4
  go_wp2_with (first | (refine wp_storeBlk rfl (.tmp 7) (.tmp 19) rfl w4.heap.size (headZ s' t') _ rfl rfl hn4 ?_))
  intro w5 hB5 ho5
  have st : HdSt w s t s' t' w2.heap.size w4.heap.size w5 := ⟨(hH4.alloc _).only ho5 (by omega), (hK4.alloc _).only ho5 (by omega), (hA4.alloc _).only ho5 (by omega), hB5, (hL4.alloc hL4.size _).trans (ho5.below hL4.size)⟩
  clear hH4 hK4 hA4 hL4 hn4 hB5 ho5 hal
  have c0 := st.h.cell (i := 0) rfl
  have c1 := st.h.cell (i := 1) rfl
  have HC0 := Lib.hid c0
  have HC1 := Lib.hid c1
  clear c0 c1
  rcases HCS.out with ⟨hok, d1, d2, d3, d4⟩ | ⟨hok, hc⟩
  rotate_left
  · rw [hok, show errOf false 2 = 2 from rfl]
    have hbel := st.bel
    clear HCS hok st
    generalize errOf (headOk s' t') 2 = f
    have c0 := HC0.out
    have c1 := HC1.out
    clear HC0 HC1
    rcases hc with hc | ⟨d1, hc⟩ | ⟨d1, d2, hc⟩ | ⟨d1, d2, d3, hc⟩
    all_goals
      go_wp2_with fail
      refine wp_region_S (fun W => Below w.heap.size w W) (by kernel_rfl) (by kernel_rfl) hbel.drew ?_
      intro hne
      repeat (first | go_big_quiet_skip | (go_big_quiet_want; go_big_quiet_op; go_big_quiet_on))
      refine wpQuiet_nil ?_
      intro w6 h6
      have hbl6 : Below w.heap.size w w6 := h6.out
      clear h6 hne
      go_wp2
      go_ret
      exact ⟨rfl, hbl6⟩
  have c0 := HC0.out
  have c1 := HC1.out
  have hlaw := heads_law s t s' t' hok
  rw [hok, show errOf true 2 = 0 from rfl]
  clear HC0 HC1 HCS
  cases hok' : headOk s' t' with
  | false =>
    rw [show errOf false 2 = 2 from rfl]
    have hbel := st.bel
    clear hlaw hok hok' st
    go_wp2_with fail
    refine wp_region_S (fun W => Below w.heap.size w W) (by kernel_rfl) (by kernel_rfl) hbel.drew ?_
    intro hne
    repeat (first | go_big_quiet_skip | (go_big_quiet_want; go_big_quiet_op; go_big_quiet_on))
    refine wpQuiet_nil ?_
    intro w6 h6
    have hbl6 : Below w.heap.size w w6 := h6.out
    clear h6 hne
    go_wp2
    go_ret
    exact ⟨rfl, hbl6⟩
  | true =>
    have hq := fun W => run_eql_block (headZ s t) (headZ s' t') W
    rw [hlaw hok'] at hq
    have hr := fun W => run_eql_head s t s' t' W
    have hqe : ((s == s' && t == t') == (s == s' && t == t')) = true := by simp
    generalize (s == s' && t == t') = B at hq hr hqe
    rw [show errOf true 2 = 0 from rfl]
    clear hlaw hok hok'
    go_wp2_with fail
    clear c0 c1
    refine wp_region_S (HdSt w s t s' t' w2.heap.size w4.heap.size) (by kernel_rfl) (by kernel_rfl) ⟨st.h, st.k, st.a, st.b, st.bel.drew⟩ ?_
    clear st
    intro hne
    first | go_big_quiet_skip | (go_big_quiet_want; go_big_quiet_op; go_big_quiet_on)
    first | go_big_quiet_skip | (go_big_quiet_want; go_big_quiet_op; go_big_quiet_on)
    first | go_big_quiet_skip | (go_big_quiet_want; go_big_quiet_op; go_big_quiet_on)
    first | go_big_quiet_skip | (go_big_quiet_want; go_big_quiet_op; go_big_quiet_on)
    first | go_big_quiet_skip | (go_big_quiet_want; go_big_quiet_op; go_big_quiet_on)
    first | go_big_quiet_skip | (go_big_quiet_want; go_big_quiet_op; go_big_quiet_on)
    first | go_big_quiet_skip | (go_big_quiet_want; go_big_quiet_op; go_big_quiet_on)
    refine q_load rfl 28 (.tmp 5) rfl _ _ rfl (Ks .u8 256 (headZ s t)) _ (fun W h => h.a.range) Try.underlying28 rfl (by rw [Ks_length]; exact info_block) ?_
    refine wpQuiet_frame (by simp only [Act.put, List.setIfInBounds_toArray, List.set_cons_succ, List.set_cons_zero]; exact rfl) ?_
    refine q_load rfl 28 (.tmp 7) rfl _ _ rfl (Ks .u8 256 (headZ s' t')) _ (fun W h => h.b.range) Try.underlying28 rfl (by rw [Ks_length]; exact info_block) ?_
    refine wpQuiet_frame (by simp only [Act.put, List.setIfInBounds_toArray, List.set_cons_succ, List.set_cons_zero]; exact rfl) ?_
    first | go_big_quiet_skip | (go_big_quiet_want; go_big_quiet_op; go_big_quiet_on)
    refine q_load rfl 24 (.tmp 2) rfl _ _ rfl [.int .u32 s, .int .i64 t] _ (fun W h => h.h.range) Try.underlying24 rfl (by kernel_rfl) ?_
    refine wpQuiet_frame (by simp only [Act.put, List.setIfInBounds_toArray, List.set_cons_succ, List.set_cons_zero]; exact rfl) ?_
    refine q_load rfl 24 (.tmp 3) rfl _ _ rfl [.int .u32 s', .int .i64 t'] _ (fun W h => h.k.range) Try.underlying24 rfl (by kernel_rfl) ?_
    refine wpQuiet_frame (by simp only [Act.put, List.setIfInBounds_toArray, List.set_cons_succ, List.set_cons_zero]; exact rfl) ?_
    first | go_big_quiet_skip | (go_big_quiet_want; go_big_quiet_op; go_big_quiet_on)
    first | go_big_quiet_skip | (go_big_quiet_want; go_big_quiet_op; go_big_quiet_on)
    first | go_big_quiet_skip | (go_big_quiet_want; go_big_quiet_op; go_big_quiet_on)
    first | go_big_quiet_skip | (go_big_quiet_want; go_big_quiet_op; go_big_quiet_on)
    refine wpQuiet_nil ?_
    intro w6 h6
    have hbl6 : Below w.heap.size w w6 := h6.out.bel
    clear h6 hne
    go_wp2
    go_ret
    exact ⟨rfl, hbl6⟩
end Go.Proofs.Ytahobhifafiaeaa
