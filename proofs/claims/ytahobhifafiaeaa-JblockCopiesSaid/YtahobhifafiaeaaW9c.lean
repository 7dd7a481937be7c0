/- The walk of the law JblockCopies. -/
import Derived.Test.YtahobhifafiaeaaW9a
namespace Go.Proofs.Ytahobhifafiaeaa
open Go.RowKit
set_option linter.unusedVariables false

theorem escZ_byt {z : Nat → Int} (hz : Byt z) : Byt (escZ z) := by
  unfold escZ
  split
  · exact byt_over hz (byt_byteOf 0) _ _
  · exact hz
theorem unescZ_byt {z : Nat → Int} (hz : Byt z) : Byt (unescZ z) := byt_over hz (byt_byteOf _) _ _
theorem wd_esc {z : Nat → Int} (h : escB z = true) : wd (escZ z) 0 = 0 := by
  unfold escZ; rw [h, if_pos rfl]
  exact g32_over z 0 0 (by decide) (by decide)
theorem escB_esc (z : Nat → Int) : escB (escZ z) = false := by
  cases h : escB z with
  | true => unfold escB; rw [wd_esc h]; rfl
  | false => unfold escZ; rw [h]; exact h
theorem escZ_esc (z : Nat → Int) : escZ (escZ z) = escZ z := by
  rw [escZ, escB_esc]; rfl
theorem kind_esc (z : Nat → Int) : kindOf (escZ z) = 0 ∧ seqOf (escZ z) = 0 := by
  have : kindB (escZ z) = false := by
    have h := escB_esc z
    unfold escB at h
    unfold kindB
    rw [h]; rfl
  unfold kindOf seqOf
  rw [this]; exact ⟨rfl, rfl⟩
theorem escB_unesc (z : Nat → Int) : escB (unescZ z) = true := by
  have : wd (unescZ z) 0 = 1280199249 := g32_over z 0 1280199249 (by decide) (by decide)
  unfold escB; rw [this]; rfl
theorem magic_byte {z : Nat → Int} (hz : Byt z) (h : escB z = true) (i : Nat) (hi : i < 4) : byteOf 1280199249 i = z i := by
  have h' : wd z 0 = 1280199249 := by unfold escB at h; exact beq_iff_eq.1 h
  have := byteOf_g32 z hz 0 i hi
  rw [show g32 z 0 = 1280199249 from h', Nat.zero_add] at this
  exact this
theorem unesc_esc {z : Nat → Int} (hz : Byt z) (h : escB z = true) (i : Nat) : unescZ (escZ z) i = z i := by
  unfold unescZ escZ
  rw [h, if_pos rfl]
  by_cases hi : i < 4
  · rw [over_in _ _ _ _ _ (by omega), Nat.sub_zero]; exact magic_byte hz h i hi
  · rw [over_out _ _ _ _ _ (by omega), over_out _ _ _ _ _ (by omega)]
theorem unesc_unesc {z : Nat → Int} (i : Nat) : unescZ (escZ (unescZ z)) i = unescZ z i := by
  rw [unescZ, escZ, escB_unesc, if_pos rfl]
  by_cases hi : i < 4
  · rw [over_in _ _ _ _ _ (by omega), unescZ, over_in _ _ _ _ _ (by omega)]
  · rw [over_out _ _ _ _ _ (by omega), over_out _ _ _ _ _ (by omega)]
theorem eqB_of {z y : Nat → Int} {n : Nat} (h : ∀ i, z i = y i) : eqB z y n = true := (eqB_iff z y n).2 fun i _ => h i

structure CpSt (w : World) (z : Nat → Int) (A B : Nat) (W : World) : Prop where
  b : Blk W w.heap.size 28 256 z
  x : Blk W A 28 256 (escZ z)
  y : Blk W B 28 256 (escZ (unescZ z))
  bel : Below w.heap.size w W
theorem CpSt.below {w W W' : World} {z : Nat → Int} {A B : Nat} (h : CpSt w z A B W) (hb : Below W.heap.size W W') : CpSt w z A B W' :=
  ⟨h.b.below hb h.b.lt, h.x.below hb h.x.lt, h.y.below hb h.y.lt, h.bel.trans (hb.mono h.bel.size)⟩

set_option maxRecDepth 100000 in
set_option maxHeartbeats 4000000 in
theorem copies_walk (z : Nat → Int) (hz : Byt z) (w : World) :
    Calls Try.prog 5 #[bval z] w fun e w' => e = .returned (.bool true) ∧ Below w.heap.size w w' := by
  have hB0 : Hid (Blk (w.alloc (.cells (Ks .u8 256 z).toArray 28)) w.heap.size 28 256 z) := Blk.new _ _ _ _
  have hL0 : Hid (Below w.heap.size w (w.alloc (.cells (Ks .u8 256 z).toArray 28))) := (Below.refl _ _).alloc (Nat.le_refl _) _
  have hal := zero_block
  go_enter Try.func5, Try.ntmps5
  go_wp2_with fail
  refine (awake9 _).mono ?_
  rintro e w1 ⟨rfl, hb1⟩
  have hB1 := hB0.out.below hb1 hB0.out.lt
  have hL1 : Below w.heap.size w w1 := hL0.out.trans (hb1.mono hL0.out.size)
  clear hB0 hL0 hb1
  go_wp2_with (first | (refine wp_loadBlk rfl (.tmp 1) rfl w.heap.size z rfl hB1 ?_))
  refine (escape_any z hz _).mono ?_
  rintro e w2 ⟨rfl, hb2⟩
  have hB2 := hB1.below hb2 hB1.lt
  have hL2 : Below w.heap.size w w2 := hL1.trans (hb2.mono hL1.size)
  have hn2 := Blk.new w2 28 256 (fun _ => 0)
  have hk2 := hB2.lt
  clear hB1 hL1 hb2
  go_wp2_with (first | (refine wp_storeBlk rfl (.tmp 3) (.tmp 16) rfl w2.heap.size (escZ z) _ rfl rfl hn2 ?_))
  intro w3 hX3 ho3
  have hB3 : Blk w3 w.heap.size 28 256 z := (hB2.alloc _).only ho3 (by omega)
  have hL3 : Below w.heap.size w w3 := (hL2.alloc hL2.size _).trans (ho3.below hL2.size)
  clear hB2 hL2 hn2 ho3
  go_wp2_with (first | (refine wp_loadBlk rfl (.tmp 3) rfl w2.heap.size (escZ z) rfl hX3 ?_))
  refine (kind_any (escZ z) (escZ_byt hz) _).mono ?_
  rintro e w4 ⟨rfl, hb4⟩
  rw [(kind_esc z).1, (kind_esc z).2]
  have hB4 := hB3.below hb4 hB3.lt
  have hX4 := hX3.below hb4 hX3.lt
  have hL4 : Below w.heap.size w w4 := hL3.trans (hb4.mono hL3.size)
  clear hB3 hX3 hL3 hb4
  go_wp2_with (first | (refine wp_loadBlk rfl (.tmp 3) rfl w2.heap.size (escZ z) rfl hX4 ?_))
  refine (escape_any (escZ z) (escZ_byt hz) _).mono ?_
  rintro e w5 ⟨rfl, hb5⟩
  rw [escZ_esc, escB_esc]
  have hB5 := hB4.below hb5 hB4.lt
  have hX5 := hX4.below hb5 hX4.lt
  have hL5 : Below w.heap.size w w5 := hL4.trans (hb5.mono hL4.size)
  have hn5 := Blk.new w5 28 256 (fun _ => 0)
  have hk5 := hX5.lt
  clear hB4 hX4 hL4 hb5
  go_wp2_with (first | (refine wp_storeBlk rfl (.tmp 7) (.tmp 26) rfl w5.heap.size (escZ z) _ rfl rfl hn5 ?_))
  intro w6 hY6 ho6
  have hB6 : Blk w6 w.heap.size 28 256 z := (hB5.alloc _).only ho6 (by omega)
  have hX6 : Blk w6 w2.heap.size 28 256 (escZ z) := (hX5.alloc _).only ho6 (by omega)
  have hL6 : Below w.heap.size w w6 := (hL5.alloc hL5.size _).trans (ho6.below hL5.size)
  clear hB5 hX5 hL5 hn5 ho6
  have q1 : ∀ W, (binOp .neq 28 (bval (escZ z)) (bval (escZ z))).run Try.prog W = .ok (.bool false) W := fun W => by rw [run_neq_block, eqB_refl]; rfl
  have qu := fun W => run_eql_block (unescZ (escZ z)) z W
  have hqu : escB z = true → eqB (unescZ (escZ z)) z 256 = true := fun h => eqB_of (unesc_esc hz h)
  have qn := fun W => run_neq_block (escZ z) z W
  have hqn : escB z = false → escZ z = z := fun h => by unfold escZ; rw [h]; rfl
  have HQU := Lib.hid hqu
  have HQN := Lib.hid hqn
  have HU := Lib.hid qu
  have HN := Lib.hid qn
  clear hqu hqn qu qn
  have hS9 : Hid (∀ W, (binOp .eql 28 (bval (unescZ (escZ (unescZ z)))) (bval (unescZ z))).run Try.prog W = .ok (.bool true) W) := fun W => by rw [run_eql_block, eqB_of unesc_unesc]
  cases hE : escB z with
  | true =>
    have qu : ∀ W, (binOp .eql 28 (bval (unescZ (escZ z))) (bval z)).run Try.prog W = .ok (.bool true) W := fun W => by rw [HU.out, HQU.out hE]
    clear HQU HQN HU HN
    go_wp2_with (first | (refine wp_loadBlkG rfl (.tmp 7) rfl w5.heap.size (escZ z) rfl hY6 ?_) | (refine wp_loadBlkG rfl (.tmp 3) rfl w2.heap.size (escZ z) rfl hX6 ?_) | (refine wp_loadBlkG rfl (.tmp 1) rfl w.heap.size z rfl hB6 ?_))
    refine (unescape_any z hz _).mono ?_
    rintro e w7 ⟨rfl, hb7⟩
    have hB7 := hB6.below hb7 hB6.lt
    have hX7 := hX6.below hb7 hX6.lt
    have hL7 : Below w.heap.size w w7 := hL6.trans (hb7.mono hL6.size)
    clear hY6 hB6 hX6 hL6 hb7
    go_wp2_with fail
    refine (escape_any (unescZ z) (unescZ_byt hz) _).mono ?_
    rintro e w8 ⟨rfl, hb8⟩
    rw [escB_unesc]
    have hB8 := hB7.below hb8 hB7.lt
    have hX8 := hX7.below hb8 hX7.lt
    have hL8 : Below w.heap.size w w8 := hL7.trans (hb8.mono hL7.size)
    have hn8 := Blk.new w8 28 256 (fun _ => 0)
    have hk8 := hX8.lt
    clear hB7 hX7 hL7 hb8
    go_wp2_with (first | (refine wp_storeBlk rfl (.tmp 9) (.tmp 55) rfl w8.heap.size (escZ (unescZ z)) _ rfl rfl hn8 ?_))
    intro w9 hY9 ho9
    have st : CpSt w z w2.heap.size w8.heap.size w9 := ⟨(hB8.alloc _).only ho9 (by omega), (hX8.alloc _).only ho9 (by omega), hY9, (hL8.alloc hL8.size _).trans (ho9.below hL8.size)⟩
    have q9 := hS9.out
    clear hB8 hX8 hL8 hn8 ho9 hY9 hal hS9
    go_wp2_with fail
    refine wp_region_S (CpSt w z w2.heap.size w8.heap.size) (by kernel_rfl) (by kernel_rfl) ⟨st.b, st.x, st.y, st.bel.drew⟩ ?_
    clear st
    intro hne
    first | go_big_quiet_skip | (go_big_quiet_want; go_big_quiet_op; go_big_quiet_on)
    first | go_big_quiet_skip | (go_big_quiet_want; go_big_quiet_op; go_big_quiet_on)
    first | go_big_quiet_skip | (go_big_quiet_want; go_big_quiet_op; go_big_quiet_on)
    refine q_load rfl 28 (.tmp 3) rfl _ _ rfl (Ks .u8 256 (escZ z)) _ (fun W h => h.x.range) Try.underlying28 rfl (by rw [Ks_length]; exact info_block) ?_
    refine wpQuiet_frame (by simp only [Act.put, List.setIfInBounds_toArray, List.set_cons_succ, List.set_cons_zero]; exact rfl) ?_
    go_big_quiet_want
    go_big_quiet_op
    refine ⟨_, fun s => q_call s (fun W hW => (unescape_any (escZ z) (escZ_byt hz) W).mono fun e w' h => ⟨h.1, hW.below h.2⟩), ?_⟩
    go_big_quiet_on
    refine q_load rfl 28 (.tmp 1) rfl _ _ rfl (Ks .u8 256 z) _ (fun W h => h.b.range) Try.underlying28 rfl (by rw [Ks_length]; exact info_block) ?_
    refine wpQuiet_frame (by simp only [Act.put, List.setIfInBounds_toArray, List.set_cons_succ, List.set_cons_zero]; exact rfl) ?_
    first | go_big_quiet_skip | (go_big_quiet_want; go_big_quiet_op; go_big_quiet_on)
    first | go_big_quiet_skip | (go_big_quiet_want; go_big_quiet_op; go_big_quiet_on)
    first | go_big_quiet_skip | (go_big_quiet_want; go_big_quiet_op; go_big_quiet_on)
    first | go_big_quiet_skip | (go_big_quiet_want; go_big_quiet_op; go_big_quiet_on)
    first | go_big_quiet_skip | (go_big_quiet_want; go_big_quiet_op; go_big_quiet_on)
    first | go_big_quiet_skip | (go_big_quiet_want; go_big_quiet_op; go_big_quiet_on)
    refine q_load rfl 28 (.tmp 9) rfl _ _ rfl (Ks .u8 256 (escZ (unescZ z))) _ (fun W h => h.y.range) Try.underlying28 rfl (by rw [Ks_length]; exact info_block) ?_
    refine wpQuiet_frame (by simp only [Act.put, List.setIfInBounds_toArray, List.set_cons_succ, List.set_cons_zero]; exact rfl) ?_
    go_big_quiet_want
    go_big_quiet_op
    refine ⟨_, fun s => q_call s (fun W hW => (unescape_any (escZ (unescZ z)) (escZ_byt (unescZ_byt hz)) W).mono fun e w' h => ⟨h.1, hW.below h.2⟩), ?_⟩
    go_big_quiet_on
    refine q_load rfl 28 (.tmp 1) rfl _ _ rfl (Ks .u8 256 z) _ (fun W h => h.b.range) Try.underlying28 rfl (by rw [Ks_length]; exact info_block) ?_
    refine wpQuiet_frame (by simp only [Act.put, List.setIfInBounds_toArray, List.set_cons_succ, List.set_cons_zero]; exact rfl) ?_
    go_big_quiet_want
    go_big_quiet_op
    refine ⟨_, fun s => q_call s (fun W hW => (unescape_any z hz W).mono fun e w' h => ⟨h.1, hW.below h.2⟩), ?_⟩
    go_big_quiet_on
    first | go_big_quiet_skip | (go_big_quiet_want; go_big_quiet_op; go_big_quiet_on)
    first | go_big_quiet_skip | (go_big_quiet_want; go_big_quiet_op; go_big_quiet_on)
    first | go_big_quiet_skip | (go_big_quiet_want; go_big_quiet_op; go_big_quiet_on)
    refine wpQuiet_nil ?_
    intro w10 h10
    have hbl : Below w.heap.size w w10 := h10.out.bel
    clear h10 hne
    go_wp2
    go_ret
    exact ⟨rfl, hbl⟩
  | false =>
    have qn : ∀ W, (binOp .neq 28 (bval (escZ z)) (bval z)).run Try.prog W = .ok (.bool false) W := fun W => by rw [HN.out, HQN.out hE, eqB_refl]; rfl
    clear HQU HQN HU HN
    go_wp2_with (first | (refine wp_loadBlkG rfl (.tmp 7) rfl w5.heap.size (escZ z) rfl hY6 ?_) | (refine wp_loadBlkG rfl (.tmp 3) rfl w2.heap.size (escZ z) rfl hX6 ?_) | (refine wp_loadBlkG rfl (.tmp 1) rfl w.heap.size z rfl hB6 ?_))
    refine (unescape_any z hz _).mono ?_
    rintro e w7 ⟨rfl, hb7⟩
    have hB7 := hB6.below hb7 hB6.lt
    have hX7 := hX6.below hb7 hX6.lt
    have hL7 : Below w.heap.size w w7 := hL6.trans (hb7.mono hL6.size)
    clear hY6 hB6 hX6 hL6 hb7
    go_wp2_with fail
    refine (escape_any (unescZ z) (unescZ_byt hz) _).mono ?_
    rintro e w8 ⟨rfl, hb8⟩
    rw [escB_unesc]
    have hB8 := hB7.below hb8 hB7.lt
    have hX8 := hX7.below hb8 hX7.lt
    have hL8 : Below w.heap.size w w8 := hL7.trans (hb8.mono hL7.size)
    have hn8 := Blk.new w8 28 256 (fun _ => 0)
    have hk8 := hX8.lt
    clear hB7 hX7 hL7 hb8
    go_wp2_with (first | (refine wp_storeBlk rfl (.tmp 9) (.tmp 55) rfl w8.heap.size (escZ (unescZ z)) _ rfl rfl hn8 ?_))
    intro w9 hY9 ho9
    have st : CpSt w z w2.heap.size w8.heap.size w9 := ⟨(hB8.alloc _).only ho9 (by omega), (hX8.alloc _).only ho9 (by omega), hY9, (hL8.alloc hL8.size _).trans (ho9.below hL8.size)⟩
    have q9 := hS9.out
    clear hB8 hX8 hL8 hn8 ho9 hY9 hal hS9
    go_wp2_with fail
    refine wp_region_S (CpSt w z w2.heap.size w8.heap.size) (by kernel_rfl) (by kernel_rfl) ⟨st.b, st.x, st.y, st.bel.drew⟩ ?_
    clear st
    intro hne
    first | go_big_quiet_skip | (go_big_quiet_want; go_big_quiet_op; go_big_quiet_on)
    first | go_big_quiet_skip | (go_big_quiet_want; go_big_quiet_op; go_big_quiet_on)
    first | go_big_quiet_skip | (go_big_quiet_want; go_big_quiet_op; go_big_quiet_on)
    first | go_big_quiet_skip | (go_big_quiet_want; go_big_quiet_op; go_big_quiet_on)
    first | go_big_quiet_skip | (go_big_quiet_want; go_big_quiet_op; go_big_quiet_on)
    first | go_big_quiet_skip | (go_big_quiet_want; go_big_quiet_op; go_big_quiet_on)
    first | go_big_quiet_skip | (go_big_quiet_want; go_big_quiet_op; go_big_quiet_on)
    first | go_big_quiet_skip | (go_big_quiet_want; go_big_quiet_op; go_big_quiet_on)
    first | go_big_quiet_skip | (go_big_quiet_want; go_big_quiet_op; go_big_quiet_on)
    first | go_big_quiet_skip | (go_big_quiet_want; go_big_quiet_op; go_big_quiet_on)
    first | go_big_quiet_skip | (go_big_quiet_want; go_big_quiet_op; go_big_quiet_on)
    first | go_big_quiet_skip | (go_big_quiet_want; go_big_quiet_op; go_big_quiet_on)
    refine q_load rfl 28 (.tmp 9) rfl _ _ rfl (Ks .u8 256 (escZ (unescZ z))) _ (fun W h => h.y.range) Try.underlying28 rfl (by rw [Ks_length]; exact info_block) ?_
    refine wpQuiet_frame (by simp only [Act.put, List.setIfInBounds_toArray, List.set_cons_succ, List.set_cons_zero]; exact rfl) ?_
    go_big_quiet_want
    go_big_quiet_op
    refine ⟨_, fun s => q_call s (fun W hW => (unescape_any (escZ (unescZ z)) (escZ_byt (unescZ_byt hz)) W).mono fun e w' h => ⟨h.1, hW.below h.2⟩), ?_⟩
    go_big_quiet_on
    refine q_load rfl 28 (.tmp 1) rfl _ _ rfl (Ks .u8 256 z) _ (fun W h => h.b.range) Try.underlying28 rfl (by rw [Ks_length]; exact info_block) ?_
    refine wpQuiet_frame (by simp only [Act.put, List.setIfInBounds_toArray, List.set_cons_succ, List.set_cons_zero]; exact rfl) ?_
    go_big_quiet_want
    go_big_quiet_op
    refine ⟨_, fun s => q_call s (fun W hW => (unescape_any z hz W).mono fun e w' h => ⟨h.1, hW.below h.2⟩), ?_⟩
    go_big_quiet_on
    first | go_big_quiet_skip | (go_big_quiet_want; go_big_quiet_op; go_big_quiet_on)
    first | go_big_quiet_skip | (go_big_quiet_want; go_big_quiet_op; go_big_quiet_on)
    first | go_big_quiet_skip | (go_big_quiet_want; go_big_quiet_op; go_big_quiet_on)
    refine wpQuiet_nil ?_
    intro w10 h10
    have hbl : Below w.heap.size w w10 := h10.out.bel
    clear h10 hne
    go_wp2
    go_ret
    exact ⟨rfl, hbl⟩
end Go.Proofs.Ytahobhifafiaeaa
