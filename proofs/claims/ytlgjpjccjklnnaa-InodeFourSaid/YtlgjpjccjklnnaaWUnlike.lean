/- The walk of the law InodeUnlike. -/
import Derived.Test.YtlgjpjccjklnnaaAwake7
import Derived.Test.YtlgjpjccjklnnaaCopy2
namespace Go.Proofs.Ytlgjpjccjklnnaa
open Go.RowKit Go.Shelf
set_option linter.unusedVariables false

theorem word_congr {x y : Ino} (h : inoEq x y = true) (k : Nat) (hk : k < 14) : x.word k = y.word k := by
  obtain ⟨_, _, h3, h4, h5, h6⟩ := (inoEq_iff x y).1 h
  unfold Ino.word
  split
  · exact h3
  · split
    · exact h4
    · split
      · exact h5 _ (by omega)
      · exact h6
theorem byte_congr {x y : Ino} (h : inoEq x y = true) (i : Nat) : x.byte i = y.byte i := by
  obtain ⟨h1, h2, _⟩ := (inoEq_iff x y).1 h
  unfold Ino.byte
  split
  · exact h1
  · split
    · rfl
    · split
      · rw [h2]
      · split
        · rw [word_congr h _ (by omega)]
        · rfl
theorem inoEq_symm {x y : Ino} (h : inoEq x y = true) : inoEq y x = true := by
  obtain ⟨h1, h2, h3, h4, h5, h6⟩ := (inoEq_iff x y).1 h
  exact (inoEq_iff y x).2 ⟨h1.symm, h2.symm, h3.symm, h4.symm, fun i hi => (h5 i hi).symm, h6.symm⟩
theorem inoEq_trans {x y v : Ino} (h : inoEq x y = true) (g : inoEq y v = true) : inoEq x v = true := by
  obtain ⟨h1, h2, h3, h4, h5, h6⟩ := (inoEq_iff x y).1 h
  obtain ⟨g1, g2, g3, g4, g5, g6⟩ := (inoEq_iff y v).1 g
  exact (inoEq_iff x v).2 ⟨h1.trans g1, h2.trans g2, h3.trans g3, h4.trans g4, fun i hi => (h5 i hi).trans (g5 i hi), h6.trans g6⟩
/-- two inodes that may be have one form just if they are the same -/
theorem unlike_law (z : Nat → Int) (x y : Ino) (hx : x.Ok) (hy : y.Ok) (mx : x.May) (my : y.May) : eqB (over z 64 64 x.byte) (over z 64 64 y.byte) 256 = inoEq x y := by
  rw [Bool.eq_iff_iff, eqB_iff]
  constructor
  · intro h
    have hc := (inoOf_congr 64 (z := over z 64 64 x.byte) (y := over z 64 64 y.byte) (fun j h1 h2 => h j (by omega))).1
    exact inoEq_trans (inoEq_trans (inoEq_symm (put_get z 64 x hx mx)) hc) (put_get z 64 y hy my)
  · intro h i hi
    unfold over
    split
    · exact byte_congr h _
    · rfl
theorem putErr64 (x : Ino) : putErr 64 x = if x.May then 0 else 70 := by
  unfold putErr
  rw [show placeB 64 = true by decide]
  by_cases h : x.May <;> simp [h]
theorem putZ64 (z : Nat → Int) (x : Ino) (h : x.May) : putZ z 64 x = over z 64 64 x.byte := by
  unfold putZ putOk
  rw [show placeB 64 = true by decide, decide_eq_true h]; rfl

set_option maxRecDepth 100000 in
set_option maxHeartbeats 4000000 in
theorem unlike_walk (z : Nat → Int) (hz : Byt z) (x y : Ino) (hx : x.Ok) (hy : y.Ok) (w : World) :
    Calls Try.prog 7 #[bval z, x.val, y.val] w fun e w' => e = .returned (.bool true) ∧ Below w.heap.size w w' := by
  have hb0 : Below w.heap.size w (((w.alloc (.cells (Ks .u8 256 z).toArray 23)).alloc (.cells x.arr 27)).alloc (.cells y.arr 27)) := (((Below.refl _ _).alloc (Nat.le_refl _) _).alloc (by simp) _).alloc (by simp; omega) _
  have hB0 : Blk (((w.alloc (.cells (Ks .u8 256 z).toArray 23)).alloc (.cells x.arr 27)).alloc (.cells y.arr 27)) w.heap.size 23 256 z := ((Blk.new _ _ _ _).alloc _).alloc _
  have hx0 : InoAt (((w.alloc (.cells (Ks .u8 256 z).toArray 23)).alloc (.cells x.arr 27)).alloc (.cells y.arr 27)) (w.heap.size + 1) 27 x := by
    have := (InoAt.new (w.alloc (.cells (Ks .u8 256 z).toArray 23)) x).alloc (.cells y.arr 27)
    simp only [World.size_alloc] at this; exact this
  have hy0 : InoAt (((w.alloc (.cells (Ks .u8 256 z).toArray 23)).alloc (.cells x.arr 27)).alloc (.cells y.arr 27)) (w.heap.size + 1 + 1) 27 y := by
    have := InoAt.new ((w.alloc (.cells (Ks .u8 256 z).toArray 23)).alloc (.cells x.arr 27)) y
    simp only [World.size_alloc] at this; exact this
  have HB := Lib.hid hB0
  have HX := Lib.hid hx0
  have HY := Lib.hid hy0
  have HL := Lib.hid hb0
  clear hB0 hx0 hy0 hb0
  go_enter Try.func7, Try.ntmps7
  go_wp2_with fail
  refine (awake7 _).mono ?_
  rintro e w1 ⟨rfl, hb1⟩
  have hB := HB.out.below hb1 HB.out.lt
  have hX := HX.out.below hb1 HX.out.lt
  have hY := HY.out.below hb1 HY.out.lt
  have hL : Below w.heap.size w w1 := HL.out.trans (hb1.mono HL.out.size)
  clear HB HX HY HL hb1
  go_wp2_with fail
  refine wp_copy2 3 13 14 7 8 w.heap.size z rfl hB (by decide) (by simp) (by kernel_rfl) (fun l h => by simp [upB, Region.binds] at h; simp [h]) (fun l h => by simp [upB, Region.binds] at h; simp [h]) ?_
  intro g k w2 hgk hg hk hG hK hb2
  simp only [Act.put, List.setIfInBounds_toArray, List.set_cons_succ, List.set_cons_zero]
  have hx2 := hX.below hb2 hX.lt
  have hy2 := hY.below hb2 hY.lt
  have hl2 : Below w.heap.size w w2 := hL.trans (hb2.mono hL.size)
  have hX1 := hX.lt
  have hY1 := hY.lt
  clear hb2 hB hX hY hL
  go_wp2_with fail
  refine wp_region_lin (fun j W => InoAt W (w.heap.size + 1) 27 x ∧ InoAt W (w.heap.size + 1 + 1) 27 y ∧ Blk W g 23 256 (if 1 ≤ j then putZ z 64 x else z) ∧ Blk W k 23 256 (if 2 ≤ j then putZ z 64 y else z) ∧ Below w.heap.size w W) (by kernel_rfl) (by kernel_rfl) (by kernel_rfl) ⟨hx2, hy2, hG, hK, hl2.drew⟩ ?_
  intro hne
  (refine lin_take 1 (by kernel_rfl) ?_; simp only [List.take_succ_cons, List.take_zero, List.drop_succ_cons, List.drop_zero])
  refine q_load rfl 27 (.tmp 4) rfl _ _ rfl x.arr.toList _ (fun W h => let ⟨_, h⟩ := h; h.1.range) Try.underlying27 rfl (by kernel_rfl) ?_
  refine wpQuiet_frame (by simp only [Act.put, List.setIfInBounds_toArray, List.set_cons_succ, List.set_cons_zero]; exact rfl) ?_
  refine wpQuiet_nil ?_
  refine lin_call rfl rfl 10 #[.pointer (some ⟨g, 0, none⟩), .int .i64 64, x.val] (.int .i64 (putErr 64 x)) (fun W => by kernel_rfl) (fun W h => ?c1) ?_
  case c1 =>
    refine (inoPut_any g 23 z hz 64 x hx W h.2.2.1 (by decide) (by decide)).mono ?_
    rintro e w6 ⟨rfl, hz6, hg6⟩
    exact ⟨rfl, (hg6.block _ h.1.lt (by simp; omega)).trans h.1, (hg6.block _ h.2.1.lt (by simp; omega)).trans h.2.1, hz6, (hg6.block _ h.2.2.2.1.lt (by simp; omega)).trans h.2.2.2.1, h.2.2.2.2.grown hg6 h.2.2.2.2.size (fun j e => by cases e; omega)⟩
  refine wpLin_frame (by simp only [Act.put, List.setIfInBounds_toArray, List.set_cons_succ, List.set_cons_zero]; exact rfl) ?_
  (refine lin_take 1 (by kernel_rfl) ?_; simp only [List.take_succ_cons, List.take_zero, List.drop_succ_cons, List.drop_zero])
  refine q_load rfl 27 (.tmp 5) rfl _ _ rfl y.arr.toList _ (fun W h => let ⟨_, h⟩ := h; h.2.1.range) Try.underlying27 rfl (by kernel_rfl) ?_
  refine wpQuiet_frame (by simp only [Act.put, List.setIfInBounds_toArray, List.set_cons_succ, List.set_cons_zero]; exact rfl) ?_
  refine wpQuiet_nil ?_
  refine lin_call rfl rfl 10 #[.pointer (some ⟨k, 0, none⟩), .int .i64 64, y.val] (.int .i64 (putErr 64 y)) (fun W => by kernel_rfl) (fun W h => ?c2) ?_
  case c2 =>
    refine (inoPut_any k 23 z hz 64 y hy W h.2.2.2.1 (by decide) (by decide)).mono ?_
    rintro e w6 ⟨rfl, hz6, hg6⟩
    exact ⟨rfl, (hg6.block _ h.1.lt (by simp; omega)).trans h.1, (hg6.block _ h.2.1.lt (by simp; omega)).trans h.2.1, (hg6.block _ h.2.2.1.lt (by simp; omega)).trans h.2.2.1, hz6, h.2.2.2.2.grown hg6 h.2.2.2.2.size (fun j e => by cases e; omega)⟩
  refine wpLin_frame (by simp only [Act.put, List.setIfInBounds_toArray, List.set_cons_succ, List.set_cons_zero]; exact rfl) ?_
  (refine lin_take 2 (by kernel_rfl) ?_; simp only [List.take_succ_cons, List.take_zero, List.drop_succ_cons, List.drop_zero])
  first | go_big_quiet_skip | (go_big_quiet_want; go_big_quiet_op; go_big_quiet_on)
  first | go_big_quiet_skip | (go_big_quiet_want; go_big_quiet_op; go_big_quiet_on)
  refine wpQuiet_nil ?_
  refine wpLin_nil ?_
  rintro w3 ⟨hx3, hy3, hG3, hK3, hl3⟩
  rw [if_pos (by decide)] at hG3 hK3
  clear hne hx2 hy2 hG hK hl2
  rw [putErr64, putErr64]
  by_cases mx : x.May
  rotate_left
  · rw [if_neg mx]
    by_cases my : y.May
    · rw [if_pos my]
      clear mx my
      go_wp2_with fail
      refine wp_region_S (fun W => Below w.heap.size w W) (by kernel_rfl) (by kernel_rfl) hl3.drew ?_
      intro hne
      repeat (first | go_big_quiet_skip | (go_big_quiet_want; go_big_quiet_op; go_big_quiet_on))
      refine wpQuiet_nil ?_
      intro w5 h5
      have hbl5 : Below w.heap.size w w5 := h5.out
      clear h5 hne
      go_wp2
      go_ret
      exact ⟨rfl, hbl5⟩
    · rw [if_neg my]
      clear mx my
      go_wp2_with fail
      refine wp_region_S (fun W => Below w.heap.size w W) (by kernel_rfl) (by kernel_rfl) hl3.drew ?_
      intro hne
      repeat (first | go_big_quiet_skip | (go_big_quiet_want; go_big_quiet_op; go_big_quiet_on))
      refine wpQuiet_nil ?_
      intro w5 h5
      have hbl5 : Below w.heap.size w w5 := h5.out
      clear h5 hne
      go_wp2
      go_ret
      exact ⟨rfl, hbl5⟩
  rw [if_pos mx]
  by_cases my : y.May
  rotate_left
  · rw [if_neg my]
    clear mx my
    go_wp2_with fail
    refine wp_region_S (fun W => Below w.heap.size w W) (by kernel_rfl) (by kernel_rfl) hl3.drew ?_
    intro hne
    repeat (first | go_big_quiet_skip | (go_big_quiet_want; go_big_quiet_op; go_big_quiet_on))
    refine wpQuiet_nil ?_
    intro w5 h5
    have hbl5 : Below w.heap.size w w5 := h5.out
    clear h5 hne
    go_wp2
    go_ret
    exact ⟨rfl, hbl5⟩
  rw [if_pos my]
  rw [putZ64 z x mx] at hG3
  rw [putZ64 z y my] at hK3
  have hq := fun W => run_eql_block (over z 64 64 x.byte) (over z 64 64 y.byte) W
  rw [unlike_law z x y hx hy mx my] at hq
  have hr := fun W => run_eql_ino x y W
  have hqe : (inoEq x y == inoEq x y) = true := by simp
  generalize inoEq x y = B at hq hr hqe
  generalize over z 64 64 x.byte = zx at hq hG3
  generalize over z 64 64 y.byte = zy at hq hK3
  clear mx my
  go_wp2_with fail
  refine wp_region_S (fun W => W.rangeAt g 0 (Ks .u8 256 zx) ∧ W.rangeAt k 0 (Ks .u8 256 zy) ∧ W.rangeAt (w.heap.size + 1) 0 x.arr.toList ∧ W.rangeAt (w.heap.size + 1 + 1) 0 y.arr.toList ∧ Below w.heap.size w W) (by kernel_rfl) (by kernel_rfl) ⟨hG3.range, hK3.range, hx3.range, hy3.range, hl3.drew⟩ ?_
  intro hne
  first | go_big_quiet_skip | (go_big_quiet_want; go_big_quiet_op; go_big_quiet_on)
  first | go_big_quiet_skip | (go_big_quiet_want; go_big_quiet_op; go_big_quiet_on)
  first | go_big_quiet_skip | (go_big_quiet_want; go_big_quiet_op; go_big_quiet_on)
  first | go_big_quiet_skip | (go_big_quiet_want; go_big_quiet_op; go_big_quiet_on)
  first | go_big_quiet_skip | (go_big_quiet_want; go_big_quiet_op; go_big_quiet_on)
  first | go_big_quiet_skip | (go_big_quiet_want; go_big_quiet_op; go_big_quiet_on)
  first | go_big_quiet_skip | (go_big_quiet_want; go_big_quiet_op; go_big_quiet_on)
  refine q_load rfl 23 (.tmp 7) rfl _ _ rfl (Ks .u8 256 zx) _ (fun W h => h.1) Try.underlying23 rfl (by rw [Ks_length]; exact info_block) ?_
  refine wpQuiet_frame (by simp only [Act.put, List.setIfInBounds_toArray, List.set_cons_succ, List.set_cons_zero]; exact rfl) ?_
  refine q_load rfl 23 (.tmp 8) rfl _ _ rfl (Ks .u8 256 zy) _ (fun W h => h.2.1) Try.underlying23 rfl (by rw [Ks_length]; exact info_block) ?_
  refine wpQuiet_frame (by simp only [Act.put, List.setIfInBounds_toArray, List.set_cons_succ, List.set_cons_zero]; exact rfl) ?_
  first | go_big_quiet_skip | (go_big_quiet_want; go_big_quiet_op; go_big_quiet_on)
  refine q_load rfl 27 (.tmp 4) rfl _ _ rfl x.arr.toList _ (fun W h => h.2.2.1) Try.underlying27 rfl (by kernel_rfl) ?_
  refine wpQuiet_frame (by simp only [Act.put, List.setIfInBounds_toArray, List.set_cons_succ, List.set_cons_zero]; exact rfl) ?_
  refine q_load rfl 27 (.tmp 5) rfl _ _ rfl y.arr.toList _ (fun W h => h.2.2.2.1) Try.underlying27 rfl (by kernel_rfl) ?_
  refine wpQuiet_frame (by simp only [Act.put, List.setIfInBounds_toArray, List.set_cons_succ, List.set_cons_zero]; exact rfl) ?_
  first | go_big_quiet_skip | (go_big_quiet_want; go_big_quiet_op; go_big_quiet_on)
  first | go_big_quiet_skip | (go_big_quiet_want; go_big_quiet_op; go_big_quiet_on)
  first | go_big_quiet_skip | (go_big_quiet_want; go_big_quiet_op; go_big_quiet_on)
  first | go_big_quiet_skip | (go_big_quiet_want; go_big_quiet_op; go_big_quiet_on)
  refine wpQuiet_nil ?_
  intro w5 h5
  have hbl5 : Below w.heap.size w w5 := h5.out.2.2.2.2
  clear h5 hne
  go_wp2
  go_ret
  exact ⟨rfl, hbl5⟩
end Go.Proofs.Ytlgjpjccjklnnaa
