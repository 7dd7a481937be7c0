/- The walk of the law InodeFour. -/
import Derived.Test.YtlgjpjccjklnnaaWBack7
namespace Go.Proofs.Ytlgjpjccjklnnaa
open Go.RowKit Go.Shelf
set_option linter.unusedVariables false

/-- the k-th of four -/
def four (x y u v : Ino) : Nat → Ino
  | 0 => x
  | 1 => y
  | 2 => u
  | _ => v
theorem run_build4 (x y u v : Ino) (w : World) : (Instr.buildSlice 43 4 #[(0, x.val), (1, y.val), (2, u.val), (3, v.val)]).run Try.prog w = .ok (.slice (some ⟨w.heap.size, 0, none⟩) 4 4) (w.alloc (.cells (x.arr.toList ++ y.arr.toList ++ u.arr.toList ++ v.arr.toList).toArray 27)) := by kernel_rfl
/-- heap block g holds the four -/
def FourAt (w : World) (g : Nat) (x y u v : Ino) : Prop := w.heap[g]? = some (.cells (x.arr.toList ++ y.arr.toList ++ u.arr.toList ++ v.arr.toList).toArray 27 (0, 0))
theorem four_cell (x y u v : Ino) (k j : Nat) (hk : k < 4) (hj : j < 16) : (x.arr.toList ++ y.arr.toList ++ u.arr.toList ++ v.arr.toList)[16 * k + j]? = (four x y u v k).arr.toList[j]? := by
  obtain rfl | rfl | rfl | rfl : k = 0 ∨ k = 1 ∨ k = 2 ∨ k = 3 := by omega
  all_goals
    obtain rfl | rfl | rfl | rfl | rfl | rfl | rfl | rfl | rfl | rfl | rfl | rfl | rfl | rfl | rfl | rfl : j = 0 ∨ j = 1 ∨ j = 2 ∨ j = 3 ∨ j = 4 ∨ j = 5 ∨ j = 6 ∨ j = 7 ∨ j = 8 ∨ j = 9 ∨ j = 10 ∨ j = 11 ∨ j = 12 ∨ j = 13 ∨ j = 14 ∨ j = 15 := by omega
    all_goals rfl
theorem FourAt.range {w : World} {g : Nat} {x y u v : Ino} (h : FourAt w g x y u v) (k : Nat) (hk : k < 4) : w.rangeAt g (k * 16) (four x y u v k).arr.toList := by
  rw [Nat.mul_comm]
  intro j c hj
  have hl : j < 16 := by
    have := (List.getElem?_eq_some_iff.1 hj).1
    simpa using this
  refine cell_of_heap h ?_
  rw [List.getElem?_toArray, four_cell x y u v k j hk hl]
  exact hj
theorem FourAt.below' {w w' : World} {g : Nat} {x y u v : Ino} (h : FourAt w g x y u v) (hb : Below w.heap.size w w') : FourAt w' g x y u v := (hb.block g (Array.getElem?_eq_some_iff.1 h).1).trans h
theorem FourAt.only {w w' : World} {g b : Nat} {x y u v : Ino} (h : FourAt w g x y u v) (hb : Only b w w') (hg : g ≠ b) : FourAt w' g x y u v := (hb.block g hg).trans h
theorem FourAt.lt {w : World} {g : Nat} {x y u v : Ino} (h : FourAt w g x y u v) : g < w.heap.size := (Array.getElem?_eq_some_iff.1 h).1
theorem FourAt.alloc {w : World} {g : Nat} {x y u v : Ino} (h : FourAt w g x y u v) (o : Obj) : FourAt (w.alloc o) g x y u v := heap_alloc_keep h o
/-- the bytes, i of them being put, from f on -/
def fourZ (q : Nat → Ino) (f i : Nat) (j : Nat) : Int := if (j / 64 + 4 - f) % 4 < i ∧ (q (j / 64)).May then (q (j / 64)).byte (j % 64) else 0
theorem fourZ_zero (q : Nat → Ino) (f : Nat) (j : Nat) : fourZ q f 0 j = 0 := by unfold fourZ; rw [if_neg (by omega)]
theorem place64 (k : Nat) (hk : k < 4) : placeB (64 * (k : Int)) = true := (placeB_iff _).2 (by omega)
theorem putErr64k (k : Nat) (hk : k < 4) (x : Ino) : putErr (64 * (k : Int)) x = if x.May then 0 else 70 := by
  unfold putErr
  rw [place64 k hk]
  by_cases h : x.May <;> simp [h]
theorem fourZ_next (q : Nat → Ino) (f i : Nat) (hf : f < 4) (hi : i < 4) (j : Nat) (hj : j < 256) : putZ (fourZ q f i) (64 * (((f + i) % 4 : Nat) : Int)) (q ((f + i) % 4)) j = fourZ q f (i + 1) j := by
  have hk : (f + i) % 4 < 4 := by omega
  unfold putZ putOk
  rw [place64 _ hk, Bool.true_and, show (64 * (((f + i) % 4 : Nat) : Int)).toNat = 64 * ((f + i) % 4) by omega]
  have hne : ¬ j / 64 = (f + i) % 4 → fourZ q f i j = fourZ q f (i + 1) j := fun h => by
    unfold fourZ
    by_cases c : (j / 64 + 4 - f) % 4 < i
    · have c' : (j / 64 + 4 - f) % 4 < i + 1 := by omega
      simp only [c, c', true_and]
    · have c' : ¬ (j / 64 + 4 - f) % 4 < i + 1 := by omega
      simp only [c, c', false_and, if_false]
  have heq : j / 64 = (f + i) % 4 → (j / 64 + 4 - f) % 4 = i := fun h => by omega
  by_cases hm : (q ((f + i) % 4)).May
  · rw [decide_eq_true hm, if_pos rfl]
    by_cases h : j / 64 = (f + i) % 4
    · rw [over_in _ _ _ _ _ (by omega)]
      unfold fourZ
      rw [if_pos ⟨by have := heq h; omega, by rw [h]; exact hm⟩, h, show j - 64 * ((f + i) % 4) = j % 64 by omega]
    · rw [over_out _ _ _ _ _ (by omega)]
      exact hne h
  · rw [decide_eq_false hm]
    show fourZ q f i j = fourZ q f (i + 1) j
    by_cases h : j / 64 = (f + i) % 4
    · unfold fourZ
      have : ¬ (q (j / 64)).May := by rw [h]; exact hm
      simp only [this, and_false, if_false]
    · exact hne h
theorem fourZ_byt {q : Nat → Ino} (hq : ∀ k, (q k).Ok) (f i : Nat) : Byt (fourZ q f i) := by
  intro j
  unfold fourZ
  split
  · rename_i h
    have := Ino.byt_stage (hq (j / 64)) (Ino.may_bd h.2).2.2 14 (j % 64)
    rwa [Ino.stage_all] at this
  · exact byt0 j
theorem zero_get (i : Nat) : inoEq (inoOf (fun _ => 0) i) .nil = true ∧ getOkB (fun _ => 0) i = true := by
  have h : inoEq (inoOf (fun _ => 0) i) .nil = true := (inoEq_iff _ _).2 ⟨rfl, rfl, rfl, rfl, fun _ _ => rfl, rfl⟩
  refine ⟨h, ?_⟩
  unfold getOkB
  rw [decide_eq_true ((May_congr h).2 (by decide))]
  rfl
/-- each one is got -/
theorem fourZ_got {q : Nat → Ino} (hq : ∀ k, (q k).Ok) (f k : Nat) (hf : f < 4) (hk : k < 4) : getErr (fourZ q f 4) (64 * (k : Int)) = 0 ∧ inoEq (getIno (fourZ q f 4) (64 * (k : Int))) (if (q k).May then q k else .nil) = true := by
  by_cases hm : (q k).May
  · rw [if_pos hm]
    have hok : putOk (64 * (k : Int)) (q k) = true := by unfold putOk; rw [place64 k hk, decide_eq_true hm]; rfl
    refine got_of (z := fun _ => 0) (hq k) hok fun j h1 h2 => ?_
    rw [show (64 * (k : Int)).toNat = 64 * k by omega] at h1 h2 ⊢
    rw [over_in _ _ _ _ _ ⟨h1, h2⟩]
    unfold fourZ
    have e : j / 64 = k := by omega
    rw [e, if_pos ⟨by omega, hm⟩, show j % 64 = j - 64 * k by omega]
  · rw [if_neg hm]
    have hz : ∀ j, 64 * k ≤ j → j < 64 * k + 64 → fourZ q f 4 j = (fun _ => (0 : Int)) j := fun j h1 h2 => by
      unfold fourZ
      have e : j / 64 = k := by omega
      rw [e, if_neg (fun h => hm h.2)]
    obtain ⟨c1, c2⟩ := inoOf_congr (64 * k) hz
    obtain ⟨d1, d2⟩ := zero_get (64 * k)
    unfold getErr getIno
    rw [place64 k hk, show (64 * (k : Int)).toNat = 64 * k by omega, c2, d2]
    exact ⟨rfl, inoEq_trans c1 d1⟩

/-- what stands in a round, j calls being over -/
structure FourC (w : World) (g : Nat) (x y u v : Ino) (f i j : Nat) (W : World) : Prop where
  F : FourAt W g x y u v
  Z : Blk W (g + 1) 23 256 (if j = 0 then fourZ (four x y u v) f i else fourZ (four x y u v) f (i + 1))
  X : InoAt W w.heap.size 27 x
  L : Below w.heap.size w W

set_option maxRecDepth 100000 in
set_option maxHeartbeats 4000000 in
theorem four_walk (x y u v : Ino) (hx : x.Ok) (hy : y.Ok) (hu : u.Ok) (hv : v.Ok) (a : Int) (w : World) (ha : -9223372036854775808 ≤ a ∧ a ≤ 9223372036854775807) :
    Calls Try.prog 8 #[x.val, y.val, u.val, v.val, .int .i64 a] w fun e w' => e = .returned (.bool true) ∧ Below w.heap.size w w' := by
  obtain ⟨W0, hW0⟩ : ∃ W0, W0 = (((w.alloc (.cells x.arr 27)).alloc (.cells y.arr 27)).alloc (.cells u.arr 27)).alloc (.cells v.arr 27) := ⟨_, rfl⟩
  have hb0 : Below w.heap.size w W0 := by rw [hW0]; exact ((((Below.refl _ _).alloc (Nat.le_refl _) _).alloc (by simp) _).alloc (by simp; omega) _).alloc (by simp; omega) _
  have hx0 : InoAt W0 w.heap.size 27 x := by
    rw [hW0]; exact (((InoAt.new w x).alloc _).alloc _).alloc _
  have hy0 : InoAt W0 (w.heap.size + 1) 27 y := by
    rw [hW0]
    have := ((InoAt.new (w.alloc (.cells x.arr 27)) y).alloc (.cells u.arr 27)).alloc (.cells v.arr 27)
    simp only [World.size_alloc] at this; exact this
  have hu0 : InoAt W0 (w.heap.size + 1 + 1) 27 u := by
    rw [hW0]
    have := (InoAt.new ((w.alloc (.cells x.arr 27)).alloc (.cells y.arr 27)) u).alloc (.cells v.arr 27)
    simp only [World.size_alloc] at this; exact this
  have hv0 : InoAt W0 (w.heap.size + 1 + 1 + 1) 27 v := by
    rw [hW0]
    have := InoAt.new (((w.alloc (.cells x.arr 27)).alloc (.cells y.arr 27)).alloc (.cells u.arr 27)) v
    simp only [World.size_alloc] at this; exact this
  have HW := Lib.hid hW0
  have HX := Lib.hid hx0
  have HY := Lib.hid hy0
  have HU := Lib.hid hu0
  have HV := Lib.hid hv0
  have HL := Lib.hid hb0
  clear hx0 hy0 hu0 hv0 hb0 hW0
  obtain ⟨ha0, ha1⟩ := ha
  go_enter Try.func8, Try.ntmps8
  go_wp2_with fail
  rw [← HW.out]
  refine (awake7 _).mono ?_
  rintro e w1 ⟨rfl, hb1⟩
  have hX := HX.out.below hb1 HX.out.lt
  have hY := HY.out.below hb1 HY.out.lt
  have hU := HU.out.below hb1 HU.out.lt
  have hV := HV.out.below hb1 HV.out.lt
  have hL : Below w.heap.size w w1 := HL.out.trans (hb1.mono HL.out.size)
  clear HX HY HU HV HL HW hb1
  have hbs := run_build4 x y u v
  have hal := zero_block
  have t1 : -4 < a.tmod 4 := by have := Int.lt_tmod_of_pos a (b := 4) (by decide); simpa using this
  have t2 : a.tmod 4 < 4 := Int.tmod_lt_of_pos a (by decide)
  have t3 : (0 : Int) ≤ a.tmod 4 + 4 := by omega
  go_wp2_with (first | (refine wp_loadIno rfl (.tmp 5) rfl w.heap.size x rfl hX ?_) | (refine wp_loadIno rfl (.tmp 6) rfl (w.heap.size + 1) y rfl hY ?_) | (refine wp_loadIno rfl (.tmp 7) rfl (w.heap.size + 1 + 1) u rfl hU ?_) | (refine wp_loadIno rfl (.tmp 8) rfl (w.heap.size + 1 + 1 + 1) v rfl hV ?_))
  obtain ⟨f, hf⟩ := Int.eq_ofNat_of_zero_le (show 0 ≤ (a.tmod 4 + 4) % 4 by omega)
  have hf4 : f < 4 := by omega
  rw [hf]
  clear hf t1 t2 t3
  have hx1 := hX.lt
  have hF2 : FourAt ((w1.alloc (.cells (x.arr.toList ++ y.arr.toList ++ u.arr.toList ++ v.arr.toList).toArray 27)).alloc (.cells (Ks .u8 256 (fun _ => 0)).toArray 23)) w1.heap.size x y u v := heap_alloc_keep (heap_alloc_new w1 _) _
  have hZ2 : Blk ((w1.alloc (.cells (x.arr.toList ++ y.arr.toList ++ u.arr.toList ++ v.arr.toList).toArray 27)).alloc (.cells (Ks .u8 256 (fun _ => 0)).toArray 23)) (w1.heap.size + 1) 23 256 (fourZ (four x y u v) f 0) := by
    have := Blk.new (w1.alloc (.cells (x.arr.toList ++ y.arr.toList ++ u.arr.toList ++ v.arr.toList).toArray 27)) 23 256 (fun _ => 0)
    simp only [World.size_alloc] at this
    exact this.congr fun j _ => (fourZ_zero _ _ _).symm
  have hX2 : InoAt ((w1.alloc (.cells (x.arr.toList ++ y.arr.toList ++ u.arr.toList ++ v.arr.toList).toArray 27)).alloc (.cells (Ks .u8 256 (fun _ => 0)).toArray 23)) w.heap.size 27 x := (hX.alloc _).alloc _
  have hL2 : Below w.heap.size w ((w1.alloc (.cells (x.arr.toList ++ y.arr.toList ++ u.arr.toList ++ v.arr.toList).toArray 27)).alloc (.cells (Ks .u8 256 (fun _ => 0)).toArray 23)) := (hL.alloc hL.size _).alloc (by simp; omega) _
  have hq : Hid (∀ k, (four x y u v k).Ok) := fun k => by
    unfold four; split <;> assumption
  clear hX hY hU hV hL hbs hal hy hu hv
  change Code.wp _ _ _ _ ((w1.alloc (.cells (x.arr.toList ++ y.arr.toList ++ u.arr.toList ++ v.arr.toList).toArray 27)).alloc (.cells (Ks .u8 256 (fun _ => 0)).toArray 23))
  generalize (w1.alloc (.cells (x.arr.toList ++ y.arr.toList ++ u.arr.toList ++ v.arr.toList).toArray 27)).alloc (.cells (Ks .u8 256 (fun _ => 0)).toArray 23) = w2 at hF2 hZ2 hX2 hL2 ⊢
  go_loopw [13] (fun s wr => ∃ i : Nat, i ≤ 4 ∧ s = .int .i64 (i : Int) ∧ FourAt wr w1.heap.size x y u v ∧ Blk wr (w1.heap.size + 1) 23 256 (fourZ (four x y u v) f i) ∧ InoAt wr w.heap.size 27 x ∧ Below w.heap.size w wr) (fun s _ => 4 - (intOf s).toNat)
  case atStart => exact ⟨0, by omega, rfl, hF2, hZ2, hX2, hL2⟩
  case round =>
    clear hF2 hZ2 hX2 hL2
    obtain ⟨i, hi, rfl, hF, hZ, hX, hL⟩ := hrel
    by_cases hlt : i < 4
    · obtain ⟨k, hk⟩ : ∃ k, k = (f + i) % 4 := ⟨_, rfl⟩
      have hk4 : k < 4 := by omega
      have HK := Lib.hid hk
      have ek : ((f : Int) + (i : Int)) % 4 = (k : Int) := by omega
      have hnx : Hid (∀ j, j < 256 → putZ (fourZ (four x y u v) f i) (64 * (k : Int)) (four x y u v k) j = fourZ (four x y u v) f (i + 1) j) := fun j hj => by have := fourZ_next (four x y u v) f i hf4 hlt j hj; rw [← hk] at this; exact this
      have hpe := putErr64k k hk4 (four x y u v k)
      have HPE := Lib.hid hpe
      clear hk hpe
      go_wp2_with fail
      rw [ek]
      clear ek
      have e1 : IntKind.i64.wrap (64 * (k : Int)) = 64 * (k : Int) := IntWalk.i64_in _ (by omega)
      have l0 : (0 : Int) ≤ (k : Int) := by omega
      have l1 : (k : Int) < 4 := by omega
      obtain ⟨B, hB⟩ : ∃ B, B = decide (four x y u v k).May := ⟨_, rfl⟩
      have hE : putErr (64 * (k : Int)) (four x y u v k) = if B then 0 else 70 := by rw [HPE.out, hB]; by_cases h : (four x y u v k).May <;> simp [h]
      have HB := Lib.hid hB
      have HE := Lib.hid hE
      clear hB hE HPE
      refine wp_region_lin (FourC w w1.heap.size x y u v f i) (by kernel_rfl) (by kernel_rfl) (by kernel_rfl) ⟨hF, hZ, hX, hL.drew⟩ ?_
      intro hne
      (refine lin_take 6 (by kernel_rfl) ?_; simp only [List.take_succ_cons, List.take_zero, List.drop_succ_cons, List.drop_zero])
      first | go_big_quiet_skip | (go_big_quiet_want; go_big_quiet_op; go_big_quiet_on)
      first | go_big_quiet_skip | (go_big_quiet_want; go_big_quiet_op; go_big_quiet_on)
      first | go_big_quiet_skip | (go_big_quiet_want; go_big_quiet_op; go_big_quiet_on)
      first | go_big_quiet_skip | (go_big_quiet_want; go_big_quiet_op; go_big_quiet_on)
      first | go_big_quiet_skip | (go_big_quiet_want; go_big_quiet_op; go_big_quiet_on)
      refine q_load rfl 27 (.tmp 42) rfl _ _ rfl (four x y u v k).arr.toList _ (fun W h => let ⟨_, h⟩ := h; h.F.range k hk4) Try.underlying27 rfl (by kernel_rfl) ?_
      refine wpQuiet_frame (by simp only [Act.put, List.setIfInBounds_toArray, List.set_cons_succ, List.set_cons_zero]; exact rfl) ?_
      refine wpQuiet_nil ?_
      refine lin_call rfl rfl 10 #[.pointer (some ⟨w1.heap.size + 1, 0, none⟩), .int .i64 (64 * (k : Int)), (four x y u v k).val] (.int .i64 (if B then 0 else 70)) (fun W => by kernel_rfl) (fun W h => ?c1) ?_
      case c1 =>
        refine (inoPut_any (w1.heap.size + 1) 23 _ (fourZ_byt hq.out f i) (64 * (k : Int)) (four x y u v k) (hq.out k) W h.Z (by omega) (by omega)).mono ?_
        rintro e w6 ⟨rfl, hz6, hg6⟩
        exact ⟨by rw [HE.out], (hg6.block _ (Array.getElem?_eq_some_iff.1 h.F).1 (by simp)).trans h.F, hz6.congr hnx.out, (hg6.block _ h.X.lt (by simp; omega)).trans h.X, h.L.grown hg6 h.L.size (fun j e => by cases e; omega)⟩
      refine wpLin_frame (by simp only [Act.put, List.setIfInBounds_toArray, List.set_cons_succ, List.set_cons_zero]; exact rfl) ?_
      cases B with
      | true =>
        (refine lin_take 5 (by kernel_rfl) ?_; simp only [List.take_succ_cons, List.take_zero, List.drop_succ_cons, List.drop_zero])
        first | go_big_quiet_skip | (go_big_quiet_want; go_big_quiet_op; go_big_quiet_on)
        first | go_big_quiet_skip | (go_big_quiet_want; go_big_quiet_op; go_big_quiet_on)
        first | go_big_quiet_skip | (go_big_quiet_want; go_big_quiet_op; go_big_quiet_on)
        first | go_big_quiet_skip | (go_big_quiet_want; go_big_quiet_op; go_big_quiet_on)
        refine q_load rfl 27 (.tmp 48) rfl _ _ rfl (four x y u v k).arr.toList _ (fun W h => let ⟨_, h⟩ := h; h.F.range k hk4) Try.underlying27 rfl (by kernel_rfl) ?_
        refine wpQuiet_frame (by simp only [Act.put, List.setIfInBounds_toArray, List.set_cons_succ, List.set_cons_zero]; exact rfl) ?_
        refine wpQuiet_nil ?_
        refine lin_call rfl rfl 12 #[(four x y u v k).val] (.bool true) (fun W => by kernel_rfl) (fun W h => ?c2) ?_
        case c2 =>
          refine (may_any _ (hq.out k) W).mono ?_
          rintro e w6 ⟨rfl, hb6⟩
          exact ⟨by rw [HB.out], h.F.below' hb6, h.Z.below hb6 h.Z.lt, h.X.below hb6 h.X.lt, h.L.trans (hb6.mono h.L.size)⟩
        refine wpLin_frame (by simp only [Act.put, List.setIfInBounds_toArray, List.set_cons_succ, List.set_cons_zero]; exact rfl) ?_
        (refine lin_take 1 (by kernel_rfl) ?_; simp only [List.take_succ_cons, List.take_zero, List.drop_succ_cons, List.drop_zero])
        first | go_big_quiet_skip | (go_big_quiet_want; go_big_quiet_op; go_big_quiet_on)
        refine wpQuiet_nil ?_
        refine wpLin_nil ?_
        rintro w7 ⟨hF7, hZ7, hX7, hL7⟩
        rw [if_neg (by decide)] at hZ7
        clear hne hF hZ hX hL HB HE hnx HK e1
        go_wp2_with fail
        go_roundw
        case rel => exact ⟨i + 1, by omega, by go_num, hF7, hZ7, hX7, hL7⟩
        case measure => simp [intOf]; omega
      | false =>
        (refine lin_take 5 (by kernel_rfl) ?_; simp only [List.take_succ_cons, List.take_zero, List.drop_succ_cons, List.drop_zero])
        first | go_big_quiet_skip | (go_big_quiet_want; go_big_quiet_op; go_big_quiet_on)
        first | go_big_quiet_skip | (go_big_quiet_want; go_big_quiet_op; go_big_quiet_on)
        first | go_big_quiet_skip | (go_big_quiet_want; go_big_quiet_op; go_big_quiet_on)
        first | go_big_quiet_skip | (go_big_quiet_want; go_big_quiet_op; go_big_quiet_on)
        refine q_load rfl 27 (.tmp 48) rfl _ _ rfl (four x y u v k).arr.toList _ (fun W h => let ⟨_, h⟩ := h; h.F.range k hk4) Try.underlying27 rfl (by kernel_rfl) ?_
        refine wpQuiet_frame (by simp only [Act.put, List.setIfInBounds_toArray, List.set_cons_succ, List.set_cons_zero]; exact rfl) ?_
        refine wpQuiet_nil ?_
        refine lin_call rfl rfl 12 #[(four x y u v k).val] (.bool false) (fun W => by kernel_rfl) (fun W h => ?c3) ?_
        case c3 =>
          refine (may_any _ (hq.out k) W).mono ?_
          rintro e w6 ⟨rfl, hb6⟩
          exact ⟨by rw [HB.out], h.F.below' hb6, h.Z.below hb6 h.Z.lt, h.X.below hb6 h.X.lt, h.L.trans (hb6.mono h.L.size)⟩
        refine wpLin_frame (by simp only [Act.put, List.setIfInBounds_toArray, List.set_cons_succ, List.set_cons_zero]; exact rfl) ?_
        (refine lin_take 1 (by kernel_rfl) ?_; simp only [List.take_succ_cons, List.take_zero, List.drop_succ_cons, List.drop_zero])
        first | go_big_quiet_skip | (go_big_quiet_want; go_big_quiet_op; go_big_quiet_on)
        refine wpQuiet_nil ?_
        refine wpLin_nil ?_
        rintro w7 ⟨hF7, hZ7, hX7, hL7⟩
        rw [if_neg (by decide)] at hZ7
        clear hne hF hZ hX hL HB HE hnx HK e1
        go_wp2_with fail
        go_roundw
        case rel => exact ⟨i + 1, by omega, by go_num, hF7, hZ7, hX7, hL7⟩
        case measure => simp [intOf]; omega
    · obtain rfl : i = 4 := by omega
      go_wp2_with fail
      go_loopw [15] (fun s wr => ∃ k : Nat, k ≤ 4 ∧ s = .int .i64 (k : Int) ∧ FourAt wr w1.heap.size x y u v ∧ Blk wr (w1.heap.size + 1) 23 256 (fourZ (four x y u v) f 4) ∧ InoAt wr w.heap.size 27 x ∧ Below w.heap.size w wr) (fun s _ => 4 - (intOf s).toNat)
      case atStart => exact ⟨0, by omega, rfl, hF, hZ, hX, hL⟩
      case round =>
        clear hF hZ hX hL
        obtain ⟨k, hk, rfl, hF, hZ, hX, hL⟩ := hrel
        by_cases hlt2 : k < 4
        · have hgot := fourZ_got hq.out f k hf4 hlt2
          have HG := Lib.hid hgot
          have hzb := fourZ_byt hq.out f 4
          clear hgot
          have l0 : (0 : Int) ≤ (k : Int) := by omega
          have l1 : (k : Int) < 4 := by omega
          have HG' := HG.out
          clear HG
          by_cases hm : (four x y u v k).May
          · rw [if_pos hm] at HG'
            obtain ⟨hg1, hg2⟩ := HG'
            have HV : Hid ((getIno (fourZ (four x y u v) f 4) (64 * (k : Int))).val = (four x y u v k).val) := val_congr hg2
            have HE : Hid (getErr (fourZ (four x y u v) f 4) (64 * (k : Int)) = 0) := hg1
            have hmB : Hid (decide (four x y u v k).May = true) := decide_eq_true hm
            clear hg1 hg2 hm
            go_wp2_with (first | (refine wp_loadBlk rfl (.tmp 12) rfl (w1.heap.size + 1) _ rfl hZ ?_))
            refine (inoGet_any _ hzb (64 * (k : Int)) _ (by omega) (by omega)).mono ?_
            rintro e w3 ⟨rfl, hb3⟩
            rw [HV.out, HE.out]
            have hF3 := hF.below' hb3
            have hZ3 := hZ.below hb3 hZ.lt
            have hX3 := hX.below hb3 hX.lt
            have hL3 : Below w.heap.size w w3 := hL.trans (hb3.mono hL.size)
            clear hF hZ hX hL hb3 HV HE hzb
            have hZ3l := hZ3.lt
            have hn3 := InoAt.new w3 .nil
            have hal := zero_ino
            have hio := hq.out k
            generalize hZZ : fourZ (four x y u v) f 4 = ZZ at hZ3 ⊢
            have HZZ := Lib.hid hZZ
            clear hZZ
            generalize hxk : four x y u v k = xk at hmB hio
            have HXK := Lib.hid hxk
            clear hxk
            go_wp2_with (first | (refine wp_storeIno rfl (.tmp 16) (.tmp 61) rfl w3.heap.size xk .nil rfl rfl hn3 ?_))
            intro w4 hI4 ho4
            have hF4 : FourAt w4 w1.heap.size x y u v := (hF3.alloc _).only ho4 (by omega)
            have hZ4 : Blk w4 (w1.heap.size + 1) 23 256 ZZ := (hZ3.alloc _).only ho4 (by omega)
            have hX4 : InoAt w4 w.heap.size 27 x := (hX3.alloc _).only ho4 (by omega)
            have hL4 : Below w.heap.size w w4 := (hL3.alloc hL3.size _).trans (ho4.below hL3.size)
            have hI4l := hI4.lt
            clear hF3 hZ3 hX3 hL3 hn3 ho4
            have hr4 := hF4.range k hlt2
            rw [HXK.out] at hr4
            have hn4 := InoAt.new w4 .nil
            go_wp2_with (first | (refine wpList_load_mid rfl 27 (.tmp 65) rfl w1.heap.size (k * 16) rfl xk.arr.toList _ hr4 Try.underlying27 rfl (by kernel_rfl) ?_) | (refine wp_storeIno rfl (.tmp 18) (.tmp 66) rfl w4.heap.size xk .nil rfl rfl hn4 ?_))
            intro w5 hJ5 ho5
            have hF5 : FourAt w5 w1.heap.size x y u v := (hF4.alloc _).only ho5 (by omega)
            have hZ5 : Blk w5 (w1.heap.size + 1) 23 256 ZZ := (hZ4.alloc _).only ho5 (by omega)
            have hX5 : InoAt w5 w.heap.size 27 x := (hX4.alloc _).only ho5 (by omega)
            have hI5 : InoAt w5 w3.heap.size 27 xk := (hI4.alloc _).only ho5 (by omega)
            have hL5 : Below w.heap.size w w5 := (hL4.alloc hL4.size _).trans (ho5.below hL4.size)
            clear hF4 hZ4 hX4 hI4 hL4 hn4 ho5 hr4
            go_wp2_with (first | (refine wp_loadIno rfl (.tmp 18) rfl w4.heap.size xk rfl hJ5 ?_))
            refine (may_any xk hio _).mono ?_
            rintro e w6 ⟨rfl, hb6⟩
            rw [hmB.out]
            have hF6 := hF5.below' hb6
            have hZ6 := hZ5.below hb6 hZ5.lt
            have hX6 := hX5.below hb6 hX5.lt
            have hI6 := hI5.below hb6 hI5.lt
            have hJ6 := hJ5.below hb6 hJ5.lt
            have hL6 : Below w.heap.size w w6 := hL5.trans (hb6.mono hL5.size)
            clear hF5 hZ5 hX5 hI5 hJ5 hL5 hb6 hmB
            have nx : ∀ W, (binOp .neq 27 xk.val xk.val).run Try.prog W = .ok (.bool false) W := fun W => by rw [run_neq_ino, inoEq_refl']; rfl
            go_wp2_with (first | (refine wp_loadInoG rfl (.tmp 16) rfl w3.heap.size xk rfl hI6 ?_) | (refine wp_loadInoG rfl (.tmp 18) rfl w4.heap.size xk rfl hJ6 ?_))
            go_roundw
            case rel => first | exact ⟨k + 1, by omega, by go_num, hF6, (by rw [HZZ.out]; exact hZ6), hX6, hL6⟩ | ((repeat apply Exists.intro); exact ⟨⟨k + 1, by omega, by go_num, hF6, (by rw [HZZ.out]; exact hZ6), hX6, hL6⟩, rfl⟩)
            case measure => simp [intOf]; omega
          · rw [if_neg hm] at HG'
            obtain ⟨hg1, hg2⟩ := HG'
            have HV : Hid ((getIno (fourZ (four x y u v) f 4) (64 * (k : Int))).val = Ino.nil.val) := val_congr hg2
            have HE : Hid (getErr (fourZ (four x y u v) f 4) (64 * (k : Int)) = 0) := hg1
            have hmB : Hid (decide (four x y u v k).May = false) := decide_eq_false hm
            clear hg1 hg2 hm
            go_wp2_with (first | (refine wp_loadBlk rfl (.tmp 12) rfl (w1.heap.size + 1) _ rfl hZ ?_))
            refine (inoGet_any _ hzb (64 * (k : Int)) _ (by omega) (by omega)).mono ?_
            rintro e w3 ⟨rfl, hb3⟩
            rw [HV.out, HE.out]
            have hF3 := hF.below' hb3
            have hZ3 := hZ.below hb3 hZ.lt
            have hX3 := hX.below hb3 hX.lt
            have hL3 : Below w.heap.size w w3 := hL.trans (hb3.mono hL.size)
            clear hF hZ hX hL hb3 HV HE hzb
            have hZ3l := hZ3.lt
            have hn3 := InoAt.new w3 .nil
            have hal := zero_ino
            have hio := hq.out k
            generalize hZZ : fourZ (four x y u v) f 4 = ZZ at hZ3 ⊢
            have HZZ := Lib.hid hZZ
            clear hZZ
            generalize hxk : four x y u v k = xk at hmB hio
            have HXK := Lib.hid hxk
            clear hxk
            go_wp2_with (first | (refine wp_storeIno rfl (.tmp 16) (.tmp 61) rfl w3.heap.size .nil .nil rfl rfl hn3 ?_))
            intro w4 hI4 ho4
            have hF4 : FourAt w4 w1.heap.size x y u v := (hF3.alloc _).only ho4 (by omega)
            have hZ4 : Blk w4 (w1.heap.size + 1) 23 256 ZZ := (hZ3.alloc _).only ho4 (by omega)
            have hX4 : InoAt w4 w.heap.size 27 x := (hX3.alloc _).only ho4 (by omega)
            have hL4 : Below w.heap.size w w4 := (hL3.alloc hL3.size _).trans (ho4.below hL3.size)
            have hI4l := hI4.lt
            clear hF3 hZ3 hX3 hL3 hn3 ho4
            have hr4 := hF4.range k hlt2
            rw [HXK.out] at hr4
            have hn4 := InoAt.new w4 .nil
            go_wp2_with (first | (refine wpList_load_mid rfl 27 (.tmp 65) rfl w1.heap.size (k * 16) rfl xk.arr.toList _ hr4 Try.underlying27 rfl (by kernel_rfl) ?_) | (refine wp_storeIno rfl (.tmp 18) (.tmp 66) rfl w4.heap.size xk .nil rfl rfl hn4 ?_))
            intro w5 hJ5 ho5
            have hF5 : FourAt w5 w1.heap.size x y u v := (hF4.alloc _).only ho5 (by omega)
            have hZ5 : Blk w5 (w1.heap.size + 1) 23 256 ZZ := (hZ4.alloc _).only ho5 (by omega)
            have hX5 : InoAt w5 w.heap.size 27 x := (hX4.alloc _).only ho5 (by omega)
            have hI5 : InoAt w5 w3.heap.size 27 Ino.nil := (hI4.alloc _).only ho5 (by omega)
            have hL5 : Below w.heap.size w w5 := (hL4.alloc hL4.size _).trans (ho5.below hL4.size)
            clear hF4 hZ4 hX4 hI4 hL4 hn4 ho5 hr4
            go_wp2_with (first | (refine wp_loadIno rfl (.tmp 18) rfl w4.heap.size xk rfl hJ5 ?_))
            refine (may_any xk hio _).mono ?_
            rintro e w6 ⟨rfl, hb6⟩
            rw [hmB.out]
            have hF6 := hF5.below' hb6
            have hZ6 := hZ5.below hb6 hZ5.lt
            have hX6 := hX5.below hb6 hX5.lt
            have hI6 := hI5.below hb6 hI5.lt
            have hJ6 := hJ5.below hb6 hJ5.lt
            have hL6 : Below w.heap.size w w6 := hL5.trans (hb6.mono hL5.size)
            clear hF5 hZ5 hX5 hI5 hJ5 hL5 hb6 hmB
            have nx : ∀ W, (binOp .neq 27 Ino.nil.val Ino.nil.val).run Try.prog W = .ok (.bool false) W := fun W => by rw [run_neq_ino, inoEq_refl']; rfl
            go_wp2_with (first | (refine wp_storeIno rfl (.tmp 18) (.tmp 70) rfl w4.heap.size .nil xk rfl rfl hJ6 ?_))
            intro w7 hJ7 ho7
            have hF7 := hF6.only ho7 (by omega)
            have hZ7 := hZ6.only ho7 (by omega)
            have hX7 := hX6.only ho7 (by omega)
            have hI7 := hI6.only ho7 (by omega)
            have hL7 : Below w.heap.size w w7 := hL6.trans (ho7.below (by omega))
            clear hF6 hZ6 hX6 hI6 hJ6 hL6 ho7 hal
            go_wp2_with (first | (refine wp_loadInoG rfl (.tmp 16) rfl w3.heap.size .nil rfl hI7 ?_) | (refine wp_loadInoG rfl (.tmp 18) rfl w4.heap.size .nil rfl hJ7 ?_))
            go_roundw
            case rel => first | exact ⟨k + 1, by omega, by go_num, hF7, (by rw [HZZ.out]; exact hZ7), hX7, hL7⟩ | ((repeat apply Exists.intro); exact ⟨⟨k + 1, by omega, by go_num, hF7, (by rw [HZZ.out]; exact hZ7), hX7, hL7⟩, rfl⟩)
            case measure => simp [intOf]; omega
        · obtain rfl : k = 4 := by omega
          have p1 : putErr 256 x = 2 := by unfold putErr; rw [show placeB 256 = false by decide]; rfl
          have p2 : putErr (-64) x = 2 := by unfold putErr; rw [show placeB (-64) = false by decide]; rfl
          have o1 : Hid (putOk 256 x = false) := by show _ = _; unfold putOk; rw [show placeB 256 = false by decide]; rfl
          have o2 : Hid (putOk (-64) x = false) := by show _ = _; unfold putOk; rw [show placeB (-64) = false by decide]; rfl
          have P1 := Lib.hid p1
          have P2 := Lib.hid p2
          clear p1 p2
          go_wp2_with (first | (refine wp_loadIno rfl (.tmp 5) rfl w.heap.size x rfl hX ?_))
          refine (inoPut_no (w1.heap.size + 1) 256 x hx _ (by decide) (by decide) o1.out).mono ?_
          rintro e w3 ⟨rfl, hb3⟩
          rw [P1.out]
          have hX3 := hX.below hb3 hX.lt
          have hL3 : Below w.heap.size w w3 := hL.trans (hb3.mono hL.size)
          clear hF hZ hX hL hb3
          go_wp2_with (first | (refine wp_loadInoG rfl (.tmp 5) rfl w.heap.size x rfl hX3 ?_))
          refine (inoPut_no (w1.heap.size + 1) (-64) x hx _ (by decide) (by decide) o2.out).mono ?_
          rintro e w4 ⟨rfl, hb4⟩
          rw [P2.out]
          have hL4 : Below w.heap.size w w4 := hL3.trans (hb4.mono hL3.size)
          clear hX3 hL3 hb4
          go_wp2_with fail
          go_ret
          exact ⟨rfl, hL4⟩
end Go.Proofs.Ytlgjpjccjklnnaa
