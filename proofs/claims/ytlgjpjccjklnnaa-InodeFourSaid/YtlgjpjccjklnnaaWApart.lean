/- The walk of the law InodeApart. -/
import Derived.Test.YtlgjpjccjklnnaaWUnlike
namespace Go.Proofs.Ytlgjpjccjklnnaa
open Go.RowKit Go.Shelf
set_option linter.unusedVariables false

theorem wp_loadBlkG {w : World} {ops : Array Oper} {rest : List Oper} {o : Oper} {a : Act} {Q : Exit → Act → World → Prop} (hw : Region.wanted o (yielded ops a.tmps) = true) (p : Operand) (ho : o.op = .load 23 p)
    (g : Nat) (z : Nat → Int) (hx : a.eval p = .pointer (some ⟨g, 0, none⟩)) (hB : Blk w g 23 256 z)
    (h : wpList Try.prog ops Q rest (a.put o.dst (bval z)) w) : wpList Try.prog ops Q (o :: rest) a w :=
  BigFrame.wpList_want hw fun _ hK => wp_load_row 23 p ho g hx 23 (Ks .u8 256 z).toArray (0, 0) _ hB Try.underlying23 rfl (info_block' _) (hK _ _ h)

theorem neq_of_eql {P : Program} {t : TypeId} {x y : Array Value} {B : Bool} {w : World} (h : (binOp .eql t (.agg x) (.agg y)).run P w = .ok (.bool B) w) : (binOp .neq t (.agg x) (.agg y)).run P w = .ok (.bool (!B)) w := by
  rw [run_eql_struct] at h
  rw [run_neq_struct]
  generalize (Op.equalIn 10000 t (.agg x) (.agg y)).run P w = r at *
  cases r with
  | ok b w' => simp at h ⊢; exact ⟨by rw [h.1], h.2⟩
  | halt e w' => simp at h
theorem run_neq_ino (x y : Ino) (w : World) : (binOp .neq 27 x.val y.val).run Try.prog w = .ok (.bool (!inoEq x y)) w := neq_of_eql (run_eql_ino x y w)
theorem inoEq_refl' (x : Ino) : inoEq x x = true := (inoEq_iff x x).2 ⟨rfl, rfl, rfl, rfl, fun _ _ => rfl, rfl⟩
theorem byt_putZ {z : Nat → Int} (hz : Byt z) (a : Int) {x : Ino} (hx : x.Ok) : Byt (putZ z a x) := by
  unfold putZ
  split
  · rename_i h
    unfold putOk at h
    rw [Bool.and_eq_true] at h
    have hk := (Ino.may_bd (of_decide_eq_true h.2)).2.2
    refine byt_over hz (fun i => ?_) _ _
    have := Ino.byt_stage hx hk 14 i
    rwa [Ino.stage_all] at this
  · exact hz
theorem putErr_0 {a : Int} {x : Ino} : putErr a x = 0 ↔ putOk a x = true := by
  unfold putErr putOk
  cases placeB a <;> cases decide x.May <;> simp
theorem apart_places {a b : Int} {x y : Ino} (hx : putOk a x = true) (hy : putOk b y = true) (h : a ≠ b) : a.toNat + 64 ≤ b.toNat ∨ b.toNat + 64 ≤ a.toNat := by
  unfold putOk at hx hy
  rw [Bool.and_eq_true] at hx hy
  have h1 := (placeB_iff a).1 hx.1
  have h2 := (placeB_iff b).1 hy.1
  omega
/-- puts at two places, in whatever order -/
theorem putZ_comm (z : Nat → Int) {a b : Int} (x y : Ino) (h : a ≠ b) (i : Nat) : putZ (putZ z a x) b y i = putZ (putZ z b y) a x i := by
  unfold putZ
  cases hx : putOk a x <;> cases hy : putOk b y <;> simp only [if_true, Bool.false_eq_true, if_false]
  have := apart_places hx hy h
  by_cases c1 : a.toNat ≤ i ∧ i < a.toNat + 64
  · rw [over_out _ b.toNat _ _ _ (by omega), over_in _ _ _ _ _ c1, over_in _ _ _ _ _ c1]
  · by_cases c2 : b.toNat ≤ i ∧ i < b.toNat + 64
    · rw [over_in _ _ _ _ _ c2, over_out _ a.toNat _ _ _ (by omega), over_in _ _ _ _ _ c2]
    · rw [over_out _ b.toNat _ _ _ (by omega), over_out _ a.toNat _ _ _ (by omega), over_out _ a.toNat _ _ _ (by omega), over_out _ b.toNat _ _ _ (by omega)]
theorem got_of {z : Nat → Int} {a : Int} {x : Ino} (hx : x.Ok) (hok : putOk a x = true) {C : Nat → Int} (hC : ∀ j, a.toNat ≤ j → j < a.toNat + 64 → C j = over z a.toNat 64 x.byte j) : getErr C a = 0 ∧ inoEq (getIno C a) x = true := by
  unfold putOk at hok
  rw [Bool.and_eq_true] at hok
  have hm : x.May := of_decide_eq_true hok.2
  obtain ⟨h1, h2⟩ := inoOf_congr a.toNat hC
  rw [put_getOk z _ x hx hm] at h2
  unfold getErr getIno
  rw [hok.1, h2]
  exact ⟨rfl, inoEq_trans h1 (put_get z _ x hx hm)⟩
theorem got_first {z : Nat → Int} {a b : Int} {x y : Ino} (hx : x.Ok) (hok : putOk a x = true) (h : a ≠ b) : getErr (putZ (putZ z a x) b y) a = 0 ∧ inoEq (getIno (putZ (putZ z a x) b y) a) x = true := by
  refine got_of (z := z) hx hok fun j h1 h2 => ?_
  unfold putZ
  rw [hok, if_pos rfl]
  split
  · rename_i hy
    have := apart_places hok hy h
    rw [over_out _ _ _ _ _ (by omega)]
  · rfl
theorem got_last {z : Nat → Int} {b : Int} {y : Ino} (hy : y.Ok) (hok : putOk b y = true) : getErr (putZ z b y) b = 0 ∧ inoEq (getIno (putZ z b y) b) y = true := by
  refine got_of (z := z) hy hok fun j h1 h2 => ?_
  unfold putZ
  rw [hok, if_pos rfl]

set_option maxRecDepth 100000 in
set_option maxHeartbeats 4000000 in
theorem apart_walk (z : Nat → Int) (hz : Byt z) (a b : Int) (x y : Ino) (hx : x.Ok) (hy : y.Ok) (w : World) (ha : -9223372036854775808 ≤ a ∧ a ≤ 9223372036854775807) (hb : -9223372036854775808 ≤ b ∧ b ≤ 9223372036854775807) :
    Calls Try.prog 6 #[bval z, .int .i64 a, .int .i64 b, x.val, y.val] w fun e w' => e = .returned (.bool true) ∧ Below w.heap.size w w' := by
  have hb0 : Below w.heap.size w (((w.alloc (.cells (Ks .u8 256 z).toArray 23)).alloc (.cells x.arr 27)).alloc (.cells y.arr 27)) := (((Below.refl _ _).alloc (Nat.le_refl _) _).alloc (by simp) _).alloc (by simp; omega) _
  have hB0 : Blk (((w.alloc (.cells (Ks .u8 256 z).toArray 23)).alloc (.cells x.arr 27)).alloc (.cells y.arr 27)) w.heap.size 23 256 z := ((Blk.new _ _ _ _).alloc _).alloc _
  have hx0 : InoAt (((w.alloc (.cells (Ks .u8 256 z).toArray 23)).alloc (.cells x.arr 27)).alloc (.cells y.arr 27)) (w.heap.size + 1) 27 x := by
    have := (InoAt.new (w.alloc (.cells (Ks .u8 256 z).toArray 23)) x).alloc (.cells y.arr 27)
    simp only [World.size_alloc] at this; exact this
  have hy0 : InoAt (((w.alloc (.cells (Ks .u8 256 z).toArray 23)).alloc (.cells x.arr 27)).alloc (.cells y.arr 27)) (w.heap.size + 1 + 1) 27 y := by
    have := InoAt.new ((w.alloc (.cells (Ks .u8 256 z).toArray 23)).alloc (.cells x.arr 27)) y
    simp only [World.size_alloc] at this; exact this
  have HB := Lib.hid hB0
  have HX := Lib.hid hx0
  have HY := Lib.hid hy0
  have HL := Lib.hid hb0
  clear hB0 hx0 hy0 hb0
  obtain ⟨ha0, ha1⟩ := ha
  obtain ⟨hb0, hb1'⟩ := hb
  go_enter Try.func6, Try.ntmps6
  go_wp2_with fail
  refine (awake7 _).mono ?_
  rintro e w1 ⟨rfl, hb1⟩
  have hB := HB.out.below hb1 HB.out.lt
  have hX := HX.out.below hb1 HX.out.lt
  have hY := HY.out.below hb1 HY.out.lt
  have hL : Below w.heap.size w w1 := HL.out.trans (hb1.mono HL.out.size)
  clear HB HX HY HL hb1
  by_cases hab : a = b
  · have q : (a == b) = true := by simpa using hab
    clear hab
    go_wp2_with fail
    go_ret
    exact ⟨rfl, hL⟩
  have q : (a == b) = false := by simpa using hab
  have HAB := Lib.hid hab
  clear hab
  go_wp2_with fail
  refine wp_copy2 5 26 27 11 12 w.heap.size z rfl hB (by decide) (by simp) (by kernel_rfl) (fun l h => by simp [upB, Region.binds] at h; simp [h]) (fun l h => by simp [upB, Region.binds] at h; simp [h]) ?_
  intro g k w2 hgk hg hk hG hK hb2
  simp only [Act.put, List.setIfInBounds_toArray, List.set_cons_succ, List.set_cons_zero]
  have hx2 := hX.below hb2 hX.lt
  have hy2 := hY.below hb2 hY.lt
  have hl2 : Below w.heap.size w w2 := hL.trans (hb2.mono hL.size)
  have hX1 := hX.lt
  have hY1 := hY.lt
  clear hb2 hB hX hY hL q
  go_wp2_with fail
  refine wp_region_lin (fun j W => InoAt W (w.heap.size + 1) 27 x ∧ InoAt W (w.heap.size + 1 + 1) 27 y ∧ Blk W g 23 256 (if j = 0 then z else if j = 1 then putZ z a x else putZ (putZ z a x) b y) ∧ Blk W k 23 256 z ∧ Below w.heap.size w W) (by kernel_rfl) (by kernel_rfl) (by kernel_rfl) ⟨hx2, hy2, hG, hK, hl2.drew⟩ ?_
  intro hne
  (refine lin_take 2 (by kernel_rfl) ?_; simp only [List.take_succ_cons, List.take_zero, List.drop_succ_cons, List.drop_zero])
  first | go_big_quiet_skip | (go_big_quiet_want; go_big_quiet_op; go_big_quiet_on)
  refine q_load rfl 27 (.tmp 8) rfl _ _ rfl x.arr.toList _ (fun W h => let ⟨_, h⟩ := h; h.1.range) Try.underlying27 rfl (by kernel_rfl) ?_
  refine wpQuiet_frame (by simp only [Act.put, List.setIfInBounds_toArray, List.set_cons_succ, List.set_cons_zero]; exact rfl) ?_
  refine wpQuiet_nil ?_
  refine lin_call rfl rfl 10 #[.pointer (some ⟨g, 0, none⟩), .int .i64 a, x.val] (.int .i64 (putErr a x)) (fun W => by kernel_rfl) (fun W h => ?c1) ?_
  case c1 =>
    refine (inoPut_any g 23 z hz a x hx W h.2.2.1 ha0 ha1).mono ?_
    rintro e w6 ⟨rfl, hz6, hg6⟩
    exact ⟨rfl, (hg6.block _ h.1.lt (by simp; omega)).trans h.1, (hg6.block _ h.2.1.lt (by simp; omega)).trans h.2.1, hz6, (hg6.block _ h.2.2.2.1.lt (by simp; omega)).trans h.2.2.2.1, h.2.2.2.2.grown hg6 h.2.2.2.2.size (fun j e => by cases e; omega)⟩
  refine wpLin_frame (by simp only [Act.put, List.setIfInBounds_toArray, List.set_cons_succ, List.set_cons_zero]; exact rfl) ?_
  (refine lin_take 2 (by kernel_rfl) ?_; simp only [List.take_succ_cons, List.take_zero, List.drop_succ_cons, List.drop_zero])
  first | go_big_quiet_skip | (go_big_quiet_want; go_big_quiet_op; go_big_quiet_on)
  refine q_load rfl 27 (.tmp 9) rfl _ _ rfl y.arr.toList _ (fun W h => let ⟨_, h⟩ := h; h.2.1.range) Try.underlying27 rfl (by kernel_rfl) ?_
  refine wpQuiet_frame (by simp only [Act.put, List.setIfInBounds_toArray, List.set_cons_succ, List.set_cons_zero]; exact rfl) ?_
  refine wpQuiet_nil ?_
  refine lin_call rfl rfl 10 #[.pointer (some ⟨g, 0, none⟩), .int .i64 b, y.val] (.int .i64 (putErr b y)) (fun W => by kernel_rfl) (fun W h => ?c2) ?_
  case c2 =>
    refine (inoPut_any g 23 (putZ z a x) (byt_putZ hz a hx) b y hy W h.2.2.1 hb0 hb1').mono ?_
    rintro e w6 ⟨rfl, hz6, hg6⟩
    exact ⟨rfl, (hg6.block _ h.1.lt (by simp; omega)).trans h.1, (hg6.block _ h.2.1.lt (by simp; omega)).trans h.2.1, hz6, (hg6.block _ h.2.2.2.1.lt (by simp; omega)).trans h.2.2.2.1, h.2.2.2.2.grown hg6 h.2.2.2.2.size (fun j e => by cases e; omega)⟩
  refine wpLin_frame (by simp only [Act.put, List.setIfInBounds_toArray, List.set_cons_succ, List.set_cons_zero]; exact rfl) ?_
  (refine lin_take 2 (by kernel_rfl) ?_; simp only [List.take_succ_cons, List.take_zero, List.drop_succ_cons, List.drop_zero])
  first | go_big_quiet_skip | (go_big_quiet_want; go_big_quiet_op; go_big_quiet_on)
  first | go_big_quiet_skip | (go_big_quiet_want; go_big_quiet_op; go_big_quiet_on)
  refine wpQuiet_nil ?_
  refine wpLin_nil ?_
  rintro w3 ⟨hx3, hy3, hG3, hK3, hl3⟩
  rw [if_neg (by decide), if_neg (by decide)] at hG3
  clear hne hx2 hy2 hG hK hl2
  go_wp2_with fail
  refine wp_region_lin (fun j W => InoAt W (w.heap.size + 1) 27 x ∧ InoAt W (w.heap.size + 1 + 1) 27 y ∧ Blk W k 23 256 (if j = 0 then z else if j = 1 then putZ z b y else putZ (putZ z b y) a x) ∧ Blk W g 23 256 (putZ (putZ z a x) b y) ∧ Below w.heap.size w W) (by kernel_rfl) (by kernel_rfl) (by kernel_rfl) ⟨hx3, hy3, hK3, hG3, hl3.drew⟩ ?_
  intro hne
  (refine lin_take 2 (by kernel_rfl) ?_; simp only [List.take_succ_cons, List.take_zero, List.drop_succ_cons, List.drop_zero])
  first | go_big_quiet_skip | (go_big_quiet_want; go_big_quiet_op; go_big_quiet_on)
  refine q_load rfl 27 (.tmp 9) rfl _ _ rfl y.arr.toList _ (fun W h => let ⟨_, h⟩ := h; h.2.1.range) Try.underlying27 rfl (by kernel_rfl) ?_
  refine wpQuiet_frame (by simp only [Act.put, List.setIfInBounds_toArray, List.set_cons_succ, List.set_cons_zero]; exact rfl) ?_
  refine wpQuiet_nil ?_
  refine lin_call rfl rfl 10 #[.pointer (some ⟨k, 0, none⟩), .int .i64 b, y.val] (.int .i64 (putErr b y)) (fun W => by kernel_rfl) (fun W h => ?c3) ?_
  case c3 =>
    refine (inoPut_any k 23 z hz b y hy W h.2.2.1 hb0 hb1').mono ?_
    rintro e w6 ⟨rfl, hz6, hg6⟩
    exact ⟨rfl, (hg6.block _ h.1.lt (by simp; omega)).trans h.1, (hg6.block _ h.2.1.lt (by simp; omega)).trans h.2.1, hz6, (hg6.block _ h.2.2.2.1.lt (by simp; omega)).trans h.2.2.2.1, h.2.2.2.2.grown hg6 h.2.2.2.2.size (fun j e => by cases e; omega)⟩
  refine wpLin_frame (by simp only [Act.put, List.setIfInBounds_toArray, List.set_cons_succ, List.set_cons_zero]; exact rfl) ?_
  (refine lin_take 2 (by kernel_rfl) ?_; simp only [List.take_succ_cons, List.take_zero, List.drop_succ_cons, List.drop_zero])
  first | go_big_quiet_skip | (go_big_quiet_want; go_big_quiet_op; go_big_quiet_on)
  refine q_load rfl 27 (.tmp 8) rfl _ _ rfl x.arr.toList _ (fun W h => let ⟨_, h⟩ := h; h.1.range) Try.underlying27 rfl (by kernel_rfl) ?_
  refine wpQuiet_frame (by simp only [Act.put, List.setIfInBounds_toArray, List.set_cons_succ, List.set_cons_zero]; exact rfl) ?_
  refine wpQuiet_nil ?_
  refine lin_call rfl rfl 10 #[.pointer (some ⟨k, 0, none⟩), .int .i64 a, x.val] (.int .i64 (putErr a x)) (fun W => by kernel_rfl) (fun W h => ?c4) ?_
  case c4 =>
    refine (inoPut_any k 23 (putZ z b y) (byt_putZ hz b hy) a x hx W h.2.2.1 ha0 ha1).mono ?_
    rintro e w6 ⟨rfl, hz6, hg6⟩
    exact ⟨rfl, (hg6.block _ h.1.lt (by simp; omega)).trans h.1, (hg6.block _ h.2.1.lt (by simp; omega)).trans h.2.1, hz6, (hg6.block _ h.2.2.2.1.lt (by simp; omega)).trans h.2.2.2.1, h.2.2.2.2.grown hg6 h.2.2.2.2.size (fun j e => by cases e; omega)⟩
  refine wpLin_frame (by simp only [Act.put, List.setIfInBounds_toArray, List.set_cons_succ, List.set_cons_zero]; exact rfl) ?_
  (refine lin_take 2 (by kernel_rfl) ?_; simp only [List.take_succ_cons, List.take_zero, List.drop_succ_cons, List.drop_zero])
  first | go_big_quiet_skip | (go_big_quiet_want; go_big_quiet_op; go_big_quiet_on)
  first | go_big_quiet_skip | (go_big_quiet_want; go_big_quiet_op; go_big_quiet_on)
  refine wpQuiet_nil ?_
  refine wpLin_nil ?_
  rintro w4 ⟨hx4, hy4, hK4, hG4, hl4⟩
  rw [if_neg (by decide), if_neg (by decide)] at hK4
  clear hne hx3 hy3 hG3 hK3 hl3
  have hK5 : Blk w4 k 23 256 (putZ (putZ z a x) b y) := hK4.congr fun i _ => (putZ_comm z x y HAB.out i).symm
  have hzC := byt_putZ (byt_putZ hz a hx) b hy
  have hF : putErr a x = 0 → getErr (putZ (putZ z a x) b y) a = 0 ∧ inoEq (getIno (putZ (putZ z a x) b y) a) x = true := fun h => got_first hx (putErr_0.1 h) HAB.out
  have hS : putErr b y = 0 → getErr (putZ (putZ z a x) b y) b = 0 ∧ inoEq (getIno (putZ (putZ z a x) b y) b) y = true := fun h => got_last hy (putErr_0.1 h)
  generalize putZ (putZ z a x) b y = C at hK5 hG4 hzC hF hS
  generalize putErr a x = E at hF ⊢
  generalize putErr b y = F at hS ⊢
  have HF := Lib.hid hF
  have HS := Lib.hid hS
  clear hK4 hF hS HAB
  have q1 : (E != E) = false := by simp
  have q2 : (F != F) = false := by simp
  have q3 : ∀ W, (binOp .neq 23 (bval C) (bval C)).run Try.prog W = .ok (.bool false) W := fun W => by rw [run_neq_block, eqB_refl]; rfl
  go_wp2_with (first | (refine wp_loadBlkG rfl (.tmp 11) rfl g C rfl hG4 ?_) | (refine wp_loadBlkG rfl (.tmp 12) rfl k C rfl hK5 ?_))
  have G1 := inoGet_any C hzC a w4 ha0 ha1
  have hlx := hx4.lt
  have hly := hy4.lt
  have hlg := hG4.lt
  clear hK5 q1 q2 q3
  have hE : (E = 0 ∧ getErr C a = 0 ∧ (getIno C a).val = x.val) ∨ ¬ E = 0 := by
    by_cases h : E = 0
    · exact .inl ⟨h, (HF.out h).1, val_congr (HF.out h).2⟩
    · exact .inr h
  have hS : (F = 0 ∧ getErr C b = 0 ∧ (getIno C b).val = y.val) ∨ ¬ F = 0 := by
    by_cases h : F = 0
    · exact .inl ⟨h, (HS.out h).1, val_congr (HS.out h).2⟩
    · exact .inr h
  clear HF HS
  refine G1.mono ?_
  clear G1
  rintro e w5 ⟨rfl, hb5⟩
  have hx5 := hx4.below hb5 hlx
  have hy5 := hy4.below hb5 hly
  have hG5 := hG4.below hb5 hlg
  have hl5 : Below w.heap.size w w5 := hl4.trans (hb5.mono hl4.size)
  have hs5 := hb5.size
  clear hx4 hy4 hG4 hl4 hb5
  have hal := zero_ino
  have hn5 := InoAt.new w5 .nil
  have G2 := fun W => inoGet_any C hzC b W hb0 hb1'
  have nx : ∀ W, (binOp .neq 27 x.val x.val).run Try.prog W = .ok (.bool false) W := fun W => by rw [run_neq_ino, inoEq_refl']; rfl
  have ey : ∀ W, (binOp .eql 27 y.val y.val).run Try.prog W = .ok (.bool true) W := fun W => by rw [run_eql_ino, inoEq_refl']
  have HG2 := Lib.hid G2
  clear G2
  generalize getIno C a = u at hE ⊢
  generalize getErr C a = i at hE ⊢
  go_wp2_with (first | (refine wp_storeIno rfl (.tmp 17) (.tmp 57) rfl w5.heap.size u .nil rfl rfl hn5 ?_))
  intro w6 hi6 ho6
  have hx6 : InoAt w6 (w.heap.size + 1) 27 x := (hx5.alloc _).only ho6 (by omega)
  have hy6 : InoAt w6 (w.heap.size + 1 + 1) 27 y := (hy5.alloc _).only ho6 (by omega)
  have hG6 : Blk w6 g 23 256 C := (hG5.alloc _).only ho6 (by omega)
  have hl6 : Below w.heap.size w w6 := (hl5.alloc hl5.size _).trans (ho6.below hl5.size)
  have hlx6 := hx6.lt
  have hly6 := hy6.lt
  clear hx5 hy5 hG5 hl5 hn5 ho6
  have hS' := Lib.hid hS
  clear hS
  rcases hE with ⟨rfl, rfl, hu⟩ | hE
  · have hi6' : InoAt w6 w5.heap.size 27 x := by
      have : u.arr = x.arr := by injection hu
      unfold InoAt at hi6 ⊢
      rw [← this]; exact hi6
    clear hu hi6
    go_wp2_with (first | (refine wp_loadInoG rfl (.tmp 17) rfl w5.heap.size x rfl hi6' ?_) | (refine wp_loadInoG rfl (.tmp 8) rfl (w.heap.size + 1) x rfl hx6 ?_) | (refine wp_loadBlk rfl (.tmp 11) rfl g C rfl hG6 ?_))
    refine (HG2.out _).mono ?_
    rintro e w7 ⟨rfl, hb7⟩
    have hy7 := hy6.below hb7 hly6
    have hl7 : Below w.heap.size w w7 := hl6.trans (hb7.mono hl6.size)
    have hs7 := hb7.size
    have hn7 := InoAt.new w7 .nil
    have hS := hS'.out
    clear hS' hx6 hy6 hG6 hl6 hb7 nx HG2
    generalize getIno C b = v at hS ⊢
    generalize getErr C b = j at hS ⊢
    have hS' := Lib.hid hS
    clear hS
    go_wp2_with (first | (refine wp_storeIno rfl (.tmp 19) (.tmp 74) rfl w7.heap.size v .nil rfl rfl hn7 ?_))
    intro w8 hi8 ho8
    have hy8 : InoAt w8 (w.heap.size + 1 + 1) 27 y := (hy7.alloc _).only ho8 (by omega)
    have hl8 : Below w.heap.size w w8 := (hl7.alloc hl7.size _).trans (ho8.below hl7.size)
    clear hy7 hl7 hn7 ho8 hal
    rcases hS'.out with ⟨rfl, rfl, hv⟩ | hS
    · have hi8' : InoAt w8 w7.heap.size 27 y := by
        have : v.arr = y.arr := by injection hv
        unfold InoAt at hi8 ⊢
        rw [← this]; exact hi8
      clear hv hi8 hS'
      go_wp2_with (first | (refine wp_loadInoG rfl (.tmp 19) rfl w7.heap.size y rfl hi8' ?_) | (refine wp_loadInoG rfl (.tmp 9) rfl (w.heap.size + 1 + 1) y rfl hy8 ?_))
      go_ret
      exact ⟨rfl, hl8⟩
    · have e2 : (F != 0) = true := by simpa using hS
      clear hS hS'
      go_wp2_with fail
      go_ret
      exact ⟨rfl, hl8⟩
  · have e1 : (E == 0) = false := by simpa using hE
    clear hE
    go_wp2_with (first | (refine wp_loadBlk rfl (.tmp 11) rfl g C rfl hG6 ?_))
    refine (HG2.out _).mono ?_
    rintro e w7 ⟨rfl, hb7⟩
    have hy7 := hy6.below hb7 hly6
    have hl7 : Below w.heap.size w w7 := hl6.trans (hb7.mono hl6.size)
    have hs7 := hb7.size
    have hn7 := InoAt.new w7 .nil
    have hS := hS'.out
    clear hS' hx6 hy6 hG6 hl6 hb7 nx HG2
    generalize getIno C b = v at hS ⊢
    generalize getErr C b = j at hS ⊢
    have hS' := Lib.hid hS
    clear hS
    go_wp2_with (first | (refine wp_storeIno rfl (.tmp 19) (.tmp 74) rfl w7.heap.size v .nil rfl rfl hn7 ?_))
    intro w8 hi8 ho8
    have hy8 : InoAt w8 (w.heap.size + 1 + 1) 27 y := (hy7.alloc _).only ho8 (by omega)
    have hl8 : Below w.heap.size w w8 := (hl7.alloc hl7.size _).trans (ho8.below hl7.size)
    clear hy7 hl7 hn7 ho8 hal
    rcases hS'.out with ⟨rfl, rfl, hv⟩ | hS
    · have hi8' : InoAt w8 w7.heap.size 27 y := by
        have : v.arr = y.arr := by injection hv
        unfold InoAt at hi8 ⊢
        rw [← this]; exact hi8
      clear hv hi8 hS'
      go_wp2_with (first | (refine wp_loadInoG rfl (.tmp 19) rfl w7.heap.size y rfl hi8' ?_) | (refine wp_loadInoG rfl (.tmp 9) rfl (w.heap.size + 1 + 1) y rfl hy8 ?_))
      go_ret
      exact ⟨rfl, hl8⟩
    · have e2 : (F != 0) = true := by simpa using hS
      clear hS hS'
      go_wp2_with fail
      go_ret
      exact ⟨rfl, hl8⟩
end Go.Proofs.Ytlgjpjccjklnnaa
