/- The chapter's examples: quernlaw07.awake returns true. -/
import Derived.Test.YtlgjpjccjklnnaaInoGet
import Derived.Test.YtlgjpjccjklnnaaInoLaw
import Derived.Test.YtlgjpjccjklnnaaWPuts
import Derived.Test.YtlgjpjccjklnnaaChain
namespace Go.Proofs.Ytlgjpjccjklnnaa
open Go.RowKit Go.Shelf
set_option linter.unusedVariables false

def xa : Ino := ⟨1, 2, 3, 300, fun i => if i = 0 then 9 else if i = 10 then 7 else 0, 5⟩
def xb : Ino := ⟨3, 0, 0, 0, fun _ => 0, 0⟩
def za : Nat → Int := over (fun _ => 0) 64 64 xa.byte
theorem byt0 : Byt (fun _ => 0) := fun _ => by show (0 : Int) ≤ 0 ∧ (0 : Int) < 256; decide
theorem xa_ok : xa.Ok := ⟨by decide, by decide, by decide, by decide, fun i => by simp only [xa]; split <;> (try split) <;> omega, by decide⟩
theorem xb_ok : xb.Ok := ⟨by decide, by decide, by decide, by decide, fun i => by simp [xb], by decide⟩
theorem x9_ok : ({ Ino.nil with gen := 9 } : Ino).Ok := ⟨by decide, by decide, by decide, by decide, fun i => by simp [Ino.nil], by decide⟩
theorem x1_ok : ({ Ino.nil with size := 1 } : Ino).Ok := ⟨by decide, by decide, by decide, by decide, fun i => by simp [Ino.nil], by decide⟩
theorem xa_may : xa.May := by decide
theorem za_byt : Byt za := by
  intro i
  unfold za over
  split
  · have := Ino.byt_stage xa_ok (.inr (.inl rfl)) 14 (i - 64)
    rw [Ino.stage_all] at this
    exact this
  · exact byt0 i
theorem za_get : (getIno za 64).val = xa.val := by
  have : getIno za 64 = inoOf za 64 := by
    unfold getIno
    rw [show placeB 64 = true by decide, if_pos rfl, show (64 : Int).toNat = 64 from rfl, show getOkB za 64 = true from put_getOk _ _ _ xa_ok xa_may, if_pos rfl]
  rw [this]
  exact val_congr (put_get _ _ _ xa_ok xa_may)
theorem za_err : getErr za 64 = 0 := by
  unfold getErr
  rw [show placeB 64 = true by decide, if_pos rfl, show (64 : Int).toNat = 64 from rfl, show getOkB za 64 = true from put_getOk _ _ _ xa_ok xa_may, if_pos rfl]
theorem za_get0 : (getIno za 0).val = Ino.nil.val := val_congr (by decide)
theorem za_err0 : getErr za 0 = 0 := by decide

theorem run_load_ino {W : World} {g : Nat} {x : Ino} (h : InoAt W g 27 x) : (loadVar 27 ⟨g, 0, none⟩).run Try.prog W = .ok x.val W :=
  run_loadVar_row W g _ _ x.arr (0, 0) _ h Try.underlying27 rfl (info_ino x)

set_option maxRecDepth 100000 in
set_option maxHeartbeats 4000000 in
theorem awake7 (w : World) : Calls Try.prog 16 #[] w fun e w' => e = .returned (.bool true) ∧ Below w.heap.size w w' := by
  have hal := zero_ino
  have hnew := InoAt.new w .nil
  go_enter Try.func16, Try.ntmps16
  go_wp2_with (first | (refine wp_storeIno rfl (.tmp 1) (.tmp 10) rfl w.heap.size ⟨1, 2, 3, 300, fun _ => 0, 5⟩ .nil rfl rfl hnew ?_))
  intro w1 hi1 ho1
  have hb1 : Below w.heap.size w w1 := ((Below.refl _ _).alloc (Nat.le_refl _) _).trans (ho1.below (Nat.le_refl _))
  clear hnew ho1 hal
  have c1 : w1.cell? ⟨w.heap.size, 4, none⟩ = some (.int .u32 0) := hi1.cell (i := 4) rfl
  have f1 : w1.frozen? ⟨w.heap.size, 4, none⟩ = false := soft_of_heap hi1 4
  have hi2 : InoAt (w1.setCell ⟨w.heap.size, 4, none⟩ (.int .u32 9)) w.heap.size 27 ⟨1, 2, 3, 300, fun i => if i = 0 then 9 else 0, 5⟩ := hi1.set 4 _ rfl
  have c2 : (w1.setCell ⟨w.heap.size, 4, none⟩ (.int .u32 9)).cell? ⟨w.heap.size, 14, none⟩ = some (.int .u32 0) := hi2.cell (i := 14) rfl
  have f2 : (w1.setCell ⟨w.heap.size, 4, none⟩ (.int .u32 9)).frozen? ⟨w.heap.size, 14, none⟩ = false := soft_of_heap hi2 14
  have hi3 : InoAt ((w1.setCell ⟨w.heap.size, 4, none⟩ (.int .u32 9)).setCell ⟨w.heap.size, 14, none⟩ (.int .u32 7)) w.heap.size 27 xa := hi2.set 14 _ rfl
  have hb3 : Below w.heap.size w ((w1.setCell ⟨w.heap.size, 4, none⟩ (.int .u32 9)).setCell ⟨w.heap.size, 14, none⟩ (.int .u32 7)) := (hb1.trans ((Only.setCell _ _ _).below (by simp))).trans ((Only.setCell _ _ _).below (by simp))
  have hal := zero_block
  go_wp2_with fail
  clear c1 f1 c2 f2 hi1 hi2 hb1
  have hs3 : ((w1.setCell ⟨w.heap.size, 4, none⟩ (.int .u32 9)).setCell ⟨w.heap.size, 14, none⟩ (.int .u32 7)).heap.size = w1.heap.size := by simp
  generalize ((w1.setCell ⟨w.heap.size, 4, none⟩ (.int .u32 9)).setCell ⟨w.heap.size, 14, none⟩ (.int .u32 7)) = w3 at hi3 hb3 hs3 ⊢
  generalize w1.heap.size = B at hs3 ⊢
  clear hal w1
  have hlt := hi3.lt
  have hi4 : InoAt (w3.alloc (.cells (Ks .u8 256 (fun _ => 0)).toArray 23)) w.heap.size 27 xa := hi3.alloc _
  have hz4 : Blk (w3.alloc (.cells (Ks .u8 256 (fun _ => 0)).toArray 23)) B 23 256 (fun _ => 0) := hs3 ▸ Blk.new w3 _ _ _
  have hb4 : Below w.heap.size w (w3.alloc (.cells (Ks .u8 256 (fun _ => 0)).toArray 23)) := hb3.alloc (by omega) _
  have hB : w.heap.size < B := by omega
  clear hi3 hb3 hs3 hlt
  generalize w3.alloc (.cells (Ks .u8 256 (fun _ => 0)).toArray 23) = w4 at hi4 hz4 hb4 ⊢
  clear w3
  have hi5 : InoAt w4.drew w.heap.size 27 xa := hi4
  have hz5 : Blk w4.drew B 23 256 (fun _ => 0) := hz4
  have hb5 : Below w.heap.size w w4.drew := hb4.drew
  clear hi4 hz4 hb4
  refine wp_region_lin (fun k W => InoAt W w.heap.size 27 xa ∧ Blk W B 23 256 (if k = 0 then fun _ => 0 else za) ∧ Below w.heap.size w W) (by kernel_rfl) (by kernel_rfl) (by kernel_rfl) ⟨hi5, hz5, hb5⟩ ?_
  intro hne
  (refine lin_take 1 (by kernel_rfl) ?_; simp only [List.take_succ_cons, List.take_zero, List.drop_succ_cons, List.drop_zero])
  refine q_load rfl 27 (.tmp 1) rfl _ _ rfl xa.arr.toList _ (fun W h => let ⟨k, h⟩ := h; h.1.range) Try.underlying27 rfl (by kernel_rfl) ?_
  refine wpQuiet_frame (by simp only [Act.put, List.setIfInBounds_toArray, List.set_cons_succ, List.set_cons_zero]; exact rfl) ?_
  refine wpQuiet_nil ?_
  refine lin_call rfl rfl 10 #[.pointer (some ⟨B, 0, none⟩), .int .i64 64, xa.val] (.int .i64 0) (fun W => by kernel_rfl) (fun W h => ?c1) ?_
  case c1 =>
    refine (inoPut_yes B 23 (fun _ => 0) byt0 64 xa xa_ok W h.2.1 (by decide)).mono ?_
    rintro e w6 ⟨rfl, hz6, hg6⟩
    exact ⟨rfl, (hg6.block _ h.1.lt (by simp; omega)).trans h.1, hz6, h.2.2.grown hg6 h.2.2.size (fun k e => by cases e; omega)⟩
  refine wpLin_frame (by simp only [Act.put, List.setIfInBounds_toArray, List.set_cons_succ, List.set_cons_zero]; exact rfl) ?_
  (refine lin_take 1 (by kernel_rfl) ?_; simp only [List.take_succ_cons, List.take_zero, List.drop_succ_cons, List.drop_zero])
  refine q_load rfl 27 (.tmp 1) rfl _ _ rfl xa.arr.toList _ (fun W h => let ⟨k, h⟩ := h; h.1.range) Try.underlying27 rfl (by kernel_rfl) ?_
  refine wpQuiet_frame (by simp only [Act.put, List.setIfInBounds_toArray, List.set_cons_succ, List.set_cons_zero]; exact rfl) ?_
  refine wpQuiet_nil ?_
  refine lin_call rfl rfl 10 #[.pointer (some ⟨B, 0, none⟩), .int .i64 32, xa.val] (.int .i64 2) (fun W => by kernel_rfl) (fun W h => ?c2) ?_
  case c2 =>
    refine (inoPut_no B 32 xa xa_ok W (by decide) (by decide) (by decide)).mono ?_
    rintro e w6 ⟨rfl, hb6⟩
    exact ⟨rfl, h.1.below hb6 h.1.lt, h.2.1.below hb6 h.2.1.lt, h.2.2.trans (hb6.mono h.2.2.size)⟩
  refine wpLin_frame (by simp only [Act.put, List.setIfInBounds_toArray, List.set_cons_succ, List.set_cons_zero]; exact rfl) ?_
  (refine lin_take 1 (by kernel_rfl) ?_; simp only [List.take_succ_cons, List.take_zero, List.drop_succ_cons, List.drop_zero])
  refine q_val rfl xb.val (fun W => by kernel_rfl) ?_
  refine wpQuiet_frame (by simp only [Act.put, List.setIfInBounds_toArray, List.set_cons_succ, List.set_cons_zero]; exact rfl) ?_
  refine wpQuiet_nil ?_
  refine lin_call rfl rfl 10 #[.pointer (some ⟨B, 0, none⟩), .int .i64 0, xb.val] (.int .i64 70) (fun W => by kernel_rfl) (fun W h => ?c3) ?_
  case c3 =>
    refine (inoPut_no B 0 xb xb_ok W (by decide) (by decide) (by decide)).mono ?_
    rintro e w6 ⟨rfl, hb6⟩
    exact ⟨rfl, h.1.below hb6 h.1.lt, h.2.1.below hb6 h.2.1.lt, h.2.2.trans (hb6.mono h.2.2.size)⟩
  refine wpLin_frame (by simp only [Act.put, List.setIfInBounds_toArray, List.set_cons_succ, List.set_cons_zero]; exact rfl) ?_
  (refine lin_take 3 (by kernel_rfl) ?_; simp only [List.take_succ_cons, List.take_zero, List.drop_succ_cons, List.drop_zero])
  first | go_big_quiet_skip | (go_big_quiet_want; go_big_quiet_op; go_big_quiet_on)
  first | go_big_quiet_skip | (go_big_quiet_want; go_big_quiet_op; go_big_quiet_on)
  first | go_big_quiet_skip | (go_big_quiet_want; go_big_quiet_op; go_big_quiet_on)
  refine wpQuiet_nil ?_
  refine wpLin_nil ?_
  rintro w7 ⟨hi7, hz7, hb7⟩
  rw [if_neg (by decide)] at hz7
  clear hne hi5 hz5 hb5 w4
  have hB7 := hz7.lt
  go_wp2_with (first | (refine wp_loadBlk rfl (.tmp 2) rfl B za rfl hz7 ?_))
  refine (inoGet_any za za_byt 64 w7 (by decide) (by decide)).mono ?_
  rintro e w8 ⟨rfl, hb8⟩
  rw [za_get, za_err]
  have hi8 := hi7.below hb8 hi7.lt
  have hz8 := hz7.below hb8 hB7
  have hbl8 : Below w.heap.size w w8 := hb7.trans (hb8.mono hb7.size)
  have hs8 : B < w8.heap.size := hz8.lt
  have hn8 := InoAt.new w8 .nil
  have hal := zero_ino
  clear hi7 hz7 hb7 hB7 hb8
  go_wp2_with (first | (refine wp_storeIno rfl (.tmp 6) (.tmp 24) rfl w8.heap.size xa .nil rfl rfl hn8 ?_))
  intro w9 hi9 ho9
  have hx9 : InoAt w9 w.heap.size 27 xa := (hi8.alloc _).only ho9 (by omega)
  have hz9 : Blk w9 B 23 256 za := (hz8.alloc _).only ho9 (by omega)
  have hbl9 : Below w.heap.size w w9 := (hbl8.alloc hbl8.size _).trans (ho9.below hbl8.size)
  have hy9 : w8.heap.size < w9.heap.size := hi9.lt
  clear hi8 hz8 hbl8 hn8 ho9
  go_wp2_with (first | (refine wp_loadBlk rfl (.tmp 2) rfl B za rfl hz9 ?_))
  refine (inoGet_any za za_byt 0 w9 (by decide) (by decide)).mono ?_
  rintro e w10 ⟨rfl, hb10⟩
  rw [za_get0, za_err0]
  have hx10 := hx9.below hb10 hx9.lt
  have hy10 := hi9.below hb10 hi9.lt
  have hz10 := hz9.below hb10 hz9.lt
  have hbl10 : Below w.heap.size w w10 := hbl9.trans (hb10.mono hbl9.size)
  have hs10 := hb10.size
  have hn10 := InoAt.new w10 .nil
  clear hx9 hi9 hz9 hbl9 hb10
  go_wp2_with (first | (refine wp_storeIno rfl (.tmp 8) (.tmp 29) rfl w10.heap.size .nil .nil rfl rfl hn10 ?_))
  intro w11 hn11 ho11
  have hx11 : InoAt w11 w.heap.size 27 xa := (hx10.alloc _).only ho11 (by omega)
  have hy11 : InoAt w11 w8.heap.size 27 xa := (hy10.alloc _).only ho11 (by omega)
  have hz11 : Blk w11 B 23 256 za := (hz10.alloc _).only ho11 (by omega)
  have hbl11 : Below w.heap.size w w11 := (hbl10.alloc hbl10.size _).trans (ho11.below hbl10.size)
  clear hx10 hy10 hz10 hbl10 hn10 ho11 hal
  have b64 : w11.cell? ⟨B, 64, none⟩ = some (.int .u8 1) := by have := hz11.seg 64 (by decide); rw [Nat.zero_add, show za 64 = 1 by decide] at this; exact this
  have b66 : w11.cell? ⟨B, 66, none⟩ = some (.int .u8 2) := by have := hz11.seg 66 (by decide); rw [Nat.zero_add, show za 66 = 2 by decide] at this; exact this
  have b72 : w11.cell? ⟨B, 72, none⟩ = some (.int .u8 44) := by have := hz11.seg 72 (by decide); rw [Nat.zero_add, show za 72 = 44 by decide] at this; exact this
  have b73 : w11.cell? ⟨B, 73, none⟩ = some (.int .u8 1) := by have := hz11.seg 73 (by decide); rw [Nat.zero_add, show za 73 = 1 by decide] at this; exact this
  have b76 : w11.cell? ⟨B, 76, none⟩ = some (.int .u8 9) := by have := hz11.seg 76 (by decide); rw [Nat.zero_add, show za 76 = 9 by decide] at this; exact this
  have b116 : w11.cell? ⟨B, 116, none⟩ = some (.int .u8 7) := by have := hz11.seg 116 (by decide); rw [Nat.zero_add, show za 116 = 7 by decide] at this; exact this
  have b120 : w11.cell? ⟨B, 120, none⟩ = some (.int .u8 5) := by have := hz11.seg 120 (by decide); rw [Nat.zero_add, show za 120 = 5 by decide] at this; exact this
  have q1 : ∀ W, (binOp .eql 27 xa.val xa.val).run Try.prog W = .ok (.bool true) W := fun W => by rw [run_eql_ino, show inoEq xa xa = true by decide]
  have q2 : ∀ W, (binOp .eql 27 Ino.nil.val Ino.nil.val).run Try.prog W = .ok (.bool true) W := fun W => by rw [run_eql_ino, show inoEq .nil .nil = true by decide]
  have hal := zero_ino
  clear hz11
  go_wp2_with (first | (refine wp_loadInoG rfl (.tmp 6) rfl w8.heap.size xa rfl hy11 ?_) | (refine wp_loadInoG rfl (.tmp 1) rfl w.heap.size xa rfl hx11 ?_) | (refine wp_loadInoG rfl (.tmp 8) rfl w10.heap.size .nil rfl hn11 ?_))
  refine (may_any { Ino.nil with gen := 9 } x9_ok _).mono ?_
  rintro e w12 ⟨rfl, hb12⟩
  rw [show decide ({ Ino.nil with gen := 9 } : Ino).May = true by decide]
  have hbl12 : Below w.heap.size w w12 := hbl11.trans (hb12.mono hbl11.size)
  clear b64 b66 b72 b73 b76 b116 b120 hx11 hy11 hn11 hbl11 hb12
  go_wp2_with fail
  refine (may_any { Ino.nil with size := 1 } x1_ok _).mono ?_
  rintro e w13 ⟨rfl, hb13⟩
  rw [show decide ({ Ino.nil with size := 1 } : Ino).May = false by decide]
  have hbl13 : Below w.heap.size w w13 := hbl12.trans (hb13.mono hbl12.size)
  clear hbl12 hb13
  go_wp2_with fail
  go_ret
  exact ⟨rfl, hbl13⟩
end Go.Proofs.Ytlgjpjccjklnnaa
