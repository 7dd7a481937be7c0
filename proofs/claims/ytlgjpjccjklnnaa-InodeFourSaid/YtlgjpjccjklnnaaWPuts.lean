/- The walk of the law InodePuts. -/
import Derived.Test.YtlgjpjccjklnnaaInoPutY
import Derived.Test.YtlgjpjccjklnnaaRPutY
import Derived.Test.YtlgjpjccjklnnaaRegion
namespace Go.Proofs.Ytlgjpjccjklnnaa
open Go.RowKit Go.Shelf
set_option linter.unusedVariables false

theorem InoAt.range {w : World} {g : Nat} {T : TypeId} {x : Ino} (h : InoAt w g T x) : w.rangeAt g 0 x.arr.toList := by
  intro j v hj
  rw [Nat.zero_add]
  exact cell_of_heap h (by simpa using hj)
/-- inode.Put, whatever is put -/
theorem inoPut_any (g : Nat) (T : TypeId) (z : Nat → Int) (hz : Byt z) (a : Int) (x : Ino) (hx : x.Ok) (w : World) (hB : Blk w g T 256 z) (h0 : -9223372036854775808 ≤ a) (h1 : a ≤ 9223372036854775807) :
    Calls Try.prog 10 #[.pointer (some ⟨g, 0, none⟩), .int .i64 a, x.val] w fun e w' => e = .returned (.int .i64 (putErr a x)) ∧ Blk w' g T 256 (putZ z a x) ∧ w.grownBy w' (some g) := by
  cases hok : putOk a x with
  | true =>
    have he : putErr a x = 0 := by unfold putOk at hok; rw [Bool.and_eq_true] at hok; unfold putErr; rw [hok.1, hok.2]; rfl
    rw [he, putZ, hok, if_pos rfl]
    exact inoPut_yes g T z hz a x hx w hB hok
  | false =>
    rw [putZ, hok]
    exact (inoPut_no g a x hx w h0 h1 hok).mono fun e w' h => ⟨h.1, hB.below h.2 hB.lt, grown_below h.2⟩
theorem rput_any (z : Nat → Int) (hz : Byt z) (a : Int) (x : Ino) (hx : x.Ok) (w : World) :
    Calls Try.prog 11 #[bval z, .int .i64 a, x.val] w fun e w' => e = .returned (.tuple #[bval (putZ z a x), .int .i64 (putErr a x)]) ∧ Below w.heap.size w w' := by
  cases hok : putOk a x with
  | true =>
    have he : putErr a x = 0 := by unfold putOk at hok; rw [Bool.and_eq_true] at hok; unfold putErr; rw [hok.1, hok.2]; rfl
    rw [he, putZ, hok, if_pos rfl]
    exact rput_yes z hz a x hx w hok
  | false =>
    rw [putZ, hok]
    exact rput_no z a x hx w hok

theorem keepS {w W W' : World} {g3 : Nat} {y : Nat → Int} {x : Ino}
    (h : W.rangeAt (w.heap.size + 1 + 1) 0 (Ks .u8 256 y) ∧ W.rangeAt g3 0 (Ks .u8 256 y) ∧ W.rangeAt (w.heap.size + 1) 0 x.arr.toList ∧ g3 < W.heap.size ∧ Below w.heap.size w W) (hb : Below W.heap.size W W') (h3 : w.heap.size + 1 + 1 < g3) :
    W'.rangeAt (w.heap.size + 1 + 1) 0 (Ks .u8 256 y) ∧ W'.rangeAt g3 0 (Ks .u8 256 y) ∧ W'.rangeAt (w.heap.size + 1) 0 x.arr.toList ∧ g3 < W'.heap.size ∧ Below w.heap.size w W' :=
  ⟨rangeAt_below h.1 hb (by omega), rangeAt_below h.2.1 hb (by omega), rangeAt_below h.2.2.1 hb (by omega), Nat.lt_of_lt_of_le h.2.2.2.1 hb.size, h.2.2.2.2.trans (hb.mono h.2.2.2.2.size)⟩

set_option maxRecDepth 100000 in
set_option maxHeartbeats 4000000 in
theorem inodePuts_walk (z : Nat → Int) (hz : Byt z) (a : Int) (x : Ino) (hx : x.Ok) (w : World) (h0 : -9223372036854775808 ≤ a) (h1 : a ≤ 9223372036854775807) :
    Calls Try.prog 3 #[bval z, .int .i64 a, x.val] w fun e w' => e = .returned (.bool true) ∧ Below w.heap.size w w' := by
  have hal := zero_block
  have hI : Hid (InoAt ((w.alloc (.cells (Ks .u8 256 z).toArray 23)).alloc (.cells x.arr 27)) (w.heap.size + 1) 27 x) := by
    have := heap_alloc_new (w.alloc (.cells (Ks .u8 256 z).toArray 23)) (.cells x.arr 27)
    simp only [World.size_alloc] at this; exact this
  have hB : Hid (Blk ((w.alloc (.cells (Ks .u8 256 z).toArray 23)).alloc (.cells x.arr 27)) w.heap.size 23 256 z) := (Blk.new _ _ _ _).alloc _
  have hM : Hid (Blk (((w.alloc (.cells (Ks .u8 256 z).toArray 23)).alloc (.cells x.arr 27)).alloc (.cells (Ks .u8 256 (fun _ => 0)).toArray 23)) (w.heap.size + 1 + 1) 23 256 (fun _ => 0)) := by
    have := Blk.new ((w.alloc (.cells (Ks .u8 256 z).toArray 23)).alloc (.cells x.arr 27)) 23 256 (fun _ => 0)
    simp only [World.size_alloc] at this; exact this
  go_enter Try.func3, Try.ntmps3
  go_wp2_with (first | (refine wp_loadBlk rfl (.tmp 3) rfl w.heap.size z rfl hB.out ?_) | (refine wp_storeBlk rfl (.tmp 7) (.tmp 11) rfl (w.heap.size + 1 + 1) z _ rfl rfl hM.out ?_))
  intro w1 hm1 ho1
  have hb1 : Blk w1 w.heap.size 23 256 z := (hB.out.alloc _).only ho1 (by omega)
  have hi1 : InoAt w1 (w.heap.size + 1) 27 x := (ho1.block _ (by omega)).trans (heap_alloc_keep hI.out _)
  have hbl1 : Below w.heap.size w w1 := ((((Below.refl _ _).alloc (Nat.le_refl _) _).alloc (by simp) _).alloc (by simp; omega) _).trans (ho1.below (by omega))
  clear hI hB hM ho1
  have hi : Hid (w1.heap[w.heap.size + 1]? = some (.cells x.arr 27 (0, 0))) := hi1
  go_wp2_with (first | (refine wpList_load_row rfl 27 (.tmp 5) rfl (w.heap.size + 1) rfl 27 x.arr (0, 0) _ hi.out Try.underlying27 rfl (by kernel_rfl) ?_))
  refine (inoPut_any (w.heap.size + 1 + 1) 23 z hz a x hx _ hm1 h0 h1).mono ?_
  rintro e w2 ⟨rfl, hm2, hg2⟩
  have hb2 : Blk w2 w.heap.size 23 256 z := (hg2.block _ hb1.lt (by simp; omega)).trans hb1
  have hi2 : InoAt w2 (w.heap.size + 1) 27 x := (hg2.block _ hi1.lt (by simp)).trans hi1
  have hbl2 : Below w.heap.size w w2 := hbl1.grown hg2 hbl1.size (fun k e => by cases e; omega)
  clear hi hb1 hi1 hm1 hbl1 hg2
  have hi : Hid (w2.heap[w.heap.size + 1]? = some (.cells x.arr 27 (0, 0))) := hi2
  go_wp2_with (first | (refine wpList_load_row rfl 27 (.tmp 5) rfl (w.heap.size + 1) rfl 27 x.arr (0, 0) _ hi.out Try.underlying27 rfl (by kernel_rfl) ?_) | (refine wp_loadBlk rfl (.tmp 3) rfl w.heap.size z rfl hb2 ?_))
  refine (rput_any z hz a x hx _).mono ?_
  rintro e w3 ⟨rfl, hb23⟩
  have hm3 : Blk w3 (w.heap.size + 1 + 1) 23 256 (putZ z a x) := hm2.below hb23 hm2.lt
  have hi3 : InoAt w3 (w.heap.size + 1) 27 x := hi2.below hb23 hi2.lt
  have hbl3 : Below w.heap.size w w3 := hbl2.trans (hb23.mono hbl2.size)
  have hsz3 : w.heap.size + 1 + 1 < w3.heap.size := hm3.lt
  clear hi hb2 hi2 hm2 hbl2 hb23
  have hw : Hid (Blk (w3.alloc (.cells (Ks .u8 256 (fun _ => 0)).toArray 23)) w3.heap.size 23 256 (fun _ => 0)) := Blk.new _ _ _ _
  generalize putZ z a x = y at hm3 ⊢
  generalize putErr a x = er
  go_wp2_with (first | (refine wp_storeBlk rfl (.tmp 9) (.tmp 20) rfl w3.heap.size y _ rfl rfl hw.out ?_))
  intro w4 hw4 ho4
  have hm4 : Blk w4 (w.heap.size + 1 + 1) 23 256 y := (hm3.alloc _).only ho4 (by omega)
  have hi4 : InoAt w4 (w.heap.size + 1) 27 x := (ho4.block _ (by omega)).trans (heap_alloc_keep hi3 _)
  have hbl4 : Below w.heap.size w w4 := (hbl3.alloc hbl3.size _).trans (ho4.below hbl3.size)
  have hsz4 : w3.heap.size < w4.heap.size := hw4.lt
  clear hw ho4 hm3 hi3 hbl3
  have hq := fun W => run_eql_block y y W
  rw [eqB_refl] at hq
  have hqe : (er == er) = true := by simp
  have r1 := hm4.range
  have r2 := hw4.range
  have r3 := hi4.range
  have u1 := Try.underlying23
  have u2 : (Try.prog.info? 23).map (·.size) = some (Ks .u8 256 y).length := by rw [Ks_length]; exact info_block
  have u3 : (Ks .u8 256 y).length = 256 := Ks_length _ _ _
  have u4 : ∀ v ∈ Ks .u8 256 y, v.oneCell' = true := fun v hv => by obtain ⟨i, _, rfl⟩ := List.mem_map.1 hv; rfl
  go_wp2_with fail
  refine wp_region_S (fun w' => w'.rangeAt (w.heap.size + 1 + 1) 0 (Ks .u8 256 y) ∧ w'.rangeAt w3.heap.size 0 (Ks .u8 256 y) ∧ w'.rangeAt (w.heap.size + 1) 0 x.arr.toList ∧ w3.heap.size < w'.heap.size ∧ Below w.heap.size w w') (by kernel_rfl) (by kernel_rfl) ⟨r1, r2, r3, hsz4, hbl4.drew⟩ ?_
  intro hne
  refine q_load rfl 23 (.tmp 7) rfl _ _ rfl (Ks .u8 256 y) _ (fun W h => h.1) u1 rfl u2 ?_
  refine wpQuiet_frame (by simp only [Act.put, List.setIfInBounds_toArray, List.set_cons_succ, List.set_cons_zero]; exact rfl) ?_
  refine q_load rfl 23 (.tmp 9) rfl _ _ rfl (Ks .u8 256 y) _ (fun W h => h.2.1) u1 rfl u2 ?_
  refine wpQuiet_frame (by simp only [Act.put, List.setIfInBounds_toArray, List.set_cons_succ, List.set_cons_zero]; exact rfl) ?_
  first | go_big_quiet_skip | (go_big_quiet_want; go_big_quiet_op; go_big_quiet_on)
  first | go_big_quiet_skip | (go_big_quiet_want; go_big_quiet_op; go_big_quiet_on)
  first | go_big_quiet_skip | (go_big_quiet_want; go_big_quiet_op; go_big_quiet_on)
  first | go_big_quiet_skip | (go_big_quiet_want; go_big_quiet_op; go_big_quiet_on)
  first | go_big_quiet_skip | (go_big_quiet_want; go_big_quiet_op; go_big_quiet_on)
  first | go_big_quiet_skip | (go_big_quiet_want; go_big_quiet_op; go_big_quiet_on)
  first | go_big_quiet_skip | (go_big_quiet_want; go_big_quiet_op; go_big_quiet_on)
  refine q_load rfl 27 (.tmp 5) rfl _ _ rfl x.arr.toList _ (fun W h => h.2.2.1) Try.underlying27 rfl (by kernel_rfl) ?_
  refine wpQuiet_frame (by simp only [Act.put, List.setIfInBounds_toArray, List.set_cons_succ, List.set_cons_zero]; exact rfl) ?_
  go_big_quiet_want
  go_big_quiet_op
  refine ⟨_, fun s => q_call s (fun W hW => (may_any x hx W).mono fun e w' h => ⟨h.1, keepS hW h.2 (by omega)⟩), ?_⟩
  go_big_quiet_on
  refine q_load rfl 27 (.tmp 5) rfl _ _ rfl x.arr.toList _ (fun W h => h.2.2.1) Try.underlying27 rfl (by kernel_rfl) ?_
  refine wpQuiet_frame (by simp only [Act.put, List.setIfInBounds_toArray, List.set_cons_succ, List.set_cons_zero]; exact rfl) ?_
  go_big_quiet_want
  go_big_quiet_op
  refine ⟨_, fun s => q_call s (fun W hW => (rmay_any x hx W).mono fun e w' h => ⟨h.1, keepS hW h.2 (by omega)⟩), ?_⟩
  go_big_quiet_on
  first | go_big_quiet_skip | (go_big_quiet_want; go_big_quiet_op; go_big_quiet_on)
  first | go_big_quiet_skip | (go_big_quiet_want; go_big_quiet_op; go_big_quiet_on)
  first | go_big_quiet_skip | (go_big_quiet_want; go_big_quiet_op; go_big_quiet_on)
  first | go_big_quiet_skip | (go_big_quiet_want; go_big_quiet_op; go_big_quiet_on)
  refine q_load rfl 27 (.tmp 5) rfl _ _ rfl x.arr.toList _ (fun W h => h.2.2.1) Try.underlying27 rfl (by kernel_rfl) ?_
  refine wpQuiet_frame (by simp only [Act.put, List.setIfInBounds_toArray, List.set_cons_succ, List.set_cons_zero]; exact rfl) ?_
  go_big_quiet_want
  go_big_quiet_op
  refine ⟨_, fun s => q_call s (fun W hW => (inoPut_nil a x W).mono fun e w' h => ⟨h.1, keepS hW h.2 (by omega)⟩), ?_⟩
  go_big_quiet_on
  first | go_big_quiet_skip | (go_big_quiet_want; go_big_quiet_op; go_big_quiet_on)
  first | go_big_quiet_skip | (go_big_quiet_want; go_big_quiet_op; go_big_quiet_on)
  first | go_big_quiet_skip | (go_big_quiet_want; go_big_quiet_op; go_big_quiet_on)
  refine wpQuiet_nil ?_
  intro w5 h5
  have hbl5 : Below w.heap.size w w5 := h5.out.2.2.2.2
  clear h5 hne
  go_wp2
  go_ret
  exact ⟨rfl, hbl5⟩
end Go.Proofs.Ytlgjpjccjklnnaa
