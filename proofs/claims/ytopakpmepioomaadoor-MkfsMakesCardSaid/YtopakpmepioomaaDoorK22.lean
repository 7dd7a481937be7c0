/- Texts of this claim, merged by a program (a claim may have 60 files): InoPut, RPut. -/
import Derived.Test.YtopakpmepioomaaDoorK20
import Derived.Test.YtopakpmepioomaaDoorK01
import Derived.Test.YtopakpmepioomaaDoorK02
import Derived.Test.YtopakpmepioomaaDoorK21
import Derived.StillTailTactics
/- The contract of inode.Put. -/
namespace Go.Proofs.YtopakpmepioomaaDoor
open Go.RowKit Go.Shelf
set_option linter.unusedVariables false
attribute [local go_sem] Oper.semAt_some

/-- may x be put at a place? -/
def putOk (a : Int) (x : Ino) : Bool := placeB a && decide x.May
def putErr (a : Int) (x : Ino) : Int := if placeB a then (if decide x.May then 0 else 70) else 2
def putZ (z : Nat → Int) (a : Int) (x : Ino) : Nat → Int := if putOk a x then over z a.toNat 64 x.byte else z

theorem inoPut_nil (a : Int) (x : Ino) (w : World) :
    Calls Tryd.prog 36 #[.pointer none, .int .i64 a, x.val] w fun e w' => e = .returned (.int .i64 1) ∧ Below w.heap.size w w' := by
  refine (callsIn_wide (n := 5)).1 (callsIn_of_wp_marks Tryd.func36 rfl trivial ?_ rfl)
  refine wpIn_wide.2 ?_
  simp only [Tryd.ntmps36, List.size_toArray, List.length_cons, List.length_nil, Nat.reduceAdd, Nat.reduceSub, Array.replicate_succ, Array.replicate_zero, List.push_toArray, List.append_toArray, List.nil_append, List.cons_append]
  go_wp2_with fail
  exact bodyPostM_early (results_tmp rfl _ _ _) ⟨rfl, (Below.refl _ _).alloc (Nat.le_refl _) _⟩

set_option maxRecDepth 100000 in
set_option maxHeartbeats 4000000 in
theorem inoPut_no (g : Nat) (a : Int) (x : Ino) (hx : x.Ok) (w : World) (h0 : -9223372036854775808 ≤ a) (h1 : a ≤ 9223372036854775807) (hno : putOk a x = false) :
    Calls Tryd.prog 36 #[.pointer (some ⟨g, 0, none⟩), .int .i64 a, x.val] w fun e w' => e = .returned (.int .i64 (putErr a x)) ∧ Below w.heap.size w w' := by
  refine (callsIn_wide (n := 5)).1 (callsIn_of_wp_marks Tryd.func36 rfl trivial ?_ rfl)
  refine wpIn_wide.2 ?_
  simp only [Tryd.ntmps36, List.size_toArray, List.length_cons, List.length_nil, Nat.reduceAdd, Nat.reduceSub, Array.replicate_succ, Array.replicate_zero, List.push_toArray, List.append_toArray, List.nil_append, List.cons_append]
  have HNO := Lib.hid hno
  clear hno
  go_wp2_with fail
  refine (place_any a _ h0 h1).mono ?_
  rintro e w1 ⟨rfl, rfl⟩
  by_cases hp : placeB a = true
  · have hm : Hid (decide x.May = false) := by have := HNO.out; unfold putOk at this; rw [hp, Bool.true_and] at this; exact this
    have he : Hid (putErr a x = 70) := by show _ = _; unfold putErr; rw [hp, hm.out]; rfl
    rw [hp]
    clear hp HNO
    go_wp2_with fail
    refine (may_any x hx _).mono ?_
    rintro e w2 ⟨rfl, hb⟩
    rw [hm.out]
    go_wp2_with fail
    refine bodyPostM_early (results_tmp rfl _ _ _) ⟨?_, ?_⟩
    · rw [he.out]; rfl
    · exact ((Below.refl _ _).alloc (Nat.le_refl _) _).trans (hb.mono (by simp))
  · rw [Bool.not_eq_true] at hp
    have he : Hid (putErr a x = 2) := by show _ = _; unfold putErr; rw [hp]; rfl
    rw [hp]
    clear hp HNO
    go_wp2_with fail
    refine bodyPostM_early (results_tmp rfl _ _ _) ⟨?_, (Below.refl _ _).alloc (Nat.le_refl _) _⟩
    rw [he.out]; rfl

end Go.Proofs.YtopakpmepioomaaDoor

/- The contract of quernref07.Put. -/
namespace Go.Proofs.YtopakpmepioomaaDoor
open Go.RowKit
set_option linter.unusedVariables false

/-- what stands when the parameters are boxed -/
structure RPutFr (w : World) (z : Nat → Int) (x : Ino) (W : World) : Prop where
  b : Blk W w.heap.size 32 256 z
  i : InoAt W (w.heap.size + 1) 69 x
  r : Blk W (w.heap.size + 1 + 1) 32 256 (fun _ => 0)
  bel : Below w.heap.size w W
theorem rputFr_start (w : World) (z : Nat → Int) (x : Ino) : RPutFr w z x (((w.alloc (.cells (Ks .u8 256 z).toArray 32)).alloc (.cells x.arr 69)).alloc (.cells (Ks .u8 256 (fun _ => 0)).toArray 32)) := by
  refine ⟨((Blk.new _ _ _ _).alloc _).alloc _, ?_, ?_, (((Below.refl _ _).alloc (Nat.le_refl _) _).alloc (by simp) _).alloc (by simp; omega) _⟩
  · have : InoAt ((w.alloc (.cells (Ks .u8 256 z).toArray 32)).alloc (.cells x.arr 69)) (w.heap.size + 1) 69 x := by
      have := heap_alloc_new (w.alloc (.cells (Ks .u8 256 z).toArray 32)) (.cells x.arr 69)
      simp only [World.size_alloc] at this; exact this
    exact heap_alloc_keep this _
  · have := Blk.new ((w.alloc (.cells (Ks .u8 256 z).toArray 32)).alloc (.cells x.arr 69)) 32 256 (fun _ => 0)
    simp only [World.size_alloc] at this; exact this

set_option maxRecDepth 100000 in
set_option maxHeartbeats 4000000 in
theorem rput_no (z : Nat → Int) (a : Int) (x : Ino) (hx : x.Ok) (w : World) (hno : putOk a x = false) :
    Calls Tryd.prog 27 #[bval z, .int .i64 a, x.val] w fun e w' => e = .returned (.tuple #[bval z, .int .i64 (putErr a x)]) ∧ Below w.heap.size w w' := by
  have hal := zero_block
  have HNO := Lib.hid hno
  clear hno
  go_enter Tryd.func27, Tryd.ntmps27
  go_wp2_with fail
  refine ((rplace_any a _).mono (R' := fun e w' => e = .returned (.bool (placeB a)) ∧ RPutFr w z x w') (fun e w' h => ⟨h.1, h.2 ▸ rputFr_start w z x⟩)).mono ?_
  rintro e w1 ⟨rfl, hf⟩
  clear hal
  by_cases hp : placeB a = true
  · have hm : Hid (decide x.May = false) := by have := HNO.out; unfold putOk at this; rw [hp, Bool.true_and] at this; exact this
    have he : Hid (putErr a x = 70) := by show _ = _; unfold putErr; rw [hp, hm.out]; rfl
    rw [hp]
    clear hp HNO
    have hi : Hid (w1.heap[w.heap.size + 1]? = some (.cells x.arr 69 (0, 0))) := hf.i
    have hb := hf.bel
    go_wp2_with (first | (refine wpList_load_row rfl 69 (.tmp 5) rfl (w.heap.size + 1) rfl 69 x.arr (0, 0) _ hi.out Tryd.underlying69 rfl (by kernel_rfl) ?_))
    refine (rmay_any x hx _).mono ?_
    rintro e w2 ⟨rfl, hb2⟩
    rw [hm.out]
    have hbl := hb2.size
    have hk1 : w.heap.size + 1 + 1 < w1.heap.size := hf.r.lt
    have hB2 : Hid (w2.heap[w.heap.size]? = some (.cells (Ks .u8 256 z).toArray 32 (0, 0))) := hf.b.below hb2 (by omega)
    have hR2 : Hid (w2.heap[w.heap.size + 1 + 1]? = some (.cells (Ks .u8 256 (fun _ => 0)).toArray 32 (0, 0))) := hf.r.below hb2 hk1
    have hb3 : Below w.heap.size w w2 := hb.trans (hb2.mono hb.size)
    clear hf hb hb2
    go_wp2_with (first | (refine wpList_load_row rfl 32 (.tmp 3) rfl w.heap.size rfl 32 (Ks .u8 256 _).toArray (0, 0) _ hB2.out Tryd.underlying32 rfl (info_block' _) ?_) | (refine wpList_store_row rfl 32 (.tmp 6) (.tmp 17) rfl (w.heap.size + 1 + 1) (Ks .u8 256 z).toArray rfl rfl 32 _ hR2.out (info_block' _) (by rw [Ks_size, Ks_size]) (Ks_one _ _ _) ?_))
    refine bodyPost_ret (results_row_tmp rfl _ _ (w.heap.size + 1 + 1) 32 (Ks .u8 256 z).toArray (0, 0) _ rfl (Blk.setRow (z := fun _ => 0) hR2.out z) Tryd.underlying32 rfl (info_block' _)) rfl ⟨?_, ?_⟩
    · rw [he.out]; rfl
    · exact below_setRow hb3 (by omega) _
  · rw [Bool.not_eq_true] at hp
    have he : Hid (putErr a x = 2) := by show _ = _; unfold putErr; rw [hp]; rfl
    rw [hp]
    clear hp HNO
    have hk1 : w.heap.size + 1 + 1 < w1.heap.size := hf.r.lt
    have hB2 : Hid (w1.heap[w.heap.size]? = some (.cells (Ks .u8 256 z).toArray 32 (0, 0))) := hf.b
    have hR2 : Hid (w1.heap[w.heap.size + 1 + 1]? = some (.cells (Ks .u8 256 (fun _ => 0)).toArray 32 (0, 0))) := hf.r
    have hb3 := hf.bel
    clear hf
    go_wp2_with (first | (refine wpList_load_row rfl 32 (.tmp 3) rfl w.heap.size rfl 32 (Ks .u8 256 _).toArray (0, 0) _ hB2.out Tryd.underlying32 rfl (info_block' _) ?_) | (refine wpList_store_row rfl 32 (.tmp 6) (.tmp 13) rfl (w.heap.size + 1 + 1) (Ks .u8 256 z).toArray rfl rfl 32 _ hR2.out (info_block' _) (by rw [Ks_size, Ks_size]) (Ks_one _ _ _) ?_))
    refine bodyPost_ret (results_row_tmp rfl _ _ (w.heap.size + 1 + 1) 32 (Ks .u8 256 z).toArray (0, 0) _ rfl (Blk.setRow (z := fun _ => 0) hR2.out z) Tryd.underlying32 rfl (info_block' _)) rfl ⟨?_, ?_⟩
    · rw [he.out]; rfl
    · exact below_setRow hb3 (by omega) _
end Go.Proofs.YtopakpmepioomaaDoor
