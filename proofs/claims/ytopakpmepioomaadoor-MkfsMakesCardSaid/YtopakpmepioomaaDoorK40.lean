/- Texts of this claim, merged by a program (a claim may have 60 files): R9a, R9b. -/
import Derived.Test.YtopakpmepioomaaDoorK39
import Derived.Test.YtopakpmepioomaaDoorK02
/- Contracts of quernref09.block, WriteHead and WriteCommit. -/
namespace Go.Proofs.YtopakpmepioomaaDoor
open Go.RowKit
set_option linter.unusedVariables false

theorem rputW (g : Nat) {T : TypeId} (l : Nat → Int) (k : Nat) (K v : Int) (hK : K = 4 * (k : Int)) (hk : k < 64) (hv : 0 ≤ v) (hv2 : v < 4294967296) (w : World) (hB : Blk w g T 256 (wz l)) :
    Calls Tryd.prog 49 #[.slice (some ⟨g, 0, none⟩) 256 256, .int .i64 K, .int .u32 v] w fun e w' => e = .returned (.bool true) ∧ Blk w' g T 256 (wz (upd l k v)) ∧ Only g w w' := by
  refine (rput32_yes g 0 256 256 K v (wz l) w (by omega) (by omega) (by omega) hv hv2 hB.seg (wz_byt l) (hB.soft 0 256)).mono fun e w' ⟨he, hp⟩ => ⟨he, ?_, hp.only⟩
  rw [show 0 + K.toNat = 4 * k by omega] at hp
  exact (hB.puts hp).congr fun i _ => wz_put l k v i
theorem numR_upd (m : Nat → Int) (k j : Nat) : upd (numR m k) k (m k) j = numR m (k + 1) j := by
  unfold upd numR
  by_cases h : j = k
  · rw [if_pos h, if_pos (by omega), h]
  · rw [if_neg h]
    by_cases c : j < k
    · rw [if_pos c, if_pos (by omega)]
    · rw [if_neg c, if_neg (by omega)]
structure BkC (w : World) (G b off n : Nat) (m : Nat → Int) (k j : Nat) (W : World) : Prop where
  r : Blk W w.heap.size 32 256 (fun _ => 0)
  g : Blk W G 32 256 (wz (if j = 0 then numR m k else numR m (k + 1)))
  t : NumSeg W b off n m
  bel : Below w.heap.size w W

set_option maxRecDepth 100000 in
set_option maxHeartbeats 2000000 in
theorem rblock_any (a : Option Addr) (n cap : Nat) (m : Nat → Int) (hm : Wds m) (hn : n ≤ 64) (w : World) (hT : NumRow w a n m) :
    Calls Tryd.prog 54 #[.slice a n cap] w fun e w' => e = .returned (bval (wz (numR m n))) ∧ Below w.heap.size w w' := by
  have hal := zero_block
  have hR : Blk ((w.alloc (.cells (Ks .u8 256 (fun _ => 0)).toArray 32)).alloc (.cells (Ks .u8 256 (fun _ => 0)).toArray 32)) w.heap.size 32 256 (fun _ => 0) := (Blk.new _ _ _ _).alloc _
  have hB : Blk ((w.alloc (.cells (Ks .u8 256 (fun _ => 0)).toArray 32)).alloc (.cells (Ks .u8 256 (fun _ => 0)).toArray 32)) (w.heap.size + 1) 32 256 (wz (numR m 0)) := by
    have := Blk.new (w.alloc (.cells (Ks .u8 256 (fun _ => 0)).toArray 32)) 32 256 (fun _ => 0)
    simp only [World.size_alloc] at this
    exact this.congr fun i _ => (byteOf_0 _).symm
  have hL : Below w.heap.size w ((w.alloc (.cells (Ks .u8 256 (fun _ => 0)).toArray 32)).alloc (.cells (Ks .u8 256 (fun _ => 0)).toArray 32)) := ((Below.refl _ _).alloc (Nat.le_refl _) _).alloc (by simp) _
  have hT1 := hT.below hL
  have hblk : ∀ x, a = some x → 0 < n → x.block < w.heap.size := fun x hx h0 => hT.block h0 x hx
  have HBLK := Lib.hid hblk
  have HM := Lib.hid hm
  clear hT hblk hm
  go_enter Tryd.func54, Tryd.ntmps54
  go_wp2_with fail
  generalize ((w.alloc (.cells (Ks .u8 256 (fun _ => 0)).toArray 32)).alloc (.cells (Ks .u8 256 (fun _ => 0)).toArray 32)) = w1 at hR hB hL hT1 ⊢
  go_loopw [4] (fun u wr => ∃ k : Nat, k ≤ n ∧ u = .int .i64 (k : Int) ∧ Blk wr w.heap.size 32 256 (fun _ => 0) ∧ Blk wr (w.heap.size + 1) 32 256 (wz (numR m k)) ∧ NumRow wr a n m ∧ Below w.heap.size w wr) (fun u _ => n - (intOf u).toNat)
  case atStart => exact ⟨0, by omega, rfl, hR, hB, hT1, hL⟩
  case round =>
    clear hR hB hL hT1
    obtain ⟨k, hk, rfl, hR, hB, hT, hL⟩ := hrel
    by_cases hlt : k < n
    · obtain ⟨b, off, rfl, hseg⟩ : ∃ b off, a = some ⟨b, off, none⟩ ∧ NumSeg wr b off n m := by
        rcases hT with h | h
        · omega
        · exact h
      have hblt := HBLK.out _ rfl (by omega)
      simp only at hblt
      obtain ⟨hm0, hm1⟩ := HM.out k
      have hc0 : ∀ x : InW (fun W => ∃ j, BkC w (w.heap.size + 1) b off n m k j W), x.W.cell? ⟨b, off + k, none⟩ = some (.int .u32 (m k)) := fun x => by obtain ⟨j, h⟩ := x.h; exact h.t k hlt
      have e1 : IntKind.i64.wrap (4 * (k : Int)) = 4 * (k : Int) := IntWalk.i64_in _ (by omega)
      have hsa := fun W => run_sliceBlkAll (w.heap.size + 1) 0 W
      have l0 : (0 : Int) ≤ (k : Int) := by omega
      have l1 : (k : Int) < (n : Int) := by omega
      go_wp2_with fail
      refine wp_region_lin (BkC w (w.heap.size + 1) b off n m k) (by kernel_rfl) (by kernel_rfl) (by kernel_rfl) ⟨hR, hB, hseg, hL.drew⟩ ?_
      intro hne
      (refine lin_take 7 (by kernel_rfl) ?_; simp only [List.take_succ_cons, List.take_zero, List.drop_succ_cons, List.drop_zero])
      first | go_big_quiet_skip | (go_big_quiet_want; go_big_quiet_op; go_big_quiet_on)
      first | go_big_quiet_skip | (go_big_quiet_want; go_big_quiet_op; go_big_quiet_on)
      first | go_big_quiet_skip | (go_big_quiet_want; go_big_quiet_op; go_big_quiet_on)
      first | go_big_quiet_skip | (go_big_quiet_want; go_big_quiet_op; go_big_quiet_on)
      first | go_big_quiet_skip | (go_big_quiet_want; go_big_quiet_op; go_big_quiet_on)
      first | go_big_quiet_skip | (go_big_quiet_want; go_big_quiet_op; go_big_quiet_on)
      first | go_big_quiet_skip | (go_big_quiet_want; go_big_quiet_op; go_big_quiet_on)
      refine wpQuiet_nil ?_
      refine lin_call rfl rfl 49 #[.slice (some ⟨w.heap.size + 1, 0, none⟩) 256 256, .int .i64 (4 * (k : Int)), .int .u32 (m k)] (.bool true) (fun W => by kernel_rfl) (fun W h => ?c1) ?_
      case c1 =>
        refine (rputW (w.heap.size + 1) (numR m k) k (4 * (k : Int)) (m k) rfl (by omega) hm0 hm1 W h.g).mono ?_
        rintro e w6 ⟨rfl, hB6, ho6⟩
        exact ⟨rfl, h.r.only ho6 (by omega), hB6.congr fun i hi => wz_congr 64 (fun j _ => numR_upd m k j) i hi, h.t.only ho6 (by omega), h.bel.trans (ho6.below (by omega))⟩
      refine wpLin_frame (by simp only [Act.put, List.setIfInBounds_toArray, List.set_cons_succ, List.set_cons_zero]; exact rfl) ?_
      refine wpLin_nil ?_
      rintro w6 ⟨hR6, hB6, hT6, hL6⟩
      rw [if_neg (by decide)] at hB6
      clear hne hR hB hT hL hseg hc0 e1 hsa
      go_wp2_with fail
      go_roundw
      case rel => first | exact ⟨k + 1, by omega, by go_num, hR6, hB6, .inr ⟨b, off, rfl, hT6⟩, hL6⟩ | ((repeat apply Exists.intro); exact ⟨⟨k + 1, by omega, by go_num, hR6, hB6, .inr ⟨b, off, rfl, hT6⟩, hL6⟩, rfl⟩)
      case measure => simp [intOf]; omega
    · obtain rfl : k = n := by omega
      go_wp2_with (first | (refine wp_loadBlk rfl (.tmp 3) rfl (w.heap.size + 1) (wz (numR m k)) rfl hB ?_) | (refine wp_storeBlk rfl (.tmp 2) (.tmp 19) rfl w.heap.size (wz (numR m k)) _ rfl rfl hR ?_))
      intro w6 hR6 ho6
      go_wp2_with fail
      exact bodyPost_ret (results_blk rfl _ _ w.heap.size _ rfl hR6) rfl ⟨rfl, hL.trans (ho6.below (Nat.le_refl _))⟩
end Go.Proofs.YtopakpmepioomaaDoor

/- Contracts of quernref09.WriteHead and WriteCommit. -/
namespace Go.Proofs.YtopakpmepioomaaDoor
open Go.RowKit
set_option linter.unusedVariables false

theorem run_nums4 (a b c d : Int) (w : World) : (Instr.buildSlice 109 4 #[(0, .int .u32 a), (1, .int .u32 b), (2, .int .u32 c), (3, .int .u32 d)]).run Tryd.prog w = .ok (.slice (some ⟨w.heap.size, 0, none⟩) 4 4) (w.alloc (.cells #[.int .u32 a, .int .u32 b, .int .u32 c, .int .u32 d] 40)) := by kernel_rfl
theorem run_nums5 (a b c d f : Int) (w : World) : (Instr.buildSlice 109 5 #[(0, .int .u32 a), (1, .int .u32 b), (2, .int .u32 c), (3, .int .u32 d), (4, .int .u32 f)]).run Tryd.prog w = .ok (.slice (some ⟨w.heap.size, 0, none⟩) 5 5) (w.alloc (.cells #[.int .u32 a, .int .u32 b, .int .u32 c, .int .u32 d, .int .u32 f] 40)) := by kernel_rfl
theorem nums4 (w : World) (k s f : Int) (r : Nat → Int) : NumRow (w.alloc (.cells #[.int .u32 1280199249, .int .u32 k, .int .u32 s, .int .u32 f] 40)) (some ⟨w.heap.size, 0, none⟩) 4 (jw k s f r) := by
  refine .inr ⟨_, _, rfl, fun i hi => ?_⟩
  have h := heap_alloc_new w (.cells #[.int .u32 1280199249, .int .u32 k, .int .u32 s, .int .u32 f] 40)
  obtain rfl | rfl | rfl | rfl : i = 0 ∨ i = 1 ∨ i = 2 ∨ i = 3 := by omega
  all_goals exact cell_of_heap h rfl
theorem nums5 (w : World) (k s f v : Int) : NumRow (w.alloc (.cells #[.int .u32 1280199249, .int .u32 k, .int .u32 s, .int .u32 f, .int .u32 v] 40)) (some ⟨w.heap.size, 0, none⟩) 5 (jw k s f (sumR v)) := by
  refine .inr ⟨_, _, rfl, fun i hi => ?_⟩
  have h := heap_alloc_new w (.cells #[.int .u32 1280199249, .int .u32 k, .int .u32 s, .int .u32 f, .int .u32 v] 40)
  obtain rfl | rfl | rfl | rfl | rfl : i = 0 ∨ i = 1 ∨ i = 2 ∨ i = 3 ∨ i = 4 := by omega
  all_goals exact cell_of_heap h rfl
theorem wz_numR {m l : Nat → Int} {n : Nat} (h : ∀ k, k < 64 → (if k < n then m k else 0) = l k) : bval (wz (numR m n)) = bval (wz l) := bval_congr fun i hi => wz_congr 64 h i hi
theorem nz_wds' : Wds nz := fun _ => by unfold nz; decide
theorem sumR_wds' {v : Int} (hv : 0 ≤ v ∧ v < 4294967296) : Wds (sumR v) := fun k => by unfold sumR; split <;> omega

set_option maxRecDepth 100000 in
set_option maxHeartbeats 1000000 in
theorem rWriteHead_any (s t : Int) (w : World) (hs : 0 ≤ s ∧ s < 4294967296) (ht : -9223372036854775808 ≤ t ∧ t ≤ 9223372036854775807) :
    Calls Tryd.prog 26 #[.agg #[.int .u32 s, .int .i64 t]] w fun e w' => e = .returned (.tuple #[bval (headZ s t), .int .i64 (errOf (headOk s t) 2)]) ∧ Below w.heap.size w w' := by
  obtain ⟨hs0, hs1⟩ := hs
  obtain ⟨ht0, ht1⟩ := ht
  have hal := zero_block
  obtain ⟨W, hW⟩ : ∃ W, W = (w.alloc (.cells #[.int .u32 s, .int .i64 t] 65)).alloc (.cells (Ks .u8 256 (fun _ => 0)).toArray 32) := ⟨_, rfl⟩
  have c0 : W.cell? ⟨w.heap.size, 0, none⟩ = some (.int .u32 s) := by rw [hW]; exact cell_of_heap (heap_alloc_keep (heap_alloc_new w _) _) rfl
  have c1 : W.cell? ⟨w.heap.size, 1, none⟩ = some (.int .i64 t) := by rw [hW]; exact cell_of_heap (heap_alloc_keep (heap_alloc_new w _) _) rfl
  have hR : Blk W (w.heap.size + 1) 32 256 (fun _ => 0) := by
    rw [hW]
    have := Blk.new (w.alloc (.cells #[.int .u32 s, .int .i64 t] 65)) 32 256 (fun _ => 0)
    simp only [World.size_alloc] at this
    exact this
  have hL : Below w.heap.size w W := by rw [hW]; exact ((Below.refl _ _).alloc (Nat.le_refl _) _).alloc (by simp) _
  have HW := Lib.hid hW
  have HC0 := Lib.hid c0
  have HC1 := Lib.hid c1
  clear hW c0 c1
  go_enter Tryd.func26, Tryd.ntmps26
  go_wp2_with fail
  rw [← HW.out]
  refine (rSeq_any s _).mono ?_
  rintro e w1 ⟨rfl, rfl⟩
  have c0 := HC0.out
  have c1 := HC1.out
  clear HC0 HC1 HW
  by_cases hq : seqB s = true
  rotate_left
  · rw [Bool.not_eq_true] at hq
    have HO : Hid (headOk s t = false) := by show _ = _; unfold headOk; rw [hq]; rfl
    rw [hq]
    clear hq
    go_wp2_with (first | (refine wp_storeBlk rfl (.tmp 2) (.tmp 18) rfl (w.heap.size + 1) (fun _ => 0) _ rfl rfl hR ?_))
    intro w2 hR2 ho2
    go_wp2_with fail
    exact bodyPost_ret (results_blk2 rfl _ _ (w.heap.size + 1) _ rfl hR2) rfl ⟨by rw [headZ, HO.out]; rfl, hL.trans (ho2.below (by omega))⟩
  by_cases h1 : 0 ≤ t
  rotate_left
  · have HO : Hid (headOk s t = false) := by show _ = _; unfold headOk; simp [h1]
    rw [hq]
    clear hq
    go_wp2_with (first | (refine wp_storeBlk rfl (.tmp 2) (.tmp 18) rfl (w.heap.size + 1) (fun _ => 0) _ rfl rfl hR ?_))
    intro w2 hR2 ho2
    go_wp2_with fail
    exact bodyPost_ret (results_blk2 rfl _ _ (w.heap.size + 1) _ rfl hR2) rfl ⟨by rw [headZ, HO.out]; rfl, hL.trans (ho2.below (by omega))⟩
  by_cases h2 : t ≤ 255
  rotate_left
  · have HO : Hid (headOk s t = false) := by show _ = _; unfold headOk; simp [h2]
    rw [hq]
    clear hq
    go_wp2_with (first | (refine wp_storeBlk rfl (.tmp 2) (.tmp 18) rfl (w.heap.size + 1) (fun _ => 0) _ rfl rfl hR ?_))
    intro w2 hR2 ho2
    go_wp2_with fail
    exact bodyPost_ret (results_blk2 rfl _ _ (w.heap.size + 1) _ rfl hR2) rfl ⟨by rw [headZ, HO.out]; rfl, hL.trans (ho2.below (by omega))⟩
  have HO : Hid (headOk s t = true) := by show _ = _; unfold headOk; rw [hq]; simp [h1, h2]
  rw [hq]
  clear hq
  have hbs := run_nums4
  have hrow := nums4 W 4 s t nz
  have HROW := Lib.hid hrow
  clear hrow
  go_wp2_with fail
  refine (rblock_any _ 4 4 (jw 4 s t nz) (jw_wds (by decide) (by omega) (by omega) nz_wds') (by decide) _ HROW.out).mono ?_
  rintro e w2 ⟨rfl, hb2⟩
  rw [wz_numR (l := jw 4 s t nz) (fun k _ => by
    split
    · rfl
    · unfold jw nz; rw [if_neg (by omega), if_neg (by omega), if_neg (by omega), if_neg (by omega)])]
  have hR2 := (hR.alloc _).below hb2 (hR.alloc _).lt
  have hL2 : Below w.heap.size w w2 := (hL.alloc hL.size _).trans (hb2.mono (hL.alloc hL.size _).size)
  clear hR hL hb2 c0 c1 hbs HROW
  go_wp2_with (first | (refine wp_storeBlk rfl (.tmp 2) (.tmp 25) rfl (w.heap.size + 1) (wz (jw 4 s t nz)) _ rfl rfl hR2 ?_))
  intro w3 hR3 ho3
  go_wp2_with fail
  exact bodyPost_ret (results_blk2 rfl _ _ (w.heap.size + 1) _ rfl hR3) rfl ⟨by rw [headZ, HO.out]; rfl, hL2.trans (ho3.below (by omega))⟩

end Go.Proofs.YtopakpmepioomaaDoor
