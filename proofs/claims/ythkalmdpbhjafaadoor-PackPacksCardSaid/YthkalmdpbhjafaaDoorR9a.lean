/- Contracts of quernref09.block, WriteHead and WriteCommit. -/
import Derived.Test.YthkalmdpbhjafaaDoorSame9
import Derived.Test.YthkalmdpbhjafaaDoorMg1
namespace Go.Proofs.YthkalmdpbhjafaaDoor
open Go.RowKit
set_option linter.unusedVariables false

theorem rputW (g : Nat) {T : TypeId} (l : Nat → Int) (k : Nat) (K v : Int) (hK : K = 4 * (k : Int)) (hk : k < 64) (hv : 0 ≤ v) (hv2 : v < 4294967296) (w : World) (hB : Blk w g T 256 (wz l)) :
    Calls Tryd.prog 73 #[.slice (some ⟨g, 0, none⟩) 256 256, .int .i64 K, .int .u32 v] w fun e w' => e = .returned (.bool true) ∧ Blk w' g T 256 (wz (upd l k v)) ∧ Only g w w' := by
  refine (rput32_yes g 0 256 256 K v (wz l) w (by omega) (by omega) (by omega) hv hv2 hB.seg (wz_byt l) (hB.soft 0 256)).mono fun e w' ⟨he, hp⟩ => ⟨he, ?_, hp.only⟩
  rw [show 0 + K.toNat = 4 * k by omega] at hp
  exact (hB.puts hp).congr fun i _ => wz_put l k v i
theorem numR_upd (m : Nat → Int) (k j : Nat) : upd (numR m k) k (m k) j = numR m (k + 1) j := by
  unfold upd numR
  by_cases h : j = k
  · rw [if_pos h, if_pos (by omega), h]
  · rw [if_neg h]
    by_cases c : j < k
    · rw [if_pos c, if_pos (by omega)]
    · rw [if_neg c, if_neg (by omega)]
structure BkC (w : World) (G b off n : Nat) (m : Nat → Int) (k j : Nat) (W : World) : Prop where
  r : Blk W w.heap.size 40 256 (fun _ => 0)
  g : Blk W G 40 256 (wz (if j = 0 then numR m k else numR m (k + 1)))
  t : NumSeg W b off n m
  bel : Below w.heap.size w W

set_option maxRecDepth 100000 in
set_option maxHeartbeats 2000000 in
theorem rblock_any (a : Option Addr) (n cap : Nat) (m : Nat → Int) (hm : Wds m) (hn : n ≤ 64) (w : World) (hT : NumRow w a n m) :
    Calls Tryd.prog 47 #[.slice a n cap] w fun e w' => e = .returned (bval (wz (numR m n))) ∧ Below w.heap.size w w' := by
  have hal := zero_block
  have hR : Blk ((w.alloc (.cells (Ks .u8 256 (fun _ => 0)).toArray 40)).alloc (.cells (Ks .u8 256 (fun _ => 0)).toArray 40)) w.heap.size 40 256 (fun _ => 0) := (Blk.new _ _ _ _).alloc _
  have hB : Blk ((w.alloc (.cells (Ks .u8 256 (fun _ => 0)).toArray 40)).alloc (.cells (Ks .u8 256 (fun _ => 0)).toArray 40)) (w.heap.size + 1) 40 256 (wz (numR m 0)) := by
    have := Blk.new (w.alloc (.cells (Ks .u8 256 (fun _ => 0)).toArray 40)) 40 256 (fun _ => 0)
    simp only [World.size_alloc] at this
    exact this.congr fun i _ => (byteOf_0 _).symm
  have hL : Below w.heap.size w ((w.alloc (.cells (Ks .u8 256 (fun _ => 0)).toArray 40)).alloc (.cells (Ks .u8 256 (fun _ => 0)).toArray 40)) := ((Below.refl _ _).alloc (Nat.le_refl _) _).alloc (by simp) _
  have hT1 := hT.below hL
  have hblk : ∀ x, a = some x → 0 < n → x.block < w.heap.size := fun x hx h0 => hT.block h0 x hx
  have HBLK := Lib.hid hblk
  have HM := Lib.hid hm
  clear hT hblk hm
  go_enter Tryd.func47, Tryd.ntmps47
  go_wp2_with fail
  generalize ((w.alloc (.cells (Ks .u8 256 (fun _ => 0)).toArray 40)).alloc (.cells (Ks .u8 256 (fun _ => 0)).toArray 40)) = w1 at hR hB hL hT1 ⊢
  go_loopw [4] (fun u wr => ∃ k : Nat, k ≤ n ∧ u = .int .i64 (k : Int) ∧ Blk wr w.heap.size 40 256 (fun _ => 0) ∧ Blk wr (w.heap.size + 1) 40 256 (wz (numR m k)) ∧ NumRow wr a n m ∧ Below w.heap.size w wr) (fun u _ => n - (intOf u).toNat)
  case atStart => exact ⟨0, by omega, rfl, hR, hB, hT1, hL⟩
  case round =>
    clear hR hB hL hT1
    obtain ⟨k, hk, rfl, hR, hB, hT, hL⟩ := hrel
    by_cases hlt : k < n
    · obtain ⟨b, off, rfl, hseg⟩ : ∃ b off, a = some ⟨b, off, none⟩ ∧ NumSeg wr b off n m := by
        rcases hT with h | h
        · omega
        · exact h
      have hblt := HBLK.out _ rfl (by omega)
      simp only at hblt
      obtain ⟨hm0, hm1⟩ := HM.out k
      have hc0 : ∀ x : InW (fun W => ∃ j, BkC w (w.heap.size + 1) b off n m k j W), x.W.cell? ⟨b, off + k, none⟩ = some (.int .u32 (m k)) := fun x => by obtain ⟨j, h⟩ := x.h; exact h.t k hlt
      have e1 : IntKind.i64.wrap (4 * (k : Int)) = 4 * (k : Int) := IntWalk.i64_in _ (by omega)
      have hsa := fun W => run_sliceBlkAll (w.heap.size + 1) 0 W
      have l0 : (0 : Int) ≤ (k : Int) := by omega
      have l1 : (k : Int) < (n : Int) := by omega
      go_wp2_with fail
      refine wp_region_lin (BkC w (w.heap.size + 1) b off n m k) (by kernel_rfl) (by kernel_rfl) (by kernel_rfl) ⟨hR, hB, hseg, hL.drew⟩ ?_
      intro hne
      (refine lin_take 7 (by kernel_rfl) ?_; simp only [List.take_succ_cons, List.take_zero, List.drop_succ_cons, List.drop_zero])
      first | go_big_quiet_skip | (go_big_quiet_want; go_big_quiet_op; go_big_quiet_on)
      first | go_big_quiet_skip | (go_big_quiet_want; go_big_quiet_op; go_big_quiet_on)
      first | go_big_quiet_skip | (go_big_quiet_want; go_big_quiet_op; go_big_quiet_on)
      first | go_big_quiet_skip | (go_big_quiet_want; go_big_quiet_op; go_big_quiet_on)
      first | go_big_quiet_skip | (go_big_quiet_want; go_big_quiet_op; go_big_quiet_on)
      first | go_big_quiet_skip | (go_big_quiet_want; go_big_quiet_op; go_big_quiet_on)
      first | go_big_quiet_skip | (go_big_quiet_want; go_big_quiet_op; go_big_quiet_on)
      refine wpQuiet_nil ?_
      refine lin_call rfl rfl 73 #[.slice (some ⟨w.heap.size + 1, 0, none⟩) 256 256, .int .i64 (4 * (k : Int)), .int .u32 (m k)] (.bool true) (fun W => by kernel_rfl) (fun W h => ?c1) ?_
      case c1 =>
        refine (rputW (w.heap.size + 1) (numR m k) k (4 * (k : Int)) (m k) rfl (by omega) hm0 hm1 W h.g).mono ?_
        rintro e w6 ⟨rfl, hB6, ho6⟩
        exact ⟨rfl, h.r.only ho6 (by omega), hB6.congr fun i hi => wz_congr 64 (fun j _ => numR_upd m k j) i hi, h.t.only ho6 (by omega), h.bel.trans (ho6.below (by omega))⟩
      refine wpLin_frame (by simp only [Act.put, List.setIfInBounds_toArray, List.set_cons_succ, List.set_cons_zero]; exact rfl) ?_
      refine wpLin_nil ?_
      rintro w6 ⟨hR6, hB6, hT6, hL6⟩
      rw [if_neg (by decide)] at hB6
      clear hne hR hB hT hL hseg hc0 e1 hsa
      go_wp2_with fail
      go_roundw
      case rel => first | exact ⟨k + 1, by omega, by go_num, hR6, hB6, .inr ⟨b, off, rfl, hT6⟩, hL6⟩ | ((repeat apply Exists.intro); exact ⟨⟨k + 1, by omega, by go_num, hR6, hB6, .inr ⟨b, off, rfl, hT6⟩, hL6⟩, rfl⟩)
      case measure => simp [intOf]; omega
    · obtain rfl : k = n := by omega
      go_wp2_with (first | (refine wp_loadBlk rfl (.tmp 3) rfl (w.heap.size + 1) (wz (numR m k)) rfl hB ?_) | (refine wp_storeBlk rfl (.tmp 2) (.tmp 19) rfl w.heap.size (wz (numR m k)) _ rfl rfl hR ?_))
      intro w6 hR6 ho6
      go_wp2_with fail
      exact bodyPost_ret (results_blk rfl _ _ w.heap.size _ rfl hR6) rfl ⟨rfl, hL.trans (ho6.below (Nat.le_refl _))⟩
end Go.Proofs.YthkalmdpbhjafaaDoor
