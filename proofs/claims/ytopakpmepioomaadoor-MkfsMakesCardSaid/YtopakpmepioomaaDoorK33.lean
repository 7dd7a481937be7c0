/- Texts of this claim, merged by a program (a claim may have 60 files): RPutY. -/
import Derived.Test.YtopakpmepioomaaDoorK22
import Derived.Deep.RegionWith
/- The contract of quernref07.Put, where the inode may be put. -/
namespace Go.Proofs.YtopakpmepioomaaDoor
open Go.RowKit
set_option linter.unusedVariables false

set_option maxRecDepth 100000 in
set_option maxHeartbeats 4000000 in
theorem rput_yes (z : Nat → Int) (hz : Byt z) (a : Int) (x : Ino) (hx : x.Ok) (w : World) (hok : putOk a x = true) :
    Calls Tryd.prog 27 #[bval z, .int .i64 a, x.val] w fun e w' => e = .returned (.tuple #[bval (over z a.toNat 64 x.byte), .int .i64 0]) ∧ Below w.heap.size w w' := by
  unfold putOk at hok
  rw [Bool.and_eq_true] at hok
  obtain ⟨hp, hm⟩ := hok
  have hpl := (placeB_iff a).1 hp
  have hmay : x.May := of_decide_eq_true hm
  obtain ⟨hsz, hlk, hkd⟩ := Ino.may_bd hmay
  have HP := Lib.hid hp
  have HM := Lib.hid hm
  have ha0 : 0 ≤ a := by omega
  have ha1 : a ≤ 192 := by omega
  clear hp hm hpl
  obtain ⟨i, rfl⟩ := Int.eq_ofNat_of_zero_le ha0
  obtain ⟨hl0, hl1⟩ := hlk
  obtain ⟨hs0, hs1⟩ := hsz
  have hsa := fun g W => run_sliceBlkAll g 0 W
  have hal := zero_block
  go_enter Tryd.func27, Tryd.ntmps27
  go_wp2_with fail
  refine ((rplace_any (i : Int) _).mono (R' := fun e w' => e = .returned (.bool (placeB (i : Int))) ∧ RPutFr w z x w') (fun e w' h => ⟨h.1, h.2 ▸ rputFr_start w z x⟩)).mono ?_
  rintro e w1 ⟨rfl, hf⟩
  rw [HP.out]
  clear hal
  have hi : Hid (w1.heap[w.heap.size + 1]? = some (.cells x.arr 69 (0, 0))) := hf.i
  go_wp2_with (first | (refine wpList_load_row rfl 69 (.tmp 5) rfl (w.heap.size + 1) rfl 69 x.arr (0, 0) _ hi.out Tryd.underlying69 rfl (by kernel_rfl) ?_))
  refine (rmay_any x hx _).mono ?_
  rintro e w2 ⟨rfl, hb2⟩
  rw [HM.out]
  have hk1 : w.heap.size + 1 + 1 < w1.heap.size := hf.r.lt
  have hB2 : Blk w2 w.heap.size 32 256 z := hf.b.below hb2 (by omega)
  have hR2 : Blk w2 (w.heap.size + 1 + 1) 32 256 (fun _ => 0) := hf.r.below hb2 hk1
  have hI2 : InoAt w2 (w.heap.size + 1) 69 x := hf.i.below hb2 (by omega)
  have hb3 : Below w.heap.size w w2 := hf.bel.trans (hb2.mono hf.bel.size)
  clear hf hb2 hi hk1
  go_wp2_with fail
  go_loopw [8] (fun u wr => ∃ k : Nat, k ≤ 64 ∧ u = .int .i64 (k : Int) ∧ Puts w.heap.size i k (fun _ => 0) w2 wr) (fun u _ => 64 - (intOf u).toNat)
  case atStart => exact ⟨0, by omega, rfl, Puts.nil _ _ _ _⟩
  case round =>
    obtain ⟨k, hk, rfl, hp⟩ := hrel
    by_cases hlt : k < 64
    · have hcw := hB2.seg (i + k) (by omega)
      have hc : wr.cell? ⟨w.heap.size, i + k, none⟩ = some (.int .u8 (z (i + k))) := by
        have := hp.cell (i + k); rw [if_neg (by omega)] at this; rw [this, ← hcw, Nat.zero_add]
      have hfr : wr.frozen? ⟨w.heap.size, i + k, none⟩ = false := by rw [hp.only.frozen]; exact soft_of_heap hB2 _
      have HCW := Lib.hid hcw
      clear hcw
      go_wp2_with fail
      go_roundw
      case rel => exact ⟨k + 1, by omega, by go_num, hp.snoc (by have := HCW.out; rwa [Nat.zero_add] at this) rfl⟩
      case measure => simp [intOf]; omega
    · obtain rfl : k = 64 := by omega
      have hB3 := hB2.puts hp
      have hR3 : Blk wr (w.heap.size + 1 + 1) 32 256 (fun _ => 0) := hR2.only hp.only (by omega)
      have hI3 : InoAt wr (w.heap.size + 1) 69 x := hI2.only hp.only (by omega)
      have hb4 : Below w.heap.size w wr := hb3.trans (hp.only.below (Nat.le_refl _))
      clear hp hB2 hR2 hI2 hb3
      have c2 : wr.cell? ⟨w.heap.size + 1, 0, none⟩ = some (.int .u8 x.kind) := hI3.cell (i := 0) rfl
      have c3 : wr.cell? ⟨w.heap.size, i, none⟩ = some (.int .u8 (over z i 64 (fun _ => 0) i)) := by have := hB3.seg i (by omega); rwa [Nat.zero_add] at this
      have f3 : wr.frozen? ⟨w.heap.size, i, none⟩ = false := soft_of_heap hB3 i
      have hB4 := hB3.setCell i x.kind (by omega)
      have hO := Only.setCell wr ⟨w.heap.size, i, none⟩ (.int .u8 x.kind)
      have hR4 : Blk (wr.setCell ⟨w.heap.size, i, none⟩ (.int .u8 x.kind)) (w.heap.size + 1 + 1) 32 256 (fun _ => 0) := hR3.only hO (by simp; omega)
      have hI4 : InoAt (wr.setCell ⟨w.heap.size, i, none⟩ (.int .u8 x.kind)) (w.heap.size + 1) 69 x := hI3.only hO (by simp)
      have hb5 : Below w.heap.size w (wr.setCell ⟨w.heap.size, i, none⟩ (.int .u8 x.kind)) := hb4.trans (hO.below (Nat.le_refl _))
      have d2 : (wr.setCell ⟨w.heap.size, i, none⟩ (.int .u8 x.kind)).cell? ⟨w.heap.size + 1, 1, none⟩ = some (.int .i64 x.links) := hI4.cell (i := 1) rfl
      go_wp2_with fail
      generalize wr.setCell ⟨w.heap.size, i, none⟩ (.int .u8 x.kind) = W4 at hB4 hR4 hI4 hb5 d2 ⊢
      clear hO c2 c3 f3 hB3 hR3 hI3 hb4
      have hz4 : Byt (over (over z i 64 fun _ => 0) i 1 fun _ => x.kind) := byt_over (byt_over hz (fun _ => ⟨by simp, by simp⟩) _ _) (fun _ => ⟨by show 0 ≤ x.kind; omega, by show x.kind < 256; omega⟩) _ _
      have e1 : IntKind.i64.wrap ((i : Int) + 2) = (i : Int) + 2 := IntWalk.i64_in _ (by omega)
      have e2 : IntKind.u32.wrap x.links = x.links := IntWalk.u32_in _ (by omega)
      go_still_tail 6, (by kernel_rfl)
      go_wp2_with fail
      refine (rput16_yes w.heap.size 0 256 _ ((i : Int) + 2) x.links _ _ (by omega) (by omega) (by omega) hl0 (by omega) (by exact hB4.seg) hz4 (by exact hB4.soft 0 256)).mono ?_
      rintro e w5 ⟨rfl, hp5⟩
      rw [show 0 + ((i : Int) + 2).toNat = i + 2 by omega] at hp5
      have hB5 : Blk w5 w.heap.size 32 256 _ := Blk.puts (w := W4.drew) hB4 hp5
      have hR5 : Blk w5 (w.heap.size + 1 + 1) 32 256 (fun _ => 0) := Blk.only (w := W4.drew) hR4 hp5.only (by omega)
      have hI5 : InoAt w5 (w.heap.size + 1) 69 x := InoAt.only (w := W4.drew) hI4 hp5.only (by omega)
      have hb6 : Below w.heap.size w w5 := hb5.drew.trans (hp5.only.below (Nat.le_refl _))
      have hB5 := hB5.congr (fun j _ => x.stage_zero z i j)
      clear hp5 hB4 hR4 hI4 hb5 d2 hz4 e1 e2
      have hzs : Hid (∀ m, Byt (over z i 64 (x.stage m))) := fun m => byt_over hz (Ino.byt_stage hx hkd m) _ _
      have hzs0 := hzs.out 0
      have d3 : w5.cell? ⟨w.heap.size + 1, 2, none⟩ = some (.int .u32 x.gen) := hI5.cell (i := 2) rfl
      have hgen := hx.gen
      go_wp2_with fail
      have e1 : IntKind.i64.wrap ((i : Int) + 4) = (i : Int) + 4 := IntWalk.i64_in _ (by omega)
      go_still_tail 5, (by kernel_rfl)
      go_wp2_with fail
      refine (rput32_yes w.heap.size 0 256 _ ((i : Int) + 4) x.gen _ _ (by omega) (by omega) (by omega) (by omega) (by omega) (by exact hB5.seg) hzs0 (by exact hB5.soft 0 256)).mono ?_
      rintro e w6 ⟨rfl, hp6⟩
      rw [show 0 + ((i : Int) + 4).toNat = i + (4 + 4 * 0) by omega] at hp6
      have hB6 : Blk w6 w.heap.size 32 256 _ := Blk.puts (w := w5.drew) hB5 hp6
      have hR6 : Blk w6 (w.heap.size + 1 + 1) 32 256 (fun _ => 0) := Blk.only (w := w5.drew) hR5 hp6.only (by omega)
      have hI6 : InoAt w6 (w.heap.size + 1) 69 x := InoAt.only (w := w5.drew) hI5 hp6.only (by omega)
      have hb7 : Below w.heap.size w w6 := hb6.drew.trans (hp6.only.below (Nat.le_refl _))
      have hB6 := hB6.congr (fun j _ => x.stage_next z i 0 (by omega) j)
      clear hp6 hB5 hR5 hI5 hb6 d3 e1 hgen hzs0
      have hzs1 := hzs.out 1
      have d4 : w6.cell? ⟨w.heap.size + 1, 3, none⟩ = some (.int .i64 x.size) := hI6.cell (i := 3) rfl
      go_wp2_with fail
      have e1 : IntKind.i64.wrap ((i : Int) + 8) = (i : Int) + 8 := IntWalk.i64_in _ (by omega)
      have e2 : IntKind.u32.wrap x.size = x.size := IntWalk.u32_in _ (by omega)
      go_still_tail 6, (by kernel_rfl)
      go_wp2_with fail
      refine (rput32_yes w.heap.size 0 256 _ ((i : Int) + 8) x.size _ _ (by omega) (by omega) (by omega) (by omega) (by omega) (by exact hB6.seg) hzs1 (by exact hB6.soft 0 256)).mono ?_
      rintro e w7 ⟨rfl, hp7⟩
      rw [show 0 + ((i : Int) + 8).toNat = i + (4 + 4 * 1) by omega] at hp7
      have hB7 : Blk w7 w.heap.size 32 256 _ := Blk.puts (w := w6.drew) hB6 hp7
      have hR7 : Blk w7 (w.heap.size + 1 + 1) 32 256 (fun _ => 0) := Blk.only (w := w6.drew) hR6 hp7.only (by omega)
      have hI7 : InoAt w7 (w.heap.size + 1) 69 x := InoAt.only (w := w6.drew) hI6 hp7.only (by omega)
      have hb8 : Below w.heap.size w w7 := hb7.drew.trans (hp7.only.below (Nat.le_refl _))
      have hB7 := hB7.congr (fun j _ => x.stage_next z i 1 (by omega) j)
      clear hp7 hB6 hR6 hI6 hb7 d4 e1 e2 hzs1
      go_wp2_with fail
      clear hB5 hB6
      go_loopw [9] (fun u wr => ∃ k : Nat, k ≤ 11 ∧ u = .int .i64 (k : Int) ∧ Blk wr w.heap.size 32 256 (over z i 64 (x.stage (k + 2))) ∧ Blk wr (w.heap.size + 1 + 1) 32 256 (fun _ => 0) ∧ InoAt wr (w.heap.size + 1) 69 x ∧ Below w.heap.size w wr) (fun u _ => 11 - (intOf u).toNat)
      case atStart => exact ⟨0, by omega, rfl, hB7, hR7, hI7, hb8⟩
      case round =>
        clear hB7 hR7 hI7 hb8
        obtain ⟨k, hk2, rfl, hB, hR, hI, hb⟩ := hrel
        by_cases hlt2 : k < 11
        · have hzk := hzs.out (k + 2)
          have d1 := hI.ptr k hlt2
          have hpk := hx.p k
          have HW : Hid (x.word (k + 2) = x.p k) := by show _ = _; unfold Ino.word; rw [if_neg (by omega), if_neg (by omega), if_pos (by omega)]; rfl
          have l0 : (0 : Int) ≤ (k : Int) := by omega
          have l1 : (k : Int) < 11 := by omega
          go_wp2_with fail
          have e1 : IntKind.i64.wrap ((i : Int) + 12) = (i : Int) + 12 := IntWalk.i64_in _ (by omega)
          have e2 : IntKind.i64.wrap (4 * (k : Int)) = 4 * (k : Int) := IntWalk.i64_in _ (by omega)
          have e3 : IntKind.i64.wrap ((i : Int) + 12 + 4 * (k : Int)) = (i : Int) + 12 + 4 * (k : Int) := IntWalk.i64_in _ (by omega)
          go_still_tail 10, (by kernel_rfl)
          go_wp2_with fail
          refine (rput32_yes w.heap.size 0 256 _ ((i : Int) + 12 + 4 * (k : Int)) (x.p k) _ _ (by omega) (by omega) (by omega) (by omega) (by omega) (by exact hB.seg) hzk (by exact hB.soft 0 256)).mono ?_
          rintro e w8 ⟨rfl, hp8⟩
          rw [show 0 + ((i : Int) + 12 + 4 * (k : Int)).toNat = i + (4 + 4 * (k + 2)) by omega, ← HW.out] at hp8
          have hB8 : Blk w8 w.heap.size 32 256 _ := Blk.puts (w := wr.drew) hB hp8
          have hR8 : Blk w8 (w.heap.size + 1 + 1) 32 256 (fun _ => 0) := Blk.only (w := wr.drew) hR hp8.only (by omega)
          have hI8 : InoAt w8 (w.heap.size + 1) 69 x := InoAt.only (w := wr.drew) hI hp8.only (by omega)
          have hb9 : Below w.heap.size w w8 := hb.drew.trans (hp8.only.below (Nat.le_refl _))
          have hB9 := hB8.congr (fun j _ => x.stage_next z i (k + 2) (by omega) j)
          clear hp8 e1 e2 e3
          go_wp2_with fail
          go_roundw
          case rel => exact ⟨k + 1, by omega, by go_num, by rw [show k + 1 + 2 = k + 2 + 1 by omega]; exact hB9, hR8, hI8, hb9⟩
          case measure => simp [intOf]; omega
        · obtain rfl : k = 11 := by omega
          have hzk := hzs.out (11 + 2)
          have d1 : wr.cell? ⟨w.heap.size + 1, 15, none⟩ = some (.int .u32 x.next) := hI.cell (i := 15) rfl
          have hpk := hx.next
          go_wp2_with fail
          have e1 : IntKind.i64.wrap ((i : Int) + 56) = (i : Int) + 56 := IntWalk.i64_in _ (by omega)
          go_still_tail 5, (by kernel_rfl)
          go_wp2_with fail
          refine (rput32_yes w.heap.size 0 256 _ ((i : Int) + 56) x.next _ _ (by omega) (by omega) (by omega) (by omega) (by omega) (by exact hB.seg) hzk (by exact hB.soft 0 256)).mono ?_
          rintro e w8 ⟨rfl, hp8⟩
          rw [show 0 + ((i : Int) + 56).toNat = i + (4 + 4 * 13) by omega] at hp8
          have hB8 : Blk w8 w.heap.size 32 256 _ := Blk.puts (w := wr.drew) hB hp8
          have hR8 : Blk w8 (w.heap.size + 1 + 1) 32 256 (fun _ => 0) := Blk.only (w := wr.drew) hR hp8.only (by omega)
          have hb9 : Below w.heap.size w w8 := hb.drew.trans (hp8.only.below (Nat.le_refl _))
          have hB9 := (hB8.congr (fun j _ => x.stage_next z i 13 (by omega) j)).congr (y := over z i 64 x.byte) (fun j _ => by
            by_cases hj : i ≤ j ∧ j < i + 64
            · rw [over_in _ _ _ _ _ hj, over_in _ _ _ _ _ hj]; exact x.stage_all _
            · rw [over_out _ _ _ _ _ (by omega), over_out _ _ _ _ _ (by omega)])
          clear hp8 e1 hB8 hB hR hI hb d1 hpk hzk hzs
          have hB2 : Hid (w8.heap[w.heap.size]? = some (.cells (Ks .u8 256 (over z i 64 x.byte)).toArray 32 (0, 0))) := hB9
          have hR2 : Hid (w8.heap[w.heap.size + 1 + 1]? = some (.cells (Ks .u8 256 (fun _ => 0)).toArray 32 (0, 0))) := hR8
          clear hB9 hR8
          go_wp2_with (first | (refine wpList_load_row rfl 32 (.tmp 3) rfl w.heap.size rfl 32 (Ks .u8 256 (over z i 64 x.byte)).toArray (0, 0) _ hB2.out Tryd.underlying32 rfl (info_block' _) ?_) | (refine wpList_store_row rfl 32 (.tmp 6) (.tmp 71) rfl (w.heap.size + 1 + 1) (Ks .u8 256 (over z i 64 x.byte)).toArray rfl rfl 32 _ hR2.out (info_block' _) (by rw [Ks_size, Ks_size]) (Ks_one _ _ _) ?_))
          refine bodyPost_ret (results_row_tmp rfl _ _ (w.heap.size + 1 + 1) 32 (Ks .u8 256 (over z i 64 x.byte)).toArray (0, 0) _ rfl (Blk.setRow (z := fun _ => 0) hR2.out _) Tryd.underlying32 rfl (info_block' _)) rfl ⟨?_, ?_⟩
          · rw [Int.toNat_natCast]; rfl
          · exact below_setRow hb9 (by omega) _
end Go.Proofs.YtopakpmepioomaaDoor
