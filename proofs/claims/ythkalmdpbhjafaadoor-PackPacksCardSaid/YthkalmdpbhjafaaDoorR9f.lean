/- Contracts of quernref09.at, begins and Unescape. -/
import Derived.Test.YthkalmdpbhjafaaDoorR9a
namespace Go.Proofs.YthkalmdpbhjafaaDoor
open Go.RowKit
set_option linter.unusedVariables false

set_option maxRecDepth 100000 in
set_option maxHeartbeats 200000 in
theorem rat_any (z : Nat → Int) (hz : Byt z) (k : Nat) (K : Int) (hK : K = 4 * (k : Int)) (hk : k < 64) (w : World) :
    Calls Tryd.prog 46 #[bval z, .int .i64 K] w fun e w' => e = .returned (.int .u32 (wd z k)) ∧ Below w.heap.size w w' := by
  have hB := Blk.new w 40 256 z
  have hL : Below w.heap.size w (w.alloc (.cells (Ks .u8 256 z).toArray 40)) := (Below.refl _ _).alloc (Nat.le_refl _) _
  have hsa := fun W => run_sliceBlkAll w.heap.size 0 W
  have hgt := rget32_yes w.heap.size 0 256 256 K z _ (by omega) (by omega) (by omega) hB.seg hz
  rw [show K.toNat = 4 * k by omega] at hgt
  have HG := Lib.hid hgt
  have HL := Lib.hid hL
  clear hgt hB hL hK
  go_enter Tryd.func46, Tryd.ntmps46
  go_wp2_with fail
  refine HG.out.mono ?_
  rintro e w1 ⟨rfl, nn, rfl⟩
  have hL1 := bel_drewN HL.out nn
  generalize World.drewN _ nn = w2 at hL1 ⊢
  go_wp2_with fail
  go_ret
  exact ⟨rfl, hL1⟩
def beginsB (z : Nat → Int) (k : Int) : Bool := wd z 0 == 1280199249 && (wd z 1 == k && seqB (wd z 2))
theorem beginsB_iff (z : Nat → Int) (k : Int) (h1 : 1 ≤ k) (h4 : k ≤ 4) : beginsB z k = (kindOf z == k) := by
  unfold beginsB kindOf kindB
  by_cases a : wd z 0 = 1280199249
  · by_cases b : seqB (wd z 2) = true
    · by_cases c : wd z 1 = k
      · simp [a, b, c, h1, h4]
      · simp only [a, b, beq_self_eq_true, Bool.true_and, Bool.and_true]
        split
        · rfl
        · have : (wd z 1 == k) = false := by simpa using c
          rw [this]; symm; simp; omega
    · rw [Bool.not_eq_true] at b
      rw [b]; simp; omega
  · have : (wd z 0 == 1280199249) = false := by simpa using a
    rw [this]; simp; omega


set_option maxRecDepth 100000 in
set_option maxHeartbeats 400000 in
theorem rbegins_any (z : Nat → Int) (hz : Byt z) (k : Int) (w : World) :
    Calls Tryd.prog 58 #[bval z, .int .u32 k] w fun e w' => e = .returned (.bool (beginsB z k)) ∧ Below w.heap.size w w' := by
  have hL : Below w.heap.size w (w.alloc (.cells (Ks .u8 256 z).toArray 40)) := (Below.refl _ _).alloc (Nat.le_refl _) _
  have hB := Blk.new w 40 256 z
  have HBG : Hid (beginsB z k = (wd z 0 == 1280199249 && (wd z 1 == k && seqB (wd z 2)))) := rfl
  go_enter Tryd.func58, Tryd.ntmps58
  go_wp2_with (first | (refine wp_loadBlkG rfl (.tmp 2) rfl w.heap.size z rfl hB ?_))
  refine (rat_any z hz 0 0 rfl (by omega) _).mono ?_
  rintro e w1 ⟨rfl, hb1⟩
  have hB1 := hB.below hb1 hB.lt
  have hL1 : Below w.heap.size w w1 := hL.trans (hb1.mono hL.size)
  clear hB hL hb1
  cases h0 : (wd z 0 == 1280199249) with
  | false =>
    rw [h0] at HBG
    go_wp2_with fail
    go_ret
    exact ⟨by rw [HBG.out]; rfl, hL1⟩
  | true =>
    rw [h0] at HBG
    go_wp2_with (first | (refine wp_loadBlkG rfl (.tmp 2) rfl w.heap.size z rfl hB1 ?_))
    refine (rat_any z hz 1 4 rfl (by omega) _).mono ?_
    rintro e w2 ⟨rfl, hb2⟩
    have hB2 := hB1.below hb2 hB1.lt
    have hL2 : Below w.heap.size w w2 := hL1.trans (hb2.mono hL1.size)
    clear hB1 hL1 hb2
    cases h1 : (wd z 1 == k) with
    | false =>
      rw [h1] at HBG
      go_wp2_with fail
      go_ret
      exact ⟨by rw [HBG.out]; rfl, hL2⟩
    | true =>
      rw [h1] at HBG
      go_wp2_with (first | (refine wp_loadBlkG rfl (.tmp 2) rfl w.heap.size z rfl hB2 ?_))
      refine (rat_any z hz 2 8 rfl (by omega) _).mono ?_
      rintro e w3 ⟨rfl, hb3⟩
      have hL3 : Below w.heap.size w w3 := hL2.trans (hb3.mono hL2.size)
      clear hB2 hL2 hb3
      go_wp2_with fail
      refine (rSeq_any (wd z 2) _).mono ?_
      rintro e w4 ⟨rfl, rfl⟩
      go_wp2_with fail
      go_ret
      exact ⟨by rw [HBG.out]; rfl, hL3⟩
end Go.Proofs.YthkalmdpbhjafaaDoor
