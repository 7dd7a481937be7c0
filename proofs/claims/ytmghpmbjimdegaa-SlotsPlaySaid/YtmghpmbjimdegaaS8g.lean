/- The chapter's examples: quernlaw08.awake. -/
import Derived.Test.YtmghpmbjimdegaaS8f
import Derived.Test.YtmghpmbjimdegaaChain
namespace Go.Proofs.Ytmghpmbjimdegaa
open Go.RowKit
set_option linter.unusedVariables false

theorem may_size {s : ByteArray} (h : mayB s = true) : 1 ≤ s.size ∧ s.size ≤ 27 := by
  unfold mayB mayL at h
  simp only [Bool.and_eq_true, decide_eq_true_eq] at h
  exact ⟨h.1, h.2.1⟩
theorem byt_mkS {s : ByteArray} (ino : Int) (h : s.size ≤ 27) : Byt (mkS s ino) := fun j => by
  unfold mkS
  split
  · exact byteOf_bd _ _
  · split
    · omega
    · split
      · exact byt_bz s _
      · decide
theorem byt_zero : Byt (fun _ => 0) := fun _ => (by decide : (0 : Int) ≤ 0 ∧ (0 : Int) < 256)
theorem addE_zero {z : Nat → Int} {s : ByteArray} {ino : Int} (h : addE z s ino = 0) : dirB z = true ∧ mayB s = true ∧ ino ≠ 0 ∧ fS z s = -1 ∧ freeS z ≠ -1 := by
  unfold addE at h
  split at h
  · cases h
  · rename_i h1
    split at h
    · cases h
    · rename_i h2
      split at h
      · cases h
      · rename_i h3
        refine ⟨by simpa using h1, ?_, fun e => h2 (.inr (.inl e)), ?_, h3⟩
        · cases hm : mayB s with
          | true => rfl
          | false => exact absurd (.inl hm) h2
        · by_cases e : fS z s = -1
          · exact e
          · exact absurd (.inr (.inr e)) h2
theorem byt_addZ {z : Nat → Int} (hz : Byt z) (s : ByteArray) (ino : Int) : Byt (addZ z s ino) := by
  unfold addZ
  split
  · rename_i h
    exact byt_over hz (byt_mkS ino (may_size (addE_zero h).2.1).2) _ _
  · exact hz
theorem byt_remZ {z : Nat → Int} (hz : Byt z) (s : ByteArray) : Byt (remZ z s) := by
  unfold remZ
  split
  · exact byt_over hz byt_zero _ _
  · exact hz
def sAb : ByteArray := ⟨#[97, 98]⟩
def sC : ByteArray := ⟨#[99]⟩
def sDot : ByteArray := ⟨#[46]⟩
def sD : ByteArray := ⟨#[100]⟩
def z0 : Nat → Int := fun _ => 0
def z1 : Nat → Int := addZ z0 sAb 7
def z2 : Nat → Int := addZ z1 sC 8
def z3 : Nat → Int := remZ z2 sAb
def z4 : Nat → Int := addZ z3 sD 9
theorem a1 : addE z0 sAb 7 = 0 := by decide +kernel
theorem a2 : addE z1 sC 8 = 0 := by decide +kernel
theorem a3 : fS z2 sC = 1 := by decide +kernel
theorem a4 : fI z2 sC = 8 := by decide +kernel
theorem a5 : addE z2 sC 1 = 2 := by decide +kernel
theorem a6 : addE z2 sDot 1 = 2 := by decide +kernel
theorem a7 : remB z2 sAb = true := by decide +kernel
theorem a8 : addE z3 sD 9 = 0 := by decide +kernel
theorem a9 : fS z4 sD = 0 := by decide +kernel
theorem a10 : fS z4 sAb = -1 := by decide +kernel
theorem a11 : fI z4 sAb = 0 := by decide +kernel
theorem a12 : z4 0 = 9 ∧ z4 4 = 1 ∧ z4 5 = 100 ∧ z4 6 = 0 := by decide +kernel
theorem a13 : mayB ⟨#[46, 46, 46]⟩ = true ∧ mayB ⟨#[97, 47, 98]⟩ = false := by decide +kernel
theorem byt1 : Byt z1 := byt_addZ byt_zero _ _
theorem byt2 : Byt z2 := byt_addZ byt1 _ _
theorem byt3 : Byt z3 := byt_remZ byt2 _
theorem byt4 : Byt z4 := byt_addZ byt3 _ _
theorem z2c : addZ z2 sC 1 = z2 := by unfold addZ; rw [a5]; rfl
theorem z2d : addZ z2 sDot 1 = z2 := by unfold addZ; rw [a6]; rfl

structure AwS (w : World) (z : Nat → Int) (W : World) : Prop where
  b : Blk W w.heap.size 23 256 z
  bel : Below w.heap.size w W
theorem AwS.below {w W W' : World} {z : Nat → Int} (h : AwS w z W) (hb : Below W.heap.size W W') : AwS w z W' := ⟨h.b.below hb h.b.lt, h.bel.trans (hb.mono h.bel.size)⟩
theorem AwS.put {w W W' : World} {z y : Nat → Int} (h : AwS w z W) (hB : Blk W' w.heap.size 23 256 y) (hg : W.grownBy W' (some w.heap.size)) : AwS w y W' := ⟨hB, h.bel.grown hg h.bel.size (fun k e => by cases e; exact Nat.le_refl _)⟩

set_option maxRecDepth 100000 in
set_option maxHeartbeats 2000000 in
theorem awake8 (w : World) : Calls Try.prog 21 #[] w fun e w' => e = .returned (.bool true) ∧ Below w.heap.size w w' := by
  have hal := zero_block
  go_enter Try.func21, Try.ntmps21
  go_wp2_with fail
  have ST : Hid (AwS w z0 (w.alloc (.cells (Ks .u8 256 (fun _ => 0)).toArray 23))) := ⟨Blk.new _ _ _ _, (Below.refl _ _).alloc (Nat.le_refl _) _⟩
  have st0 := ST.out
  clear ST hal
  refine (add_any w.heap.size z0 byt_zero sAb (by decide) 7 (by decide) _ st0.b).mono ?_
  rintro e w1 ⟨rfl, hB, hg⟩
  have st1 := st0.put hB hg
  rw [a1]
  clear hB hg st0
  go_wp2_with fail
  refine (add_any w.heap.size z1 byt1 sC (by decide) 8 (by decide) _ st1.b).mono ?_
  rintro e w2 ⟨rfl, hB, hg⟩
  have st2 := st1.put hB hg
  rw [a2]
  clear hB hg st1
  have hB := st2.b
  go_wp2_with (first | (refine wp_loadBlkG rfl _ rfl _ _ rfl hB ?_))
  clear hB
  refine (find_any z2 byt2 sC _).mono ?_
  rintro e w3 ⟨rfl, hb⟩
  have st3 := st2.below hb
  rw [a3, a4]
  clear hb st2
  go_wp2_with fail
  refine (add_any w.heap.size z2 byt2 sC (by decide) 1 (by decide) _ st3.b).mono ?_
  rintro e w4 ⟨rfl, hB, hg⟩
  rw [z2c] at hB
  have st4 := st3.put hB hg
  rw [a5]
  clear hB hg st3
  go_wp2_with fail
  refine (add_any w.heap.size z2 byt2 sDot (by decide) 1 (by decide) _ st4.b).mono ?_
  rintro e w5 ⟨rfl, hB, hg⟩
  rw [z2d] at hB
  have st5 := st4.put hB hg
  rw [a6]
  clear hB hg st4
  go_wp2_with fail
  refine (rem_any w.heap.size z2 byt2 sAb _ st5.b).mono ?_
  rintro e w6 ⟨rfl, hB, hg⟩
  have st6 := st5.put hB hg
  rw [a7]
  clear hB hg st5
  go_wp2_with fail
  refine (add_any w.heap.size z3 byt3 sD (by decide) 9 (by decide) _ st6.b).mono ?_
  rintro e w7 ⟨rfl, hB, hg⟩
  have st7 := st6.put hB hg
  rw [a8]
  clear hB hg st6
  have hB := st7.b
  go_wp2_with (first | (refine wp_loadBlkG rfl _ rfl _ _ rfl hB ?_))
  clear hB
  refine (find_any z4 byt4 sD _).mono ?_
  rintro e w8 ⟨rfl, hb⟩
  have st8 := st7.below hb
  rw [a9]
  clear hb st7
  have hB := st8.b
  go_wp2_with (first | (refine wp_loadBlkG rfl _ rfl _ _ rfl hB ?_))
  clear hB
  refine (find_any z4 byt4 sAb _).mono ?_
  rintro e w9 ⟨rfl, hb⟩
  have st9 := st8.below hb
  rw [a10, a11]
  clear hb st8
  have s9 : AwS w z4 w9 := st9
  have c0 : w9.cell? ⟨w.heap.size, 0, none⟩ = some (.int .u8 9) := by have := s9.b.seg 0 (by decide); rw [a12.1] at this; exact this
  have c4 : w9.cell? ⟨w.heap.size, 4, none⟩ = some (.int .u8 1) := by have := s9.b.seg 4 (by decide); rw [a12.2.1] at this; exact this
  have c5 : w9.cell? ⟨w.heap.size, 5, none⟩ = some (.int .u8 100) := by have := s9.b.seg 5 (by decide); rw [a12.2.2.1] at this; exact this
  have c6 : w9.cell? ⟨w.heap.size, 6, none⟩ = some (.int .u8 0) := by have := s9.b.seg 6 (by decide); rw [a12.2.2.2] at this; exact this
  generalize fI z4 sD = gg at *
  go_wp2_with fail
  refine (mayName_any ⟨#[46, 46, 46]⟩ (by decide) _).mono ?_
  rintro e w' ⟨rfl, rfl⟩
  rw [a13.1]
  go_wp2_with fail
  refine (mayName_any ⟨#[97, 47, 98]⟩ (by decide) _).mono ?_
  rintro e w' ⟨rfl, rfl⟩
  rw [a13.2]
  go_wp2_with fail
  go_ret
  exact ⟨rfl, s9.bel⟩
end Go.Proofs.Ytmghpmbjimdegaa
