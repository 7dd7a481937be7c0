/- Texts of this claim, merged by a program (a claim may have 60 files): Jb2, Jb3, Jb4. -/
import Derived.Test.YtopakpmepioomaaDoorK06
import Derived.Test.YtopakpmepioomaaDoorK02
import Derived.Test.YtopakpmepioomaaDoorK24
import Derived.Test.YtopakpmepioomaaDoorK01
/- Contracts of jblock's heads, commits, kinds and escapes. -/
namespace Go.Proofs.YtopakpmepioomaaDoor
open Go.RowKit
set_option linter.unusedVariables false

def headOk (s t : Int) : Bool := seqB s && decide (0 ≤ t ∧ t ≤ 255)
def headZ (s t : Int) : Nat → Int := if headOk s t then wz (jw 4 s t nz) else fun _ => 0
def commitOk (s n : Int) : Bool := seqB s && decide (1 ≤ n ∧ n ≤ 256)
def sumR (v : Int) : Nat → Int := fun j => if j = 0 then v else 0
def commitZ (s n v : Int) : Nat → Int := if commitOk s n then wz (jw 2 s n (sumR v)) else fun _ => 0
def errOf (b : Bool) (e : Int) : Int := if b then 0 else e
def kindB (z : Nat → Int) : Bool := wd z 0 == 1280199249 && (seqB (wd z 2) && decide (1 ≤ wd z 1 ∧ wd z 1 ≤ 4))
def kindOf (z : Nat → Int) : Int := if kindB z then wd z 1 else 0
def seqOf (z : Nat → Int) : Int := if kindB z then wd z 2 else 0
def escB (z : Nat → Int) : Bool := wd z 0 == 1280199249
def escZ (z : Nat → Int) : Nat → Int := if escB z then over z 0 4 (byteOf 0) else z
def unescZ (z : Nat → Int) : Nat → Int := over z 0 4 (byteOf 1280199249)
def headRd (z : Nat → Int) : Bool := kindOf z == 4 && (decide (wd z 3 ≤ 255) && allZ (fun j => wd z (4 + j)) 60)
def commitRd (z : Nat → Int) : Bool := kindOf z == 2 && (decide (1 ≤ wd z 3 ∧ wd z 3 ≤ 256) && allZ (fun j => wd z (5 + j)) 59)

set_option maxRecDepth 100000 in
set_option maxHeartbeats 1000000 in
theorem writeHead_any (s t : Int) (w : World) (hs : 0 ≤ s ∧ s < 4294967296) (ht : -9223372036854775808 ≤ t ∧ t ≤ 9223372036854775807) :
    Calls Tryd.prog 33 #[.agg #[.int .u32 s, .int .i64 t]] w fun e w' => e = .returned (.tuple #[bval (headZ s t), .int .i64 (errOf (headOk s t) 2)]) ∧ Below w.heap.size w w' := by
  obtain ⟨hs0, hs1⟩ := hs
  obtain ⟨ht0, ht1⟩ := ht
  have hal := zero_block
  obtain ⟨W, hW⟩ : ∃ W, W = (w.alloc (.cells #[.int .u32 s, .int .i64 t] 65)).alloc (.cells (Ks .u8 256 (fun _ => 0)).toArray 32) := ⟨_, rfl⟩
  have c0 : W.cell? ⟨w.heap.size, 0, none⟩ = some (.int .u32 s) := by rw [hW]; exact cell_of_heap (heap_alloc_keep (heap_alloc_new w _) _) rfl
  have c1 : W.cell? ⟨w.heap.size, 1, none⟩ = some (.int .i64 t) := by rw [hW]; exact cell_of_heap (heap_alloc_keep (heap_alloc_new w _) _) rfl
  have hR : Blk W (w.heap.size + 1) 32 256 (fun _ => 0) := by
    rw [hW]
    have := Blk.new (w.alloc (.cells #[.int .u32 s, .int .i64 t] 65)) 32 256 (fun _ => 0)
    simp only [World.size_alloc] at this
    exact this
  have hL : Below w.heap.size w W := by rw [hW]; exact ((Below.refl _ _).alloc (Nat.le_refl _) _).alloc (by simp) _
  have HW := Lib.hid hW
  have HC0 := Lib.hid c0
  have HC1 := Lib.hid c1
  clear hW c0 c1
  go_enter Tryd.func33, Tryd.ntmps33
  go_wp2_with fail
  rw [← HW.out]
  refine (maySeq_any s _).mono ?_
  rintro e w1 ⟨rfl, rfl⟩
  have c0 := HC0.out
  have c1 := HC1.out
  clear HC0 HC1 HW
  by_cases hq : seqB s = true
  rotate_left
  · rw [Bool.not_eq_true] at hq
    have HO : Hid (headOk s t = false) := by show _ = _; unfold headOk; rw [hq]; rfl
    rw [hq]
    clear hq
    go_wp2_with (first | (refine wp_storeBlk rfl (.tmp 2) (.tmp 18) rfl (w.heap.size + 1) (fun _ => 0) _ rfl rfl hR ?_))
    intro w2 hR2 ho2
    go_wp2_with fail
    exact bodyPost_ret (results_blk2 rfl _ _ (w.heap.size + 1) _ rfl hR2) rfl ⟨by rw [headZ, HO.out]; rfl, hL.trans (ho2.below (by omega))⟩
  by_cases h1 : 0 ≤ t
  rotate_left
  · have HO : Hid (headOk s t = false) := by show _ = _; unfold headOk; simp [h1]
    rw [hq]
    clear hq
    go_wp2_with (first | (refine wp_storeBlk rfl (.tmp 2) (.tmp 18) rfl (w.heap.size + 1) (fun _ => 0) _ rfl rfl hR ?_))
    intro w2 hR2 ho2
    go_wp2_with fail
    exact bodyPost_ret (results_blk2 rfl _ _ (w.heap.size + 1) _ rfl hR2) rfl ⟨by rw [headZ, HO.out]; rfl, hL.trans (ho2.below (by omega))⟩
  by_cases h2 : t ≤ 255
  rotate_left
  · have HO : Hid (headOk s t = false) := by show _ = _; unfold headOk; simp [h2]
    rw [hq]
    clear hq
    go_wp2_with (first | (refine wp_storeBlk rfl (.tmp 2) (.tmp 18) rfl (w.heap.size + 1) (fun _ => 0) _ rfl rfl hR ?_))
    intro w2 hR2 ho2
    go_wp2_with fail
    exact bodyPost_ret (results_blk2 rfl _ _ (w.heap.size + 1) _ rfl hR2) rfl ⟨by rw [headZ, HO.out]; rfl, hL.trans (ho2.below (by omega))⟩
  have HO : Hid (headOk s t = true) := by show _ = _; unfold headOk; rw [hq]; simp [h1, h2]
  rw [hq]
  clear hq
  go_wp2_with fail
  refine (begin_any 4 s t _ (by decide) hs0 h1).mono ?_
  rintro e w2 ⟨rfl, hb2⟩
  have hR2 := hR.below hb2 hR.lt
  have hL2 : Below w.heap.size w w2 := hL.trans (hb2.mono hL.size)
  clear hR hL hb2 c0 c1
  go_wp2_with (first | (refine wp_storeBlk rfl (.tmp 2) (.tmp 24) rfl (w.heap.size + 1) (wz (jw 4 s t nz)) _ rfl rfl hR2 ?_))
  intro w3 hR3 ho3
  go_wp2_with fail
  exact bodyPost_ret (results_blk2 rfl _ _ (w.heap.size + 1) _ rfl hR3) rfl ⟨by rw [headZ, HO.out]; rfl, hL2.trans (ho3.below (by omega))⟩

theorem jw_sum (k s n v : Int) (j : Nat) : upd (jw k s n nz) 4 v j = jw k s n (sumR v) j := by
  unfold upd jw nz sumR
  by_cases h0 : j = 0
  · simp [h0]
  by_cases h1 : j = 1
  · simp [h1]
  by_cases h2 : j = 2
  · simp [h2]
  by_cases h3 : j = 3
  · simp [h3]
  by_cases h4 : j = 4
  · simp [h4]
  simp [h0, h1, h2, h3, h4, show ¬ j - 4 = 0 by omega]

end Go.Proofs.YtopakpmepioomaaDoor

/- Contracts of jblock's escapes and of its reading of heads and commits. -/
namespace Go.Proofs.YtopakpmepioomaaDoor
open Go.RowKit
set_option linter.unusedVariables false

/-- a word put into any block -/
theorem putZ32 (g : Nat) {T : TypeId} (z : Nat → Int) (k : Nat) (K v : Int) (hK : K = (k : Int)) (hk : k + 4 ≤ 256) (hv : 0 ≤ v) (w : World) (hB : Blk w g T 256 z) :
    Calls Tryd.prog 70 #[.slice (some ⟨g, 0, none⟩) 256 256, .int .i64 K, .int .u32 v] w fun e w' => e = .returned (.bool true) ∧ Blk w' g T 256 (over z k 4 (byteOf v)) ∧ Only g w w' := by
  refine (put32_yes g 0 256 256 K v z w (by omega) (by omega) (by omega) hv hB.seg (hB.soft 0 256)).mono fun e w' ⟨he, hp⟩ => ⟨he, ?_, hp.only⟩
  rw [show 0 + K.toNat = k by omega] at hp
  exact hB.puts hp

/-- what a commit block tells -/
def commitV (z : Nat → Int) : Value := if commitRd z then .tuple #[.int .u32 (seqOf z), .int .i64 (wd z 3), .int .u32 (wd z 4), .int .i64 0] else .tuple #[.int .u32 0, .int .i64 0, .int .u32 0, .int .i64 90]
end Go.Proofs.YtopakpmepioomaaDoor

/- Contracts of jblock.writeRows over tags, and of WriteDesc. -/
namespace Go.Proofs.YtopakpmepioomaaDoor
open Go.RowKit
set_option linter.unusedVariables false

/-- n tags stand at a place -/
def TagSeg (w : World) (b off n : Nat) (tb : Nat → Int) (te : Nat → Bool) : Prop := ∀ i, i < n → w.cell? ⟨b, off + i * 2, none⟩ = some (.int .u32 (tb i)) ∧ w.cell? ⟨b, off + i * 2 + 1, none⟩ = some (.bool (te i))
/-- a slice of n tags -/
def TagRow (w : World) (a : Option Addr) (n : Nat) (tb : Nat → Int) (te : Nat → Bool) : Prop := n = 0 ∨ ∃ b off, a = some ⟨b, off, none⟩ ∧ TagSeg w b off n tb te
theorem TagSeg.below {w w' : World} {b off n : Nat} {tb : Nat → Int} {te : Nat → Bool} (h : TagSeg w b off n tb te) {B : Nat} (hb : Below B w w') (hB : b < B) : TagSeg w' b off n tb te :=
  fun i hi => ⟨(hb.cell (p := ⟨b, off + i * 2, none⟩) hB).trans (h i hi).1, (hb.cell (p := ⟨b, off + i * 2 + 1, none⟩) hB).trans (h i hi).2⟩
theorem TagSeg.lt {w : World} {b off n : Nat} {tb : Nat → Int} {te : Nat → Bool} (h : TagSeg w b off n tb te) (hn : 0 < n) : b < w.heap.size := World.block_lt_of_cell? w _ (h 0 hn).1
theorem TagRow.below {w w' : World} {a : Option Addr} {n : Nat} {tb : Nat → Int} {te : Nat → Bool} (h : TagRow w a n tb te) (hb : Below w.heap.size w w') : TagRow w' a n tb te := by
  rcases h with h | ⟨b, off, rfl, h⟩
  · exact .inl h
  · by_cases h0 : n = 0
    · exact .inl h0
    · exact .inr ⟨b, off, rfl, h.below hb (h.lt (by omega))⟩

def bit (b : Bool) : Int := if b then 1 else 0
/-- the rows of the first k tags -/
def tagR (tb : Nat → Int) (te : Nat → Bool) (k : Nat) (j : Nat) : Int := if j < 2 * k then (if j % 2 = 0 then tb (j / 2) else bit (te (j / 2))) else 0
def jdOk (s : Int) (n : Nat) (tb : Nat → Int) : Bool := seqB s && (decide (1 ≤ n ∧ n ≤ 30) && riseB tb n)
def jdZ (s : Int) (n : Nat) (tb : Nat → Int) (te : Nat → Bool) : Nat → Int := if jdOk s n tb then wz (jw 1 s n (tagR tb te n)) else fun _ => 0
theorem tagR_next (s n : Int) (tb : Nat → Int) (te : Nat → Bool) (k j : Nat) : upd (upd (jw 1 s n (tagR tb te k)) (4 + 2 * k) (tb k)) (5 + 2 * k) (bit (te k)) j = jw 1 s n (tagR tb te (k + 1)) j := by
  unfold upd
  by_cases h5 : j = 5 + 2 * k
  · rw [if_pos h5]
    unfold jw tagR
    rw [if_neg (by omega), if_neg (by omega), if_neg (by omega), if_neg (by omega), if_pos (by omega), if_neg (by omega), show (j - 4) / 2 = k by omega]
  rw [if_neg h5]
  by_cases h4 : j = 4 + 2 * k
  · rw [if_pos h4]
    unfold jw tagR
    rw [if_neg (by omega), if_neg (by omega), if_neg (by omega), if_neg (by omega), if_pos (by omega), if_pos (by omega), show (j - 4) / 2 = k by omega]
  rw [if_neg h4]
  unfold jw
  split
  · rfl
  · split
    · rfl
    · split
      · rfl
      · split
        · rfl
        · unfold tagR
          by_cases c : j - 4 < 2 * k
          · have c' : j - 4 < 2 * (k + 1) := by omega
            simp only [c, c', if_true]
          · have c' : ¬ j - 4 < 2 * (k + 1) := by omega
            simp only [c, c', if_false]
theorem tagR_zero (s n : Int) (tb : Nat → Int) (te : Nat → Bool) (j : Nat) : jw 1 s n nz j = jw 1 s n (tagR tb te 0) j := by
  unfold jw tagR nz
  simp

/-- a word put into part of a block of words -/
theorem putWs (g : Nat) {T : TypeId} (l : Nat → Int) (o len cap : Nat) (K v : Int) (k : Nat) (hK : (o : Int) + K = 4 * (k : Int)) (h0 : 0 ≤ K) (h1 : K + 4 ≤ len) (hl : o + len ≤ 256) (hv : 0 ≤ v) (w : World) (hB : Blk w g T 256 (wz l)) :
    Calls Tryd.prog 70 #[.slice (some ⟨g, o, none⟩) len cap, .int .i64 K, .int .u32 v] w fun e w' => e = .returned (.bool true) ∧ Blk w' g T 256 (wz (upd l k v)) ∧ Only g w w' := by
  have hs : Seg w g o len (fun j => wz l (o + j)) := by have := hB.seg.sub o len hl; rwa [Nat.zero_add] at this
  refine (put32_yes g o len cap K v _ w (by omega) h0 h1 hv hs (hB.soft o len)).mono fun e w' ⟨he, hp⟩ => ⟨he, ?_, hp.only⟩
  rw [show o + K.toNat = 4 * k by omega] at hp
  exact (hB.puts hp).congr fun i _ => wz_put l k v i
theorem upd_same (l : Nat → Int) (k : Nat) (v : Int) (h : l k = v) (j : Nat) : upd l k v j = l j := by
  unfold upd; split
  · subst_vars; rfl
  · rfl

end Go.Proofs.YtopakpmepioomaaDoor
