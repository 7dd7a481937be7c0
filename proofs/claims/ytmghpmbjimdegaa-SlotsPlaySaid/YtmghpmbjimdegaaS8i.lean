/- quernlaw08.find; a name that is removed and another that is added. -/
import Derived.Test.YtmghpmbjimdegaaW8b
namespace Go.Proofs.Ytmghpmbjimdegaa
open Go.RowKit
set_option linter.unusedVariables false

theorem fS_ge (z : Nat → Int) (s : ByteArray) : (remB z s = false ∧ fS z s = -1) ∨ (remB z s = true ∧ 0 ≤ fS z s) := by
  rcases fS_cases (z := z) s with e | ⟨hd, k, hk, h1, _⟩
  · exact .inl ⟨remB_no e, e⟩
  · exact .inr ⟨remB_yes h1, by omega⟩
set_option maxRecDepth 100000 in
set_option maxHeartbeats 1000000 in
theorem find8_any (z : Nat → Int) (hz : Byt z) (s : ByteArray) (w : World) : Calls Try.prog 23 #[bval z, .string s] w fun e w' => e = .returned (.bool (remB z s)) ∧ Below w.heap.size w w' := by
  have hB := Blk.new w 23 256 z
  have hL : Below w.heap.size w (w.alloc (.cells (Ks .u8 256 z).toArray 23)) := (Below.refl _ _).alloc (Nat.le_refl _) _
  have HL := Lib.hid hL
  clear hL
  go_enter Try.func23, Try.ntmps23
  go_wp2_with (first | (refine wp_loadBlkG rfl _ rfl _ _ rfl hB ?_))
  refine (find_any z hz s _).mono ?_
  rintro e w1 ⟨rfl, hb1⟩
  have hb : Below w.heap.size w w1 := HL.out.trans (hb1.mono HL.out.size)
  clear hB HL hb1
  rcases fS_ge z s with ⟨h1, h2⟩ | ⟨h1, h2⟩
  · have H1 := Lib.hid h1
    rw [h2]
    clear h1 h2
    go_wp2_with fail
    go_ret
    exact ⟨by rw [H1.out]; rfl, hb⟩
  · have H1 := Lib.hid h1
    generalize fS z s = k at *
    clear h1
    go_wp2_with fail
    go_ret
    exact ⟨by rw [H1.out]; rfl, hb⟩

structure Gone (z : Nat → Int) (name other : ByteArray) (ino : Int) (a k : Nat) : Prop where
  rm : Removed z (remZ z name) name a
  ad : Added (remZ z name) (addZ (remZ z name) other ino) other ino k
  e : addE (remZ z name) other ino = 0
  le : k ≤ a
  ahead : ∀ i, i < k → dI z i ≠ 0
  stop : k < a → dI z k = 0
theorem gone_law {z : Nat → Int} {name other : ByteArray} {ino : Int} (hi : 0 ≤ ino ∧ ino < 4294967296) (h1 : remB z name = true) (h2 : mayB other = true) (h3 : ino ≠ 0) (h4 : remB z other = false) : ∃ a k, Gone z name other ino a k := by
  obtain ⟨a, rm⟩ := rem_law h1
  have hno : fS z other = -1 := by
    rcases fS_ge z other with ⟨_, h⟩ | ⟨h, _⟩
    · exact h
    · rw [h4] at h; cases h
  have hno' : fS (remZ z name) other = -1 := by
    rw [fS_no rm.dir']
    intro i hi h0
    by_cases e : i = a
    · subst e; exact absurd rm.ino h0
    · rw [(rm.rest i e).2]
      rw [(rm.rest i e).1] at h0
      exact (fS_no rm.dir).1 hno i hi h0
  rcases freeS_cases rm.dir' with ⟨_, hall⟩ | ⟨k, hk, hf, hk0, hahead⟩
  · exact absurd rm.ino (hall a rm.lt)
  have he : addE (remZ z name) other ino = 0 := by
    unfold addE
    rw [rm.dir', if_neg (by decide), if_neg (by rw [h2]; rintro (h | h | h); cases h; exact h3 h; exact h hno'), if_neg (by rw [hf]; omega)]
  obtain ⟨k', ad⟩ := add_law hi he
  have hkk : k' = k := by have := ad.free; rw [hf] at this; omega
  subst hkk
  have hle : k' ≤ a := by
    by_cases h : a < k'
    · exact absurd rm.ino (hahead a h)
    · omega
  refine ⟨a, k', rm, ad, he, hle, fun i hi => ?_, fun h => ?_⟩
  · have := hahead i hi
    rwa [(rm.rest i (by omega)).1] at this
  · rwa [(rm.rest k' (by omega)).1] at hk0
end Go.Proofs.Ytmghpmbjimdegaa
