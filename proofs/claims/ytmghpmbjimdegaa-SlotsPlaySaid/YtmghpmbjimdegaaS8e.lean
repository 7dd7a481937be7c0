/- slots.List, slots.Find. -/
import Derived.Test.YtmghpmbjimdegaaS8d
import Derived.Test.YtmghpmbjimdegaaClear
namespace Go.Proofs.Ytmghpmbjimdegaa
open Go.RowKit
set_option linter.unusedVariables false

def errOf (b : Bool) (e : Int) : Int := if b then 0 else e
/-- which slot has a name, and its inode -/
def fS (z : Nat → Int) (s : ByteArray) : Int := firstB (hitB (rI z) (rN z) s) 8
def fI (z : Nat → Int) (s : ByteArray) : Int := if fS z s = -1 then 0 else rI z (fS z s).toNat
def ListRead (w : World) (z : Nat → Int) (e : Ending) (w' : World) : Prop :=
  Below w.heap.size w w' ∧ (dirB z = false ∧ e = .returned (.tuple #[.slice none 0 0, .int .i64 80]) ∨
    dirB z = true ∧ ∃ g, w.heap.size ≤ g ∧ e = .returned (.tuple #[.slice (some ⟨g, 0, none⟩) 8 8, .int .i64 0]) ∧ At w' g 63 (Sc (dI z) (dM z) 8).toArray)
theorem run_slotsAll (g : Nat) (W : World) : (Instr.sliceAt 63 (.pointer (some ⟨g, 0, none⟩)) none none none).run Try.prog W = .ok (.slice (some ⟨g, 0, none⟩) 8 8) W := by kernel_rfl
theorem read_yes {z : Nat → Int} (h : dirB z = true) : Sc (rI z) (rN z) 8 = Sc (dI z) (dM z) 8 := Sc_congr fun i _ => by unfold rI rN; rw [h]; exact ⟨rfl, rfl⟩

set_option maxRecDepth 100000 in
set_option maxHeartbeats 1000000 in
theorem list_any (z : Nat → Int) (hz : Byt z) (w : World) : Calls Try.prog 11 #[bval z] w (ListRead w z) := by
  have hal := zero_slots
  have hB := Blk.new w 23 256 z
  have hL : Below w.heap.size w (w.alloc (.cells (Ks .u8 256 z).toArray 23)) := (Below.refl _ _).alloc (Nat.le_refl _) _
  have HB := Lib.hid hB
  have HL := Lib.hid hL
  clear hB hL
  go_enter Try.func11, Try.ntmps11
  go_wp2_with fail
  refine (read_any w.heap.size z hz _ HB.out).mono ?_
  rintro e w1 ⟨rfl, hb1⟩
  have hL1 : Below w.heap.size w w1 := HL.out.trans (hb1.mono HL.out.size)
  have hA1 := At.new w1 63 (Sc noI noN 8).toArray
  clear HB HL hb1
  have hsl := fun W => run_slotsAll w1.heap.size W
  cases hd : dirB z with
  | false =>
    have HD := Lib.hid hd
    clear hd
    go_wp2_with (first | (refine wp_storeAt rfl 63 _ _ rfl _ (Sc (rI z) (rN z) 8).toArray _ rfl rfl hA1 (info_slots _ _) (by rw [Sc_size, Sc_size]) (one_slots _ _) ?_))
    intro w2 hA2 ho2
    have hL2 : Below w.heap.size w w2 := (hL1.alloc hL1.size _).trans (ho2.below hL1.size)
    clear hA1 hL1 ho2 hal
    go_wp2_with fail
    go_ret2
    exact ⟨hL2, .inl ⟨HD.out, rfl⟩⟩
  | true =>
    have HD := Lib.hid hd
    clear hd
    go_wp2_with (first | (refine wp_storeAt rfl 63 _ _ rfl _ (Sc (rI z) (rN z) 8).toArray _ rfl rfl hA1 (info_slots _ _) (by rw [Sc_size, Sc_size]) (one_slots _ _) ?_))
    intro w2 hA2 ho2
    have hL2 : Below w.heap.size w w2 := (hL1.alloc hL1.size _).trans (ho2.below hL1.size)
    have hfin : Hid (ListRead w z (.returned (.tuple #[.slice (some ⟨w1.heap.size, 0, none⟩) 8 8, .int .i64 0])) w2) := ⟨hL2, .inr ⟨HD.out, _, hL1.size, rfl, by rw [← read_yes HD.out]; exact hA2⟩⟩
    clear hA1 hL1 ho2 hal
    go_wp2_with fail
    go_ret2
    exact hfin.out

set_option maxRecDepth 100000 in
set_option maxHeartbeats 1000000 in
theorem find_any (z : Nat → Int) (hz : Byt z) (s : ByteArray) (w : World) : Calls Try.prog 13 #[bval z, .string s] w fun e w' => e = .returned (.tuple #[.int .i64 (fS z s), .int .u32 (fI z s)]) ∧ Below w.heap.size w w' := by
  have hal := zero_slots
  have hB := Blk.new w 23 256 z
  have hL : Below w.heap.size w (w.alloc (.cells (Ks .u8 256 z).toArray 23)) := (Below.refl _ _).alloc (Nat.le_refl _) _
  have HB := Lib.hid hB
  have HL := Lib.hid hL
  clear hB hL
  go_enter Try.func13, Try.ntmps13
  go_wp2_with fail
  refine (read_any w.heap.size z hz _ HB.out).mono ?_
  rintro e w1 ⟨rfl, hb1⟩
  have hL1 : Below w.heap.size w w1 := HL.out.trans (hb1.mono HL.out.size)
  have hA1 := At.new w1 63 (Sc noI noN 8).toArray
  clear HB HL hb1
  cases hd : dirB z with
  | false =>
    have HF : Hid (fS z s = -1) := firstB_none fun i _ => by unfold hitB rI; rw [hd]; rfl
    clear hd
    go_wp2_with (first | (refine wp_storeAt rfl 63 _ _ rfl _ (Sc (rI z) (rN z) 8).toArray _ rfl rfl hA1 (info_slots _ _) (by rw [Sc_size, Sc_size]) (one_slots _ _) ?_))
    intro w2 hA2 ho2
    have hL2 : Below w.heap.size w w2 := (hL1.alloc hL1.size _).trans (ho2.below hL1.size)
    clear hA1 hL1 ho2 hal
    go_wp2_with fail
    go_ret2
    exact ⟨by rw [fI, HF.out]; rfl, hL2⟩
  | true =>
    go_wp2_with (first | (refine wp_storeAt rfl 63 _ _ rfl _ (Sc (rI z) (rN z) 8).toArray _ rfl rfl hA1 (info_slots _ _) (by rw [Sc_size, Sc_size]) (one_slots _ _) ?_))
    intro w2 hA2 ho2
    have hL2 : Below w.heap.size w w2 := (hL1.alloc hL1.size _).trans (ho2.below hL1.size)
    have hsl := fun W => run_slotsAll w1.heap.size W
    clear hA1 hL1 ho2 hal
    generalize w1.heap.size = G at *
    go_wp2_with fail
    refine (named_any _ 8 8 (rI z) (rN z) s (by decide) _ (.inr ⟨_, _, rfl, hA2.slots⟩)).mono ?_
    rintro e w3 ⟨rfl, hb3⟩
    have hA3 := hA2.below hb3 hA2.lt
    have hL3 : Below w.heap.size w w3 := hL2.trans (hb3.mono hL2.size)
    clear hA2 hL2 hb3 hsl
    have HFE : Hid (fS z s = firstB (hitB (rI z) (rN z) s) 8) := rfl
    rcases firstB_cases (hitB (rI z) (rN z) s) 8 with ⟨h1, _⟩ | ⟨k, hk, h1, _⟩
    · have HF : Hid (fS z s = -1) := h1
      rw [h1]
      clear h1
      go_wp2_with fail
      go_ret2
      exact ⟨by rw [fI, HF.out]; rfl, hL3⟩
    · have HF : Hid (fS z s = (k : Int)) := h1
      have c0 : w3.cell? ⟨G, k * 2, none⟩ = some (.int .u32 (rI z k)) := by have := (hA3.slots k hk).1; rwa [Nat.zero_add] at this
      rw [h1]
      clear h1
      go_wp2_with fail
      go_ret2
      exact ⟨by rw [fI, HF.out, if_neg (by omega)]; rfl, hL3⟩
end Go.Proofs.Ytmghpmbjimdegaa
