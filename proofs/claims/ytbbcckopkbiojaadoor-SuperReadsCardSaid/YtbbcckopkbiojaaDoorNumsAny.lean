/- The contracts of nums and quernref01 at any slice of bytes and any place. -/
import Derived.Test.YtbbcckopkbiojaaDoorRef1
import Derived.Test.YtbbcckopkbiojaaDoorOwn
namespace Go.Proofs.YtbbcckopkbiojaaDoor
open Go.RowKit
set_option linter.unusedVariables false

/-- do n bytes lie at a place of len? -/
def fits (n len : Nat) (at' : Int) : Bool := decide (0 ≤ at' ∧ at' + n ≤ len)
def o16 (z : Nat → Int) (len : Nat) (at' : Int) : Int := if fits 2 len at' then g16 z at'.toNat else 0
def o32 (z : Nat → Int) (len : Nat) (at' : Int) : Int := if fits 4 len at' then g32 z at'.toNat else 0
theorem fits_yes {n len : Nat} {at' : Int} (h : 0 ≤ at' ∧ at' + n ≤ len) : fits n len at' = true := by simp [fits, h]
theorem fits_no {n len : Nat} {at' : Int} (h : ¬ (0 ≤ at' ∧ at' + n ≤ len)) : fits n len at' = false := by simp [fits]; omega
theorem fits_iff {n len : Nat} {at' : Int} : fits n len at' = true ↔ 0 ≤ at' ∧ at' + n ≤ len := by simp [fits]

theorem Row.at {w : World} {a : Option Addr} {n : Nat} {z : Nat → Int} (h : Row w a n z) (h0 : 0 < n) : ∃ b off, a = some ⟨b, off, none⟩ ∧ Seg w b off n z := by
  rcases h with h | h
  · omega
  · exact h
theorem Row.below {w w' : World} {a : Option Addr} {n : Nat} {z : Nat → Int} (h : Row w a n z) {B : Nat} (hb : Below B w w') (hB : w.heap.size ≤ B) : Row w' a n z := by
  rcases h with h | ⟨b, off, rfl, hs⟩
  · exact .inl h
  · refine .inr ⟨b, off, rfl, fun i hi => ?_⟩
    have := World.block_lt_of_cell? w _ (hs i hi)
    rw [hb.cell (p := ⟨b, off + i, none⟩) (by simp at this ⊢; omega)]; exact hs i hi
theorem Row.drewN {w : World} {a : Option Addr} {n : Nat} {z : Nat → Int} (h : Row w a n z) (m : Nat) : Row (w.drewN m) a n z := h
theorem Row.grown {w w' : World} {a : Option Addr} {n : Nat} {z : Nat → Int} {row : Option Nat} (h : Row w a n z) (hb : w.grownBy w' row) (hr : ∀ x, a = some x → some x.block ≠ row) : Row w' a n z := by
  rcases h with h | ⟨b, off, rfl, hs⟩
  · exact .inl h
  · exact .inr ⟨b, off, rfl, fun i hi => hb.cell (hs i hi) (hr ⟨b, off, none⟩ rfl)⟩

theorem get16_any (a : Option Addr) (len cap : Nat) (at' : Int) (z : Nat → Int) (w : World) (hl : (len : Int) ≤ 9223372036854775807) (hs : Row w a len z) (hz : Byt z) :
    Calls Tryd.prog 54 #[.slice a len cap, .int .i64 at'] w fun e w' => e = .returned (.tuple #[.int .u32 (o16 z len at'), .bool (fits 2 len at')]) ∧ w = w' := by
  by_cases h : 0 ≤ at' ∧ at' + 2 ≤ len
  · obtain ⟨b, off, rfl, hs2⟩ := hs.at (by omega); clear hs; have hs := hs2; clear hs2
    rw [o16, fits_yes h, if_pos rfl]
    exact get16_yes b off len cap at' z w hl h.1 h.2 hs hz
  · rw [o16, fits_no h]
    exact get16_no a len cap at' w hl h
theorem get32_any (a : Option Addr) (len cap : Nat) (at' : Int) (z : Nat → Int) (w : World) (hl : (len : Int) ≤ 9223372036854775807) (hs : Row w a len z) (hz : Byt z) :
    Calls Tryd.prog 44 #[.slice a len cap, .int .i64 at'] w fun e w' => e = .returned (.tuple #[.int .u32 (o32 z len at'), .bool (fits 4 len at')]) ∧ w = w' := by
  by_cases h : 0 ≤ at' ∧ at' + 4 ≤ len
  · obtain ⟨b, off, rfl, hs2⟩ := hs.at (by omega); clear hs; have hs := hs2; clear hs2
    rw [o32, fits_yes h, if_pos rfl]
    exact get32_yes b off len cap at' z w hl h.1 h.2 hs hz
  · rw [o32, fits_no h]
    exact get32_no a len cap at' w hl h
theorem rget16_any (a : Option Addr) (len cap : Nat) (at' : Int) (z : Nat → Int) (w : World) (hl : (len : Int) ≤ 9223372036854775807) (hs : Row w a len z) (hz : Byt z) :
    Calls Tryd.prog 51 #[.slice a len cap, .int .i64 at'] w fun e w' => e = .returned (.tuple #[.int .u32 (o16 z len at'), .bool (fits 2 len at')]) ∧ ∃ m, w' = w.drewN m := by
  by_cases h : 0 ≤ at' ∧ at' + 2 ≤ len
  · obtain ⟨b, off, rfl, hs2⟩ := hs.at (by omega); clear hs; have hs := hs2; clear hs2
    rw [o16, fits_yes h, if_pos rfl]
    exact rget16_yes b off len cap at' z w hl h.1 h.2 hs hz
  · rw [o16, fits_no h]
    exact rget16_no a len cap at' w hl h
theorem rget32_any (a : Option Addr) (len cap : Nat) (at' : Int) (z : Nat → Int) (w : World) (hl : (len : Int) ≤ 9223372036854775807) (hs : Row w a len z) (hz : Byt z) :
    Calls Tryd.prog 50 #[.slice a len cap, .int .i64 at'] w fun e w' => e = .returned (.tuple #[.int .u32 (o32 z len at'), .bool (fits 4 len at')]) ∧ ∃ m, w' = w.drewN m := by
  by_cases h : 0 ≤ at' ∧ at' + 4 ≤ len
  · obtain ⟨b, off, rfl, hs2⟩ := hs.at (by omega); clear hs; have hs := hs2; clear hs2
    rw [o32, fits_yes h, if_pos rfl]
    exact rget32_yes b off len cap at' z w hl h.1 h.2 hs hz
  · rw [o32, fits_no h]
    exact rget32_no a len cap at' w hl h

/-- what a put leaves: the bytes, if they fit -/
def PutsIf (c : Bool) (a : Option Addr) (at' : Int) (n : Nat) (f : Nat → Int) (w w' : World) : Prop :=
  if c then ∃ b off, a = some ⟨b, off, none⟩ ∧ Puts b (off + at'.toNat) n f w w' else ∃ m, w' = w.drewN m
def SoftRow (w : World) (a : Option Addr) (n : Nat) : Prop := ∀ b off, a = some ⟨b, off, none⟩ → Soft w b off n

theorem PutsIf.only {c : Bool} {b off : Nat} {at' : Int} {n : Nat} {f : Nat → Int} {w w' : World} (h : PutsIf c (some ⟨b, off, none⟩) at' n f w w') : Only b w w' := by
  cases c with
  | true => obtain ⟨b', off', he, hp⟩ := h; cases he; exact hp.only
  | false => obtain ⟨m, rfl⟩ := h; exact (Only.refl b w).drewN m
theorem PutsIf.seg {c : Bool} {b off : Nat} {at' : Int} {n : Nat} {f : Nat → Int} {w w' : World} (h : PutsIf c (some ⟨b, off, none⟩) at' n f w w') {m : Nat} {z : Nat → Int} (hs : Seg w b off m z) :
    Seg w' b off m (if c then over z at'.toNat n f else z) := by
  cases c with
  | true => obtain ⟨b', off', he, hp⟩ := h; cases he; exact hp.seg hs rfl
  | false => obtain ⟨m', rfl⟩ := h; exact hs

theorem put16_any (a : Option Addr) (len cap : Nat) (at' v : Int) (z : Nat → Int) (w : World) (hl : (len : Int) ≤ 9223372036854775807) (hs : Row w a len z) (hf : SoftRow w a len) (hv : 0 ≤ v) :
    Calls Tryd.prog 48 #[.slice a len cap, .int .i64 at', .int .u32 v] w fun e w' =>
      e = .returned (.bool (fits 2 len at' && decide (v ≤ 65535))) ∧ PutsIf (fits 2 len at' && decide (v ≤ 65535)) a at' 2 (byteOf v) w w' := by
  by_cases h : (0 ≤ at' ∧ at' + 2 ≤ len) ∧ v ≤ 65535
  · obtain ⟨b, off, rfl, hs2⟩ := hs.at (by omega); clear hs; have hs := hs2; clear hs2
    have e1 : (fits 2 len at' && decide (v ≤ 65535)) = true := by rw [fits_yes h.1]; simp [h.2]
    rw [e1]
    exact (put16_yes b off len cap at' v z w hl h.1.1 h.1.2 hv h.2 hs (hf b off rfl)).mono fun e w' hh => ⟨hh.1, b, off, rfl, hh.2⟩
  · have e1 : (fits 2 len at' && decide (v ≤ 65535)) = false := by
      by_cases h1 : 0 ≤ at' ∧ at' + 2 ≤ len
      · rw [fits_yes h1]; simp; omega
      · rw [fits_no h1]; rfl
    rw [e1]
    exact (put16_no a len cap at' v w hl (by omega)).mono fun e w' hh => ⟨hh.1, 0, hh.2.symm⟩
theorem put32_any (a : Option Addr) (len cap : Nat) (at' v : Int) (z : Nat → Int) (w : World) (hl : (len : Int) ≤ 9223372036854775807) (hs : Row w a len z) (hf : SoftRow w a len) (hv : 0 ≤ v) :
    Calls Tryd.prog 47 #[.slice a len cap, .int .i64 at', .int .u32 v] w fun e w' =>
      e = .returned (.bool (fits 4 len at')) ∧ PutsIf (fits 4 len at') a at' 4 (byteOf v) w w' := by
  by_cases h : (0 ≤ at' ∧ at' + 4 ≤ len)
  · obtain ⟨b, off, rfl, hs2⟩ := hs.at (by omega); clear hs; have hs := hs2; clear hs2
    rw [fits_yes h]
    exact (put32_yes b off len cap at' v z w hl h.1 h.2 hv hs (hf b off rfl)).mono fun e w' hh => ⟨hh.1, b, off, rfl, hh.2⟩
  · rw [fits_no h]
    exact (put32_no a len cap at' v w hl h).mono fun e w' hh => ⟨hh.1, 0, hh.2.symm⟩
theorem rput16_any (a : Option Addr) (len cap : Nat) (at' v : Int) (z : Nat → Int) (w : World) (hl : (len : Int) ≤ 9223372036854775807) (hs : Row w a len z) (hz : Byt z) (hf : SoftRow w a len) (hv : 0 ≤ v) :
    Calls Tryd.prog 29 #[.slice a len cap, .int .i64 at', .int .u32 v] w fun e w' =>
      e = .returned (.bool (fits 2 len at' && decide (v ≤ 65535))) ∧ PutsIf (fits 2 len at' && decide (v ≤ 65535)) a at' 2 (byteOf v) w w' := by
  by_cases h1 : 0 ≤ at' ∧ at' + 2 ≤ len
  · obtain ⟨b, off, rfl, hs2⟩ := hs.at (by omega); clear hs; have hs := hs2; clear hs2
    by_cases h2 : v ≤ 65535
    · have e1 : (fits 2 len at' && decide (v ≤ 65535)) = true := by rw [fits_yes h1]; simp [h2]
      rw [e1]
      exact (rput16_yes b off len cap at' v z w hl h1.1 h1.2 hv h2 hs hz (hf b off rfl)).mono fun e w' hh => ⟨hh.1, b, off, rfl, hh.2⟩
    · have e1 : (fits 2 len at' && decide (v ≤ 65535)) = false := by simp; omega
      rw [e1]
      exact (rput16_no b off len cap at' v z w hl hs hz (by omega)).mono fun e w' hh => ⟨hh.1, hh.2⟩
  · have e1 : (fits 2 len at' && decide (v ≤ 65535)) = false := by rw [fits_no h1]; rfl
    rw [e1]
    exact (rput16_nil a len cap at' v w hl h1).mono fun e w' hh => ⟨hh.1, hh.2⟩
theorem rput32_any (a : Option Addr) (len cap : Nat) (at' v : Int) (z : Nat → Int) (w : World) (hl : (len : Int) ≤ 9223372036854775807) (hs : Row w a len z) (hz : Byt z) (hf : SoftRow w a len) (hv : 0 ≤ v) (hv2 : v < 4294967296) :
    Calls Tryd.prog 28 #[.slice a len cap, .int .i64 at', .int .u32 v] w fun e w' =>
      e = .returned (.bool (fits 4 len at')) ∧ PutsIf (fits 4 len at') a at' 4 (byteOf v) w w' := by
  by_cases h : (0 ≤ at' ∧ at' + 4 ≤ len)
  · obtain ⟨b, off, rfl, hs2⟩ := hs.at (by omega); clear hs; have hs := hs2; clear hs2
    rw [fits_yes h]
    exact (rput32_yes b off len cap at' v z w hl h.1 h.2 hv hv2 hs hz (hf b off rfl)).mono fun e w' hh => ⟨hh.1, b, off, rfl, hh.2⟩
  · rw [fits_no h]
    exact (rput32_no a len cap at' v w hl h).mono fun e w' hh => ⟨hh.1, hh.2⟩
end Go.Proofs.YtbbcckopkbiojaaDoor
