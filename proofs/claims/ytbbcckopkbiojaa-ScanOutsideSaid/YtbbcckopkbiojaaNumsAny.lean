/- The contracts of nums and quernref01 at any slice of bytes and any place. -/
import Derived.Test.YtbbcckopkbiojaaRef1
import Derived.Test.YtbbcckopkbiojaaOwn
namespace Go.Proofs.Ytbbcckopkbiojaa
open Go.RowKit
set_option linter.unusedVariables false

/-- do n bytes lie at a place of len? -/
def fits (n len : Nat) (at' : Int) : Bool := decide (0 ≤ at' ∧ at' + n ≤ len)
def o16 (z : Nat → Int) (len : Nat) (at' : Int) : Int := if fits 2 len at' then g16 z at'.toNat else 0
def o32 (z : Nat → Int) (len : Nat) (at' : Int) : Int := if fits 4 len at' then g32 z at'.toNat else 0
theorem fits_yes {n len : Nat} {at' : Int} (h : 0 ≤ at' ∧ at' + n ≤ len) : fits n len at' = true := by simp [fits, h]
theorem fits_no {n len : Nat} {at' : Int} (h : ¬ (0 ≤ at' ∧ at' + n ≤ len)) : fits n len at' = false := by simp [fits]; omega
theorem fits_iff {n len : Nat} {at' : Int} : fits n len at' = true ↔ 0 ≤ at' ∧ at' + n ≤ len := by simp [fits]

theorem Row.at {w : World} {a : Option Addr} {n : Nat} {z : Nat → Int} (h : Row w a n z) (h0 : 0 < n) : ∃ b off, a = some ⟨b, off, none⟩ ∧ Seg w b off n z := by
  rcases h with h | h
  · omega
  · exact h
theorem Row.below {w w' : World} {a : Option Addr} {n : Nat} {z : Nat → Int} (h : Row w a n z) {B : Nat} (hb : Below B w w') (hB : w.heap.size ≤ B) : Row w' a n z := by
  rcases h with h | ⟨b, off, rfl, hs⟩
  · exact .inl h
  · refine .inr ⟨b, off, rfl, fun i hi => ?_⟩
    have := World.block_lt_of_cell? w _ (hs i hi)
    rw [hb.cell (p := ⟨b, off + i, none⟩) (by simp at this ⊢; omega)]; exact hs i hi
theorem Row.drewN {w : World} {a : Option Addr} {n : Nat} {z : Nat → Int} (h : Row w a n z) (m : Nat) : Row (w.drewN m) a n z := h
theorem Row.grown {w w' : World} {a : Option Addr} {n : Nat} {z : Nat → Int} {row : Option Nat} (h : Row w a n z) (hb : w.grownBy w' row) (hr : ∀ x, a = some x → some x.block ≠ row) : Row w' a n z := by
  rcases h with h | ⟨b, off, rfl, hs⟩
  · exact .inl h
  · exact .inr ⟨b, off, rfl, fun i hi => hb.cell (hs i hi) (hr ⟨b, off, none⟩ rfl)⟩

/-- what a put leaves: the bytes, if they fit -/
def PutsIf (c : Bool) (a : Option Addr) (at' : Int) (n : Nat) (f : Nat → Int) (w w' : World) : Prop :=
  if c then ∃ b off, a = some ⟨b, off, none⟩ ∧ Puts b (off + at'.toNat) n f w w' else ∃ m, w' = w.drewN m
def SoftRow (w : World) (a : Option Addr) (n : Nat) : Prop := ∀ b off, a = some ⟨b, off, none⟩ → Soft w b off n

theorem PutsIf.only {c : Bool} {b off : Nat} {at' : Int} {n : Nat} {f : Nat → Int} {w w' : World} (h : PutsIf c (some ⟨b, off, none⟩) at' n f w w') : Only b w w' := by
  cases c with
  | true => obtain ⟨b', off', he, hp⟩ := h; cases he; exact hp.only
  | false => obtain ⟨m, rfl⟩ := h; exact (Only.refl b w).drewN m
theorem PutsIf.seg {c : Bool} {b off : Nat} {at' : Int} {n : Nat} {f : Nat → Int} {w w' : World} (h : PutsIf c (some ⟨b, off, none⟩) at' n f w w') {m : Nat} {z : Nat → Int} (hs : Seg w b off m z) :
    Seg w' b off m (if c then over z at'.toNat n f else z) := by
  cases c with
  | true => obtain ⟨b', off', he, hp⟩ := h; cases he; exact hp.seg hs rfl
  | false => obtain ⟨m', rfl⟩ := h; exact hs

end Go.Proofs.Ytbbcckopkbiojaa
