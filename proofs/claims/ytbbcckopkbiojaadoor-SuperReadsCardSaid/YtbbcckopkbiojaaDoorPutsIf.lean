/- What a put leaves, of any rows. -/
import Derived.Test.YtbbcckopkbiojaaDoorNumsAny
import Derived.Test.YtbbcckopkbiojaaDoorMore
namespace Go.Proofs.YtbbcckopkbiojaaDoor
open Go.RowKit
theorem PutsIf.row {c : Bool} {a : Option Addr} {at' : Int} {n : Nat} {f : Nat → Int} {w w' : World} (h : PutsIf c a at' n f w w') {m : Nat} {z : Nat → Int} (hs : Row w a m z) :
    Row w' a m (if c then over z at'.toNat n f else z) := by
  rcases hs with h0 | ⟨b, off, rfl, hs⟩
  · exact .inl h0
  · exact .inr ⟨b, off, rfl, h.seg hs⟩
theorem PutsIf.soft {c : Bool} {a : Option Addr} {at' : Int} {n : Nat} {f : Nat → Int} {w w' : World} (h : PutsIf c a at' n f w w') {x : Option Addr} {m : Nat} (hs : SoftRow w x m) : SoftRow w' x m := by
  intro b off he
  cases c with
  | true => obtain ⟨b', off', _, hp⟩ := h; exact hp.soft (hs b off he)
  | false => obtain ⟨m', rfl⟩ := h; exact hs b off he
theorem PutsIf.below {c : Bool} {a : Option Addr} {at' : Int} {n : Nat} {f : Nat → Int} {w w' : World} (h : PutsIf c a at' n f w w') {B : Nat} (hB : ∀ x, a = some x → B ≤ x.block) : Below B w w' := by
  cases c with
  | true => obtain ⟨b', off', he, hp⟩ := h; exact hp.only.below (hB _ he)
  | false => obtain ⟨m', rfl⟩ := h; exact bel_drewN (Below.refl _ _) _
theorem PutsIf.other {c : Bool} {a : Option Addr} {at' : Int} {n : Nat} {f : Nat → Int} {w w' : World} (h : PutsIf c a at' n f w w') {x : Option Addr} {m : Nat} {z : Nat → Int} (hs : Row w x m z)
    (hne : ∀ p q, a = some p → x = some q → q.block ≠ p.block) : Row w' x m z := by
  cases c with
  | true =>
    obtain ⟨b', off', he, hp⟩ := h
    exact hp.only.row (fun q hq => hne _ q he hq) hs
  | false => obtain ⟨m', rfl⟩ := h; exact hs
theorem Mine.soft {w : World} {base : Nat} {e : TypeId} {sa : Option Addr} {n cap : Nat} {z : Nat → Int} (hm : Mine w base e sa n cap z) : SoftRow w sa n := by
  intro b off he
  rcases hm.parts with ⟨h0, _⟩ | ⟨g, rfl, hg1, hgl, hc1, hs2, hf2⟩
  · rw [h0] at he; cases he
  · cases he; exact fun i hi => hf2 i (by omega)
end Go.Proofs.YtbbcckopkbiojaaDoor
