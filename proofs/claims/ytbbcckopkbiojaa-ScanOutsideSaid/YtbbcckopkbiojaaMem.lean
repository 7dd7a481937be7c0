/- Plain words on memory and bytes: rows of bytes in the world, what a write of some bytes leaves, numbers of two and four bytes. No program in sight. -/
import Derived.WalkKit
import Derived.Below
import Derived.Deep.Draws
import Derived.Lib.Hide
import Derived.Laws.BitsAllLaws
namespace Go.Proofs.Ytbbcckopkbiojaa
open Go.RowKit

theorem ret_int {k : IntKind} {a b : Int} (h : a = b) : Ending.returned (.int k a) = .returned (.int k b) := by rw [h]
theorem ret_bool {a b : Bool} (h : a = b) : Ending.returned (.bool a) = .returned (.bool b) := by rw [h]
theorem ret_ib {k : IntKind} {a b : Int} {c d : Bool} (h : a = b) (g : c = d) : Ending.returned (.tuple #[.int k a, .bool c]) = .returned (.tuple #[.int k b, .bool d]) := by rw [h, g]
theorem int_eq {k : IntKind} {a b : Int} (h : a = b) : Value.int k a = .int k b := by rw [h]
theorem bool_eq {a b : Bool} (h : a = b) : Value.bool a = .bool b := by rw [h]

/-- n bytes z stand at a place -/
def Seg (w : World) (b off n : Nat) (z : Nat → Int) : Prop := ∀ i, i < n → w.cell? ⟨b, off + i, none⟩ = some (.int .u8 (z i))
/-- all are bytes -/
def Byt (z : Nat → Int) : Prop := ∀ i, 0 ≤ z i ∧ z i < 256
/-- a slice of n bytes z; none, if it has none -/
def Row (w : World) (a : Option Addr) (n : Nat) (z : Nat → Int) : Prop := n = 0 ∨ ∃ b off, a = some ⟨b, off, none⟩ ∧ Seg w b off n z
/-- n cells may be written -/
def Soft (w : World) (b off n : Nat) : Prop := ∀ i, i < n → w.frozen? ⟨b, off + i, none⟩ = false

def g16 (z : Nat → Int) (i : Nat) : Int := z i + 256 * z (i + 1)
def g32 (z : Nat → Int) (i : Nat) : Int := z i + 256 * z (i + 1) + 65536 * z (i + 2) + 16777216 * z (i + 3)
/-- byte i of a number, the lowest first -/
def byteOf (v : Int) (i : Nat) : Int := v / 256 ^ i % 256
/-- z with n bytes f from k on -/
def over (z : Nat → Int) (k n : Nat) (f : Nat → Int) : Nat → Int := fun i => if k ≤ i ∧ i < k + n then f (i - k) else z i

theorem byteOf_bd (v : Int) (i : Nat) : 0 ≤ byteOf v i ∧ byteOf v i < 256 := by unfold byteOf; omega
theorem byteOf_zero (v : Int) : byteOf v 0 = v % 256 := by simp [byteOf]
theorem byteOf_succ (v : Int) (i : Nat) : byteOf v (i + 1) = byteOf (v / 256) i := by
  unfold byteOf
  rw [Int.pow_succ, Int.mul_comm, ← Int.ediv_ediv_of_nonneg (by omega)]

theorem byt_over {z f : Nat → Int} (hz : Byt z) (hf : Byt f) (k n : Nat) : Byt (over z k n f) := by
  intro i; unfold over; split
  · exact hf _
  · exact hz _
theorem byt_byteOf (v : Int) : Byt (byteOf v) := byteOf_bd v
theorem g16_bd {z : Nat → Int} (hz : Byt z) (i : Nat) : 0 ≤ g16 z i ∧ g16 z i < 65536 := by
  have := hz i; have := hz (i + 1); unfold g16; omega
theorem g32_bd {z : Nat → Int} (hz : Byt z) (i : Nat) : 0 ≤ g32 z i ∧ g32 z i < 4294967296 := by
  have := hz i; have := hz (i + 1); have := hz (i + 2); have := hz (i + 3); unfold g32; omega

theorem Seg.drewN {w : World} {b off n : Nat} {z : Nat → Int} (h : Seg w b off n z) (m : Nat) : Seg (w.drewN m) b off n z := h
theorem Seg.sub {w : World} {b off n : Nat} {z : Nat → Int} (h : Seg w b off n z) (k m : Nat) (hk : k + m ≤ n) : Seg w b (off + k) m (fun i => z (k + i)) := by
  intro i hi
  have := h (k + i) (by omega)
  rw [Nat.add_assoc]; exact this
theorem Seg.take {w : World} {b off n : Nat} {z : Nat → Int} (h : Seg w b off n z) (m : Nat) (hk : m ≤ n) : Seg w b off m z := fun i hi => h i (by omega)
theorem Seg.congr {w : World} {b off n : Nat} {z y : Nat → Int} (h : Seg w b off n z) (e : ∀ i, i < n → z i = y i) : Seg w b off n y := fun i hi => by rw [← e i hi]; exact h i hi

theorem bel_drewN {B : Nat} {a w : World} (h : Below B a w) (n : Nat) : Below B a (w.drewN n) := h.trans ⟨rfl, rfl, rfl, Nat.le_refl _, fun _ _ => rfl⟩

/-- w' is w, but for cells of the block b -/
structure Only (b : Nat) (w w' : World) : Prop where
  os : w'.os = w.os
  tape : w'.tape = w.tape
  output : w'.output = w.output
  size : w'.heap.size = w.heap.size
  block : ∀ k, k ≠ b → w'.heap[k]? = w.heap[k]?
  frozen : ∀ a, w'.frozen? a = w.frozen? a
  shape : ∀ c e fr, w.heap[b]? = some (.cells c e fr) → ∃ c', c'.size = c.size ∧ w'.heap[b]? = some (.cells c' e fr)

theorem Only.refl (b : Nat) (w : World) : Only b w w := ⟨rfl, rfl, rfl, rfl, fun _ _ => rfl, fun _ => rfl, fun c _ _ h => ⟨c, rfl, h⟩⟩
theorem Only.drewN {b : Nat} {w w' : World} (h : Only b w w') (m : Nat) : Only b w (w'.drewN m) := ⟨h.os, h.tape, h.output, h.size, h.block, h.frozen, h.shape⟩
theorem Only.trans {b : Nat} {u v w : World} (h : Only b u v) (k : Only b v w) : Only b u w :=
  ⟨k.os.trans h.os, k.tape.trans h.tape, k.output.trans h.output, k.size.trans h.size, fun j hj => (k.block j hj).trans (h.block j hj), fun a => (k.frozen a).trans (h.frozen a),
   fun c e fr hc => by obtain ⟨c1, h1, g1⟩ := h.shape c e fr hc; obtain ⟨c2, h2, g2⟩ := k.shape c1 e fr g1; exact ⟨c2, h2.trans h1, g2⟩⟩
theorem Only.setCell (w : World) (a : Addr) (v : Value) : Only a.block w (w.setCell a v) :=
  ⟨rfl, rfl, rfl, by simp [World.setCell], fun k hk => Below.heap_setCell w a v k hk, fun x => World.frozen?_setCell .., fun c e fr hc => by
    obtain ⟨hlt, hk⟩ := Array.getElem?_eq_some_iff.1 hc
    refine ⟨if a.spot.isSome then c else c.setIfInBounds a.off v, by split <;> simp, ?_⟩
    show (w.heap.modify a.block _)[a.block]? = _
    rw [Array.getElem?_eq_getElem (by rw [Array.size_modify]; exact hlt), Array.getElem_modify_self, hk]⟩
theorem Only.below {b B : Nat} {w w' : World} (h : Only b w w') (hb : B ≤ b) : Below B w w' :=
  ⟨h.os, h.tape, h.output, by rw [h.size]; exact Nat.le_refl _, fun k hk => h.block k (by omega)⟩
theorem Only.cell {b : Nat} {w w' : World} (h : Only b w w') {p : Addr} (hp : p.block ≠ b) : w'.cell? p = w.cell? p := World.cell?_of_block (w := w) (h.block p.block hp)
theorem Only.seg {b : Nat} {w w' : World} (h : Only b w w') {c off n : Nat} {z : Nat → Int} (hc : c ≠ b) (hs : Seg w c off n z) : Seg w' c off n z :=
  fun i hi => (h.cell (p := ⟨c, off + i, none⟩) hc).trans (hs i hi)
theorem Only.row {b : Nat} {w w' : World} (h : Only b w w') {a : Option Addr} {n : Nat} {z : Nat → Int} (hc : ∀ x, a = some x → x.block ≠ b) (hs : Row w a n z) : Row w' a n z := by
  rcases hs with h0 | ⟨c, off, rfl, hs⟩
  · exact .inl h0
  · exact .inr ⟨c, off, rfl, h.seg (hc _ rfl) hs⟩
theorem Only.soft {b : Nat} {w w' : World} (h : Only b w w') {c off n : Nat} (hs : Soft w c off n) : Soft w' c off n := fun i hi => (h.frozen _).trans (hs i hi)

/-- w' is w with n bytes f at a place -/
structure Puts (b lo n : Nat) (f : Nat → Int) (w w' : World) : Prop where
  only : Only b w w'
  cell : ∀ o, w'.cell? ⟨b, o, none⟩ = if lo ≤ o ∧ o < lo + n then some (.int .u8 (f (o - lo))) else w.cell? ⟨b, o, none⟩

theorem Puts.nil (b lo : Nat) (f : Nat → Int) (w : World) : Puts b lo 0 f w w := ⟨Only.refl _ _, fun o => by rw [if_neg (by omega)]⟩
theorem Puts.drewN {b lo n : Nat} {f : Nat → Int} {w w' : World} (h : Puts b lo n f w w') (m : Nat) : Puts b lo n f w (w'.drewN m) := ⟨h.only.drewN m, h.cell⟩
theorem Puts.snoc {b lo n : Nat} {f : Nat → Int} {w w' : World} (h : Puts b lo n f w w') {u v : Value} (hu : w.cell? ⟨b, lo + n, none⟩ = some u) (hv : v = .int .u8 (f n)) :
    Puts b lo (n + 1) f w (w'.setCell ⟨b, lo + n, none⟩ v) := by
  subst hv
  refine ⟨h.only.trans (Only.setCell w' ⟨b, lo + n, none⟩ _), fun o => ?_⟩
  by_cases ho : o = lo + n
  · subst ho
    rw [if_pos (by omega), World.cell?_setCell_same (u := u)]
    · congr 2; rw [Nat.add_sub_cancel_left]
    · rw [h.cell, if_neg (by omega)]; exact hu
  · rw [World.cell?_setCell_other, h.cell]
    · by_cases hi : lo ≤ o ∧ o < lo + n
      · rw [if_pos hi, if_pos (by omega)]
      · rw [if_neg hi, if_neg (by omega)]
    · intro he; apply ho; injection he with _ e2; exact e2.symm
theorem Puts.seg {b lo n : Nat} {f : Nat → Int} {w w' : World} (h : Puts b lo n f w w') {off m k : Nat} {z : Nat → Int} (hs : Seg w b off m z) (hk : lo = off + k) : Seg w' b off m (over z k n f) := by
  intro i hi
  rw [h.cell, hs i hi]
  unfold over
  subst hk
  by_cases hc : k ≤ i ∧ i < k + n
  · rw [if_pos (by omega), if_pos hc]; congr 2; congr 1; omega
  · rw [if_neg (by omega), if_neg hc]
theorem Puts.soft {b lo n : Nat} {f : Nat → Int} {w w' : World} (h : Puts b lo n f w w') {c off m : Nat} (hs : Soft w c off m) : Soft w' c off m := h.only.soft hs

theorem shl_or_u32 (v x : Int) (h0 : 0 ≤ v) (h1 : v < 16777216) (h2 : 0 ≤ x) (h3 : x < 256) : bits .or .u32 (v * 256) x = v * 256 + x := by
  obtain ⟨V, rfl⟩ := Int.eq_ofNat_of_zero_le h0
  obtain ⟨X, rfl⟩ := Int.eq_ofNat_of_zero_le h2
  have e := u32_or_nat (V * 256) X (by omega) (by omega)
  rw [show ((V * 256 : Nat) : Int) = (V : Int) * 256 from by omega] at e
  rw [e]
  have := Nat.two_pow_add_eq_or_of_lt (i := 8) (b := X) (by omega) V
  rw [show (2 : Nat) ^ 8 * V = V * 256 from by omega] at this
  omega
theorem shl_or_u16 (v x : Int) (h0 : 0 ≤ v) (h1 : v < 256) (h2 : 0 ≤ x) (h3 : x < 256) : bits .or .u16 (v * 256) x = v * 256 + x := by
  obtain ⟨V, rfl⟩ := Int.eq_ofNat_of_zero_le h0
  obtain ⟨X, rfl⟩ := Int.eq_ofNat_of_zero_le h2
  have e := u16_or_nat (V * 256) X (by omega) (by omega)
  rw [show ((V * 256 : Nat) : Int) = (V : Int) * 256 from by omega] at e
  rw [e]
  have := Nat.two_pow_add_eq_or_of_lt (i := 8) (b := X) (by omega) V
  rw [show (2 : Nat) ^ 8 * V = V * 256 from by omega] at this
  omega

/-- the first n are noughts -/
def allZ (z : Nat → Int) : Nat → Bool
  | 0 => true
  | n + 1 => allZ z n && decide (z n = 0)
theorem allZ_succ (z : Nat → Int) (n : Nat) : allZ z (n + 1) = (allZ z n && decide (z n = 0)) := rfl
theorem allZ_iff (z : Nat → Int) (n : Nat) : allZ z n = true ↔ ∀ i, i < n → z i = 0 := by
  induction n with
  | zero => simp [allZ]
  | succ n ih =>
    rw [allZ_succ, Bool.and_eq_true, ih, decide_eq_true_eq]
    constructor
    · rintro ⟨h, g⟩ i hi
      by_cases e : i = n
      · rw [e]; exact g
      · exact h i (by omega)
    · intro h; exact ⟨fun i hi => h i (by omega), h n (by omega)⟩
theorem allZ_no {z : Nat → Int} {n j : Nat} (hj : j < n) (h : ¬ z j = 0) : allZ z n = false := by
  cases e : allZ z n with
  | false => rfl
  | true => exact absurd ((allZ_iff z n).1 e j hj) h
/-- the first n are the same -/
def eqB (z y : Nat → Int) : Nat → Bool
  | 0 => true
  | n + 1 => eqB z y n && decide (z n = y n)
theorem eqB_succ (z y : Nat → Int) (n : Nat) : eqB z y (n + 1) = (eqB z y n && decide (z n = y n)) := rfl
theorem eqB_iff (z y : Nat → Int) (n : Nat) : eqB z y n = true ↔ ∀ i, i < n → z i = y i := by
  induction n with
  | zero => simp [eqB]
  | succ n ih =>
    rw [eqB_succ, Bool.and_eq_true, ih, decide_eq_true_eq]
    constructor
    · rintro ⟨h, g⟩ i hi
      by_cases e : i = n
      · rw [e]; exact g
      · exact h i (by omega)
    · intro h; exact ⟨fun i hi => h i (by omega), h n (by omega)⟩
theorem eqB_no {z y : Nat → Int} {n j : Nat} (hj : j < n) (h : ¬ z j = y j) : eqB z y n = false := by
  cases e : eqB z y n with
  | false => rfl
  | true => exact absurd ((eqB_iff z y n).1 e j hj) h

end Go.Proofs.Ytbbcckopkbiojaa
