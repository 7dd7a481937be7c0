/- Texts of this claim, merged by a program (a claim may have 60 files): Mg0. -/
import Derived.WalkKit
import Derived.Below
import Derived.Deep.Draws
import Derived.Lib.Hide
import Derived.Laws.BitsAllLaws
import Derived.OwnWalk
import Derived.OpenShut
import Derived.Laws.AppendOwnNone
import Derived.ChangeKeysEq
import Derived.Laws.StructEq
import Derived.Lib.SliceRun
import Derived.Deep.QuietTactic
import Derived.BigQuiet
import Derived.Deep.MidRow
import Derived.Laws.Tables
import Derived.RangeFuncNested
import Derived.RangeFuncBound
import Derived.RangeFuncCalls
import Derived.RangeFuncLeaves
import Derived.RangeFuncWrites
import Derived.OwnWalkIn
import Derived.RangeFuncBox
/- Texts merged: Mem, Own, Eq, CrcP, More, Blk, BitP, Clear, Region, Move, Move2, MoveB, Range, Range2. -/
/- Plain words on memory and bytes: rows of bytes in the world, what a write of some bytes leaves, numbers of two and four bytes. No program in sight. -/
namespace Go.Proofs.YtopakpmepioomaaDoor
open Go.RowKit

theorem ret_int {k : IntKind} {a b : Int} (h : a = b) : Ending.returned (.int k a) = .returned (.int k b) := by rw [h]
theorem ret_bool {a b : Bool} (h : a = b) : Ending.returned (.bool a) = .returned (.bool b) := by rw [h]
theorem ret_ib {k : IntKind} {a b : Int} {c d : Bool} (h : a = b) (g : c = d) : Ending.returned (.tuple #[.int k a, .bool c]) = .returned (.tuple #[.int k b, .bool d]) := by rw [h, g]
theorem int_eq {k : IntKind} {a b : Int} (h : a = b) : Value.int k a = .int k b := by rw [h]
theorem bool_eq {a b : Bool} (h : a = b) : Value.bool a = .bool b := by rw [h]

/-- n bytes z stand at a place -/
def Seg (w : World) (b off n : Nat) (z : Nat → Int) : Prop := ∀ i, i < n → w.cell? ⟨b, off + i, none⟩ = some (.int .u8 (z i))
/-- all are bytes -/
def Byt (z : Nat → Int) : Prop := ∀ i, 0 ≤ z i ∧ z i < 256
/-- a slice of n bytes z; none, if it has none -/
def Row (w : World) (a : Option Addr) (n : Nat) (z : Nat → Int) : Prop := n = 0 ∨ ∃ b off, a = some ⟨b, off, none⟩ ∧ Seg w b off n z
/-- n cells may be written -/
def Soft (w : World) (b off n : Nat) : Prop := ∀ i, i < n → w.frozen? ⟨b, off + i, none⟩ = false

def g16 (z : Nat → Int) (i : Nat) : Int := z i + 256 * z (i + 1)
def g32 (z : Nat → Int) (i : Nat) : Int := z i + 256 * z (i + 1) + 65536 * z (i + 2) + 16777216 * z (i + 3)
/-- byte i of a number, the lowest first -/
def byteOf (v : Int) (i : Nat) : Int := v / 256 ^ i % 256
/-- z with n bytes f from k on -/
def over (z : Nat → Int) (k n : Nat) (f : Nat → Int) : Nat → Int := fun i => if k ≤ i ∧ i < k + n then f (i - k) else z i

theorem byteOf_bd (v : Int) (i : Nat) : 0 ≤ byteOf v i ∧ byteOf v i < 256 := by unfold byteOf; omega
theorem byteOf_zero (v : Int) : byteOf v 0 = v % 256 := by simp [byteOf]
theorem byteOf_succ (v : Int) (i : Nat) : byteOf v (i + 1) = byteOf (v / 256) i := by
  unfold byteOf
  rw [Int.pow_succ, Int.mul_comm, ← Int.ediv_ediv_of_nonneg (by omega)]

theorem byt_over {z f : Nat → Int} (hz : Byt z) (hf : Byt f) (k n : Nat) : Byt (over z k n f) := by
  intro i; unfold over; split
  · exact hf _
  · exact hz _
theorem byt_byteOf (v : Int) : Byt (byteOf v) := byteOf_bd v
theorem g16_bd {z : Nat → Int} (hz : Byt z) (i : Nat) : 0 ≤ g16 z i ∧ g16 z i < 65536 := by
  have := hz i; have := hz (i + 1); unfold g16; omega
theorem g32_bd {z : Nat → Int} (hz : Byt z) (i : Nat) : 0 ≤ g32 z i ∧ g32 z i < 4294967296 := by
  have := hz i; have := hz (i + 1); have := hz (i + 2); have := hz (i + 3); unfold g32; omega

theorem Seg.drewN {w : World} {b off n : Nat} {z : Nat → Int} (h : Seg w b off n z) (m : Nat) : Seg (w.drewN m) b off n z := h
theorem Seg.sub {w : World} {b off n : Nat} {z : Nat → Int} (h : Seg w b off n z) (k m : Nat) (hk : k + m ≤ n) : Seg w b (off + k) m (fun i => z (k + i)) := by
  intro i hi
  have := h (k + i) (by omega)
  rw [Nat.add_assoc]; exact this
theorem Seg.take {w : World} {b off n : Nat} {z : Nat → Int} (h : Seg w b off n z) (m : Nat) (hk : m ≤ n) : Seg w b off m z := fun i hi => h i (by omega)
theorem Seg.congr {w : World} {b off n : Nat} {z y : Nat → Int} (h : Seg w b off n z) (e : ∀ i, i < n → z i = y i) : Seg w b off n y := fun i hi => by rw [← e i hi]; exact h i hi

theorem bel_drewN {B : Nat} {a w : World} (h : Below B a w) (n : Nat) : Below B a (w.drewN n) := h.trans ⟨rfl, rfl, rfl, Nat.le_refl _, fun _ _ => rfl⟩

/-- w' is w, but for cells of the block b -/
structure Only (b : Nat) (w w' : World) : Prop where
  os : w'.os = w.os
  tape : w'.tape = w.tape
  output : w'.output = w.output
  size : w'.heap.size = w.heap.size
  block : ∀ k, k ≠ b → w'.heap[k]? = w.heap[k]?
  frozen : ∀ a, w'.frozen? a = w.frozen? a
  shape : ∀ c e fr, w.heap[b]? = some (.cells c e fr) → ∃ c', c'.size = c.size ∧ w'.heap[b]? = some (.cells c' e fr)

theorem Only.refl (b : Nat) (w : World) : Only b w w := ⟨rfl, rfl, rfl, rfl, fun _ _ => rfl, fun _ => rfl, fun c _ _ h => ⟨c, rfl, h⟩⟩
theorem Only.drewN {b : Nat} {w w' : World} (h : Only b w w') (m : Nat) : Only b w (w'.drewN m) := ⟨h.os, h.tape, h.output, h.size, h.block, h.frozen, h.shape⟩
theorem Only.trans {b : Nat} {u v w : World} (h : Only b u v) (k : Only b v w) : Only b u w :=
  ⟨k.os.trans h.os, k.tape.trans h.tape, k.output.trans h.output, k.size.trans h.size, fun j hj => (k.block j hj).trans (h.block j hj), fun a => (k.frozen a).trans (h.frozen a),
   fun c e fr hc => by obtain ⟨c1, h1, g1⟩ := h.shape c e fr hc; obtain ⟨c2, h2, g2⟩ := k.shape c1 e fr g1; exact ⟨c2, h2.trans h1, g2⟩⟩
theorem Only.setCell (w : World) (a : Addr) (v : Value) : Only a.block w (w.setCell a v) :=
  ⟨rfl, rfl, rfl, by simp [World.setCell], fun k hk => Below.heap_setCell w a v k hk, fun x => World.frozen?_setCell .., fun c e fr hc => by
    obtain ⟨hlt, hk⟩ := Array.getElem?_eq_some_iff.1 hc
    refine ⟨if a.spot.isSome then c else c.setIfInBounds a.off v, by split <;> simp, ?_⟩
    show (w.heap.modify a.block _)[a.block]? = _
    rw [Array.getElem?_eq_getElem (by rw [Array.size_modify]; exact hlt), Array.getElem_modify_self, hk]⟩
theorem Only.below {b B : Nat} {w w' : World} (h : Only b w w') (hb : B ≤ b) : Below B w w' :=
  ⟨h.os, h.tape, h.output, by rw [h.size]; exact Nat.le_refl _, fun k hk => h.block k (by omega)⟩
theorem Only.cell {b : Nat} {w w' : World} (h : Only b w w') {p : Addr} (hp : p.block ≠ b) : w'.cell? p = w.cell? p := World.cell?_of_block (w := w) (h.block p.block hp)
theorem Only.seg {b : Nat} {w w' : World} (h : Only b w w') {c off n : Nat} {z : Nat → Int} (hc : c ≠ b) (hs : Seg w c off n z) : Seg w' c off n z :=
  fun i hi => (h.cell (p := ⟨c, off + i, none⟩) hc).trans (hs i hi)
theorem Only.row {b : Nat} {w w' : World} (h : Only b w w') {a : Option Addr} {n : Nat} {z : Nat → Int} (hc : ∀ x, a = some x → x.block ≠ b) (hs : Row w a n z) : Row w' a n z := by
  rcases hs with h0 | ⟨c, off, rfl, hs⟩
  · exact .inl h0
  · exact .inr ⟨c, off, rfl, h.seg (hc _ rfl) hs⟩
theorem Only.soft {b : Nat} {w w' : World} (h : Only b w w') {c off n : Nat} (hs : Soft w c off n) : Soft w' c off n := fun i hi => (h.frozen _).trans (hs i hi)

/-- w' is w with n bytes f at a place -/
structure Puts (b lo n : Nat) (f : Nat → Int) (w w' : World) : Prop where
  only : Only b w w'
  cell : ∀ o, w'.cell? ⟨b, o, none⟩ = if lo ≤ o ∧ o < lo + n then some (.int .u8 (f (o - lo))) else w.cell? ⟨b, o, none⟩

theorem Puts.nil (b lo : Nat) (f : Nat → Int) (w : World) : Puts b lo 0 f w w := ⟨Only.refl _ _, fun o => by rw [if_neg (by omega)]⟩
theorem Puts.drewN {b lo n : Nat} {f : Nat → Int} {w w' : World} (h : Puts b lo n f w w') (m : Nat) : Puts b lo n f w (w'.drewN m) := ⟨h.only.drewN m, h.cell⟩
theorem Puts.snoc {b lo n : Nat} {f : Nat → Int} {w w' : World} (h : Puts b lo n f w w') {u v : Value} (hu : w.cell? ⟨b, lo + n, none⟩ = some u) (hv : v = .int .u8 (f n)) :
    Puts b lo (n + 1) f w (w'.setCell ⟨b, lo + n, none⟩ v) := by
  subst hv
  refine ⟨h.only.trans (Only.setCell w' ⟨b, lo + n, none⟩ _), fun o => ?_⟩
  by_cases ho : o = lo + n
  · subst ho
    rw [if_pos (by omega), World.cell?_setCell_same (u := u)]
    · congr 2; rw [Nat.add_sub_cancel_left]
    · rw [h.cell, if_neg (by omega)]; exact hu
  · rw [World.cell?_setCell_other, h.cell]
    · by_cases hi : lo ≤ o ∧ o < lo + n
      · rw [if_pos hi, if_pos (by omega)]
      · rw [if_neg hi, if_neg (by omega)]
    · intro he; apply ho; injection he with _ e2; exact e2.symm
theorem Puts.seg {b lo n : Nat} {f : Nat → Int} {w w' : World} (h : Puts b lo n f w w') {off m k : Nat} {z : Nat → Int} (hs : Seg w b off m z) (hk : lo = off + k) : Seg w' b off m (over z k n f) := by
  intro i hi
  rw [h.cell, hs i hi]
  unfold over
  subst hk
  by_cases hc : k ≤ i ∧ i < k + n
  · rw [if_pos (by omega), if_pos hc]; congr 2; congr 1; omega
  · rw [if_neg (by omega), if_neg hc]
theorem Puts.soft {b lo n : Nat} {f : Nat → Int} {w w' : World} (h : Puts b lo n f w w') {c off m : Nat} (hs : Soft w c off m) : Soft w' c off m := h.only.soft hs

theorem shl_or_u32 (v x : Int) (h0 : 0 ≤ v) (h1 : v < 16777216) (h2 : 0 ≤ x) (h3 : x < 256) : bits .or .u32 (v * 256) x = v * 256 + x := by
  obtain ⟨V, rfl⟩ := Int.eq_ofNat_of_zero_le h0
  obtain ⟨X, rfl⟩ := Int.eq_ofNat_of_zero_le h2
  have e := u32_or_nat (V * 256) X (by omega) (by omega)
  rw [show ((V * 256 : Nat) : Int) = (V : Int) * 256 from by omega] at e
  rw [e]
  have := Nat.two_pow_add_eq_or_of_lt (i := 8) (b := X) (by omega) V
  rw [show (2 : Nat) ^ 8 * V = V * 256 from by omega] at this
  omega
theorem shl_or_u16 (v x : Int) (h0 : 0 ≤ v) (h1 : v < 256) (h2 : 0 ≤ x) (h3 : x < 256) : bits .or .u16 (v * 256) x = v * 256 + x := by
  obtain ⟨V, rfl⟩ := Int.eq_ofNat_of_zero_le h0
  obtain ⟨X, rfl⟩ := Int.eq_ofNat_of_zero_le h2
  have e := u16_or_nat (V * 256) X (by omega) (by omega)
  rw [show ((V * 256 : Nat) : Int) = (V : Int) * 256 from by omega] at e
  rw [e]
  have := Nat.two_pow_add_eq_or_of_lt (i := 8) (b := X) (by omega) V
  rw [show (2 : Nat) ^ 8 * V = V * 256 from by omega] at this
  omega

/-- the first n are noughts -/
def allZ (z : Nat → Int) : Nat → Bool
  | 0 => true
  | n + 1 => allZ z n && decide (z n = 0)
theorem allZ_succ (z : Nat → Int) (n : Nat) : allZ z (n + 1) = (allZ z n && decide (z n = 0)) := rfl
theorem allZ_iff (z : Nat → Int) (n : Nat) : allZ z n = true ↔ ∀ i, i < n → z i = 0 := by
  induction n with
  | zero => simp [allZ]
  | succ n ih =>
    rw [allZ_succ, Bool.and_eq_true, ih, decide_eq_true_eq]
    constructor
    · rintro ⟨h, g⟩ i hi
      by_cases e : i = n
      · rw [e]; exact g
      · exact h i (by omega)
    · intro h; exact ⟨fun i hi => h i (by omega), h n (by omega)⟩
theorem allZ_no {z : Nat → Int} {n j : Nat} (hj : j < n) (h : ¬ z j = 0) : allZ z n = false := by
  cases e : allZ z n with
  | false => rfl
  | true => exact absurd ((allZ_iff z n).1 e j hj) h
/-- the first n are the same -/
def eqB (z y : Nat → Int) : Nat → Bool
  | 0 => true
  | n + 1 => eqB z y n && decide (z n = y n)
theorem eqB_succ (z y : Nat → Int) (n : Nat) : eqB z y (n + 1) = (eqB z y n && decide (z n = y n)) := rfl
theorem eqB_iff (z y : Nat → Int) (n : Nat) : eqB z y n = true ↔ ∀ i, i < n → z i = y i := by
  induction n with
  | zero => simp [eqB]
  | succ n ih =>
    rw [eqB_succ, Bool.and_eq_true, ih, decide_eq_true_eq]
    constructor
    · rintro ⟨h, g⟩ i hi
      by_cases e : i = n
      · rw [e]; exact g
      · exact h i (by omega)
    · intro h; exact ⟨fun i hi => h i (by omega), h n (by omega)⟩
theorem eqB_no {z y : Nat → Int} {n j : Nat} (hj : j < n) (h : ¬ z j = y j) : eqB z y n = false := by
  cases e : eqB z y n with
  | false => rfl
  | true => exact absurd ((eqB_iff z y n).1 e j hj) h

end Go.Proofs.YtopakpmepioomaaDoor

/- Rows of bytes that a call has made itself: append onto them, read and write them. No program in sight. -/
namespace Go.Proofs.YtopakpmepioomaaDoor
open Go.RowKit
set_option linter.unusedVariables false

/-- n bytes as values -/
def Bs (n : Nat) (z : Nat → Int) : List Value := (List.range n).map fun i => .int .u8 (z i)
theorem Bs_length (n : Nat) (z : Nat → Int) : (Bs n z).length = n := by simp [Bs]
theorem Bs_get (n : Nat) (z : Nat → Int) (i : Nat) (h : i < n) : (Bs n z)[i]? = some (.int .u8 (z i)) := by simp [Bs, h]
/-- y behind the first n of z -/
def cat (z : Nat → Int) (n : Nat) (y : Nat → Int) : Nat → Int := fun i => if i < n then z i else y (i - n)
theorem Bs_cat (n m : Nat) (z y : Nat → Int) : Bs n z ++ Bs m y = Bs (n + m) (cat z n y) := by
  apply List.ext_getElem?
  intro i
  by_cases h : i < n
  · rw [List.getElem?_append_left (by rw [Bs_length]; exact h), Bs_get _ _ _ h, Bs_get _ _ _ (by omega)]; simp [cat, h]
  · rw [List.getElem?_append_right (by rw [Bs_length]; omega), Bs_length]
    by_cases h2 : i - n < m
    · rw [Bs_get _ _ _ h2, Bs_get _ _ _ (by omega)]; simp [cat, h]
    · rw [List.getElem?_eq_none (by rw [Bs_length]; omega), List.getElem?_eq_none (by rw [Bs_length]; omega)]
theorem Bs_congr {n : Nat} {z y : Nat → Int} (h : ∀ i, i < n → z i = y i) : Bs n z = Bs n y := by
  unfold Bs; apply List.map_congr_left; intro i hi; rw [h i (by simpa using hi)]
theorem byt_cat {z y : Nat → Int} (hz : Byt z) (hy : Byt y) (n : Nat) : Byt (cat z n y) := by
  intro i; unfold cat; split
  · exact hz _
  · exact hy _

/-- a slice of n bytes z in memory of one's own (from the block base on) -/
def Mine (w : World) (base : Nat) (e : TypeId) (sa : Option Addr) (n cap : Nat) (z : Nat → Int) : Prop := w.ownsRow base e 1 (.slice sa n cap) n (Bs n z)

theorem Mine.parts {w : World} {base : Nat} {e : TypeId} {sa : Option Addr} {n cap : Nat} {z : Nat → Int} (h : Mine w base e sa n cap z) :
    (sa = none ∧ n = 0 ∧ cap = 0) ∨ ∃ g, sa = some ⟨g, 0, none⟩ ∧ base ≤ g ∧ g < w.heap.size ∧ n ≤ cap ∧ Seg w g 0 n z ∧ Soft w g 0 cap := by
  rcases h.2 with ⟨hv, h0⟩ | ⟨g, cap', cur, hv, hb, hg, hn, hc, hs, ht⟩
  · injection hv with h1 h2 h3; exact .inl ⟨h1, h0, h3⟩
  · injection hv with h1 h2 h3
    subst h1 h3
    have hlt := (Array.getElem?_eq_some_iff.1 hg).1
    refine .inr ⟨g, rfl, hb, hlt, hn, ?_, ?_⟩
    · intro i hi
      have := Bs_get n z i hi
      rw [← ht, List.getElem?_take_of_lt (by omega)] at this
      simp [World.cell?, hg]; simpa using this
    · intro i hi; simp [World.frozen?, hg]
theorem Mine.row {w : World} {base : Nat} {e : TypeId} {sa : Option Addr} {n cap : Nat} {z : Nat → Int} (h : Mine w base e sa n cap z) : Row w sa n z := by
  rcases h.parts with ⟨_, h0, _⟩ | ⟨g, rfl, _, _, _, hs, _⟩
  · exact .inl h0
  · exact .inr ⟨g, 0, rfl, hs⟩
theorem Mine.le {w : World} {base : Nat} {e : TypeId} {sa : Option Addr} {n cap : Nat} {z : Nat → Int} (h : Mine w base e sa n cap z) : ∀ x, sa = some x → base ≤ x.block ∧ x.block < w.heap.size := by
  intro x hx
  rcases h.parts with ⟨h0, _⟩ | ⟨g, h1, hb, hl, _⟩
  · rw [h0] at hx; cases hx
  · rw [h1] at hx; cases hx; exact ⟨hb, hl⟩
theorem Mine.drewN {w : World} {base : Nat} {e : TypeId} {sa : Option Addr} {n cap : Nat} {z : Nat → Int} (h : Mine w base e sa n cap z) (m : Nat) : Mine (w.drewN m) base e sa n cap z := h
theorem Mine.congr {w : World} {base : Nat} {e : TypeId} {sa : Option Addr} {n cap : Nat} {z y : Nat → Int} (h : Mine w base e sa n cap z) (hy : ∀ i, i < n → z i = y i) : Mine w base e sa n cap y := by
  unfold Mine; rw [← Bs_congr hy]; exact h
theorem Mine.nil (w : World) (base : Nat) (e : TypeId) (z : Nat → Int) : Mine w base e none 0 0 z := World.ownsRow_nil w base e 1
theorem Mine.bound {w : World} {base : Nat} {e : TypeId} {sa : Option Addr} {n cap : Nat} {z : Nat → Int} (h : Mine w base e sa n cap z) : n ≤ cap ∧ cap ≤ maxLen := by
  rcases h.2 with ⟨hv, h0⟩ | ⟨g, cap', cur, hv, hb, hg, hn, hc, hs, ht⟩
  · injection hv with h1 h2 h3; subst h3; simp [h0]
  · injection hv with h1 h2 h3; subst h3; exact ⟨hn, hc⟩

theorem Mine.made (w : World) (base : Nat) (e : TypeId) (z : Nat → Int) (hb : base ≤ w.heap.size) : Mine (w.alloc (.cells #[] e)) base e (some ⟨w.heap.size, 0, none⟩) 0 0 z :=
  World.ownsRow_made (cur := #[]) (cap := 0) w (base := base) (e := e) (size := 1) hb (by unfold maxLen; omega) (by simp)
theorem Mine.alloc {w : World} {base : Nat} {e : TypeId} {sa : Option Addr} {n cap : Nat} {z : Nat → Int} (h : Mine w base e sa n cap z) (o : Obj) : Mine (w.alloc o) base e sa n cap z := World.ownsRow.alloc h o
theorem Mine.grown {w w' : World} {base : Nat} {e : TypeId} {sa : Option Addr} {n cap : Nat} {z : Nat → Int} {row : Option Nat} (h : Mine w base e sa n cap z) (hg : w.grownBy w' row) (hr : ∀ x, sa = some x → some x.block ≠ row) : Mine w' base e sa n cap z := by
  refine World.ownsRow.kept h hg ?_
  cases sa with
  | none => exact .inl rfl
  | some x => exact .inr (hr x rfl)
/-- a literal row of bytes in a new block -/
theorem seg_new (w : World) (e : TypeId) (n : Nat) (y : Nat → Int) (vs : List Value) (h : vs = Bs n y) : Seg (w.alloc (.cells vs.toArray e)) w.heap.size 0 n y := by
  intro i hi
  have := Bs_get n y i hi
  rw [← h] at this
  simp only [World.cell?, heap_alloc_new, Nat.zero_add]
  simpa using this
theorem soft_new (w : World) (e : TypeId) (n : Nat) (vs : Array Value) : Soft (w.alloc (.cells vs e)) w.heap.size 0 n := by
  intro i hi
  simp only [World.frozen?, heap_alloc_new]
  simp
theorem row_new (w : World) (e : TypeId) (n : Nat) (y : Nat → Int) (vs : List Value) (h : vs = Bs n y) : Row (w.alloc (.cells vs.toArray e)) (some ⟨w.heap.size, 0, none⟩) n y :=
  .inr ⟨_, _, rfl, seg_new w e n y vs h⟩

/-- append of a row of bytes onto a row of one's own -/
theorem wpList_append_bytes {P : Program} {w : World} {ops : Array Oper} {rest : List Oper} {o : Oper} {a : Act} {Q : Exit → Act → World → Prop} (hgd : o.guard = none) (s x : Operand) (t : TypeId)
    (ho : o.op = .call { callee := .builtin .append, args := #[s, x], argTypes := #[t, t] })
    (base : Nat) (e : TypeId) (i : TypeInfo) (ht : P.underlying t = some (.slice e)) (hi : P.info? e = some i) (hz : i.zero = some (.int .u8 0)) (hsize : i.size = 1) (hby : i.bytes = 1)
    (sa : Option Addr) (n cap : Nat) (z : Nat → Int) (hs : a.eval s = .slice sa n cap) (hown : Mine w base e sa n cap z)
    (xa : Option Addr) (m c : Nat) (y : Nat → Int) (hx : a.eval x = .slice xa m c) (hc : xa = none → c = 0) (hr : Row w xa m y)
    (hm : n + m ≤ 140737488355328) (hbase : base ≤ w.heap.size)
    (h : ∀ sa' cap' w', Mine w' base e sa' (n + m) cap' (cat z n y) → w.grownBy w' (Value.slice sa n cap).ownBlock → (sa' = none → n + m = 0) → wpList P ops Q rest (a.put o.dst (.slice sa' (n + m) cap')) w') :
    wpList P ops Q (o :: rest) a w := by
  have fin : ∀ v' w', w'.ownsRow base e 1 v' (n + m) (Bs n z ++ Bs m y) → w.grownBy w' (Value.slice sa n cap).ownBlock → wpList P ops Q rest (a.put o.dst v') w' := by
    intro v' w' hown' hg
    rw [Bs_cat] at hown'
    rcases hown'.2 with ⟨rfl, h0⟩ | ⟨g, cap', cur, rfl, _⟩
    · have hM : Mine w' base e none (n + m) 0 (cat z n y) := by unfold Mine; rw [h0] at hown' ⊢; exact hown'
      have := h none 0 w' hM hg (fun _ => h0)
      rw [h0] at this; exact this
    · exact h _ cap' w' hown' hg (fun h => by cases h)
  have hml : n + m ≤ maxLen := by unfold maxLen; omega
  cases xa with
  | some ad =>
    refine wpList_append_own w hgd s x t ho base e i (.int .u8 0) 1 1 ht hi hz hsize hby rfl (by decide) _ n (Bs n z) hs hown ad m c (Bs m y) hx (by simp [Bs_length]) ?_ ?_ hml (by omega) hbase (fun v' w' h1 h2 _ => fin v' w' h1 h2)
    · intro j u hj
      have hjm : j < m := by have := (List.getElem?_eq_some_iff.1 hj).1; rwa [Bs_length] at this
      rw [Bs_get _ _ _ hjm] at hj
      rcases hr with h0 | ⟨b, off, he, hseg⟩
      · omega
      · injection he with he; subst he
        have := hseg j hjm
        rw [← hj, ← this]
        unfold Addr.add; split
        · next h => subst h; rfl
        · rfl
    · intro u hu
      obtain ⟨k, _, rfl⟩ := List.mem_map.1 hu
      rfl
  | none =>
    have h0 : m = 0 := by
      rcases hr with h0 | ⟨b, off, he, _⟩
      · exact h0
      · cases he
    have hc0 := hc rfl
    subst h0 hc0
    refine wpList_append_own_none hgd s x t ho base e i 1 ht hi _ n (Bs n z) hs hown hx (fin _ _ ?_ ?_)
    · rw [show Bs 0 y = [] from rfl, List.append_nil]; exact hown
    · exact ⟨rfl, rfl, rfl, Nat.le_refl _, fun _ _ _ => rfl⟩

/-- the bytes of a list -/
def lz (l : List Int) : Nat → Int := fun i => l.getD i 0
theorem byt_lz (l : List Int) (h : l.all (fun x => decide (0 ≤ x ∧ x < 256)) = true) : Byt (lz l) := by
  intro i
  unfold lz
  by_cases hi : i < l.length
  · rw [List.getD_eq_getElem?_getD, List.getElem?_eq_getElem hi]
    have := List.all_eq_true.1 h _ (List.getElem_mem hi)
    simpa using this
  · rw [List.getD_eq_getElem?_getD, List.getElem?_eq_none (by omega)]
    exact ⟨by simp, by simp⟩

/-- what a slice of bytes that came in is -/
theorem row_of {w : World} {a : Option Addr} {len cap : Nat} {zs : List Int}
    (h : (a = none ∧ len = 0 ∧ cap = 0 ∧ zs = []) ∨ ∃ x, a = some x ∧ len ≤ cap ∧ cap ≤ maxLen ∧ zs.length = cap ∧ (∀ i, i < zs.length → w.cell? (x.add i) = some (.int .u8 (zs.getD i 0))) ∧ ∀ n ∈ zs, (Lit.int .u8 n).wf = true) :
    ∃ z, Row w a len z ∧ Byt z ∧ (len : Int) ≤ 9223372036854775807 ∧ (a = none → cap = 0) ∧ ∀ x, a = some x → 0 < len → x.block < w.heap.size := by
  rcases h with ⟨rfl, rfl, rfl, rfl⟩ | ⟨x, rfl, hl, hm, hz, hcell, hwz⟩
  · exact ⟨fun _ => 0, .inl rfl, fun _ => ⟨by simp, by simp⟩, by omega, fun _ => rfl, fun x hx => by cases hx⟩
  · refine ⟨fun i => zs.getD i 0, ?_, ?_, ?_, (fun h => by cases h), ?_⟩
    · by_cases h0 : len = 0
      · exact .inl h0
      · obtain ⟨b, off, spot⟩ := x
        have hc := hcell 0 (by omega)
        have hspot : spot = none := by simpa [Addr.add] using World.cell?_spot hc
        subst hspot
        refine .inr ⟨b, off, rfl, fun i hi => ?_⟩
        have := hcell i (by omega)
        rw [← this]; unfold Addr.add; split
        · next h => subst h; rfl
        · rfl
    · intro i
      show 0 ≤ zs.getD i 0 ∧ zs.getD i 0 < 256
      by_cases hi : i < zs.length
      · have := hwz (zs.getD i 0) (by rw [List.getD_eq_getElem?_getD, List.getElem?_eq_getElem hi]; exact List.getElem_mem _)
        have := bounds_u8 this
        omega
      · have : zs.getD i 0 = 0 := by rw [List.getD_eq_getElem?_getD, List.getElem?_eq_none (by omega)]; rfl
        rw [this]; omega
    · have : maxLen = 9223372036854775807 := rfl
      omega
    · intro y hy h0
      injection hy with hy; subst hy
      have hc := hcell 0 (by omega)
      have := World.block_lt_of_cell? w _ hc
      simpa [Addr.add] using this
end Go.Proofs.YtopakpmepioomaaDoor

/- '==' of arrays of integers, over any program. -/
namespace Go.Proofs.YtopakpmepioomaaDoor
open Go.RowKit
/-- n integers of a kind as values -/
def Ks (k : IntKind) (n : Nat) (z : Nat → Int) : List Value := (List.range n).map fun i => .int k (z i)
theorem Ks_length (k : IntKind) (n : Nat) (z : Nat → Int) : (Ks k n z).length = n := by simp [Ks]
theorem Ks_get (k : IntKind) (n : Nat) (z : Nat → Int) (i : Nat) (h : i < n) : (Ks k n z)[i]? = some (.int k (z i)) := by simp [Ks, h]
theorem Bs_eq (n : Nat) (z : Nat → Int) : Bs n z = Ks .u8 n z := rfl

theorem allRange (z y : Nat → Int) (n : Nat) : ((List.range n).all fun i => z i == y i) = eqB z y n := by
  rw [Bool.eq_iff_iff, eqB_iff, List.all_eq_true]
  simp
theorem run_equalIn_ints {P : Program} (w : World) (d : Nat) {t e : TypeId} {n : Nat} {i : TypeInfo} {k : IntKind} (hu : P.underlying t = some (.array n e)) (hi : P.info? e = some i) (he : P.underlying e = some (.int k)) (hce : P.cellsOf e = 1)
    (z y : Nat → Int) : (Op.equalIn (d + 2) t (.agg (Ks k n z).toArray) (.agg (Ks k n y).toArray)).run P w = .ok (eqB z y n) w := by
  rw [show d + 2 = (d + 1) + 1 from rfl, run_equalIn_array w (d + 1) _ _ hu hi, hce, ← allRange z y n]
  have hl : ∀ j ∈ List.range n, j < n := fun j hj => by simpa using hj
  generalize List.range n = l at hl ⊢
  induction l with
  | nil => simp [Op.eqItems]
  | cons j l ih =>
    have hj : j < n := hl j (by simp)
    have px : ∀ u : Nat → Int, (part e (Ks k n u).toArray (j * 1)).run P w = .ok (.int k (u j)) w := fun u => by
      simp [part, isAgg, run_underlying he, Ks_get k n u j hj]
    simp only [Op.eqItems, Sem.run_bind, px, Result.andThen_ok, run_equalIn_int w d e k k _ _ he, List.all_cons]
    cases hb : (z j == y j)
    · simp
    · simp only [Bool.true_and]
      simp only [Bool.not_true, Bool.false_eq_true, if_false]
      first | exact ih (fun j hj => hl j (by simp [hj])) | (simp; exact ih (fun j hj => hl j (by simp [hj])))
theorem run_eql_ints {P : Program} (w : World) {t e : TypeId} {n : Nat} {i : TypeInfo} {k : IntKind} (hu : P.underlying t = some (.array n e)) (hi : P.info? e = some i) (he : P.underlying e = some (.int k)) (hce : P.cellsOf e = 1)
    (z y : Nat → Int) : (binOp .eql t (.agg (Ks k n z).toArray) (.agg (Ks k n y).toArray)).run P w = .ok (.bool (eqB z y n)) w := by
  rw [run_eql_struct, show (10000 : Nat) = 9998 + 2 from rfl, run_equalIn_ints w 9998 hu hi he hce z y]; rfl
theorem run_neq_ints {P : Program} (w : World) {t e : TypeId} {n : Nat} {i : TypeInfo} {k : IntKind} (hu : P.underlying t = some (.array n e)) (hi : P.info? e = some i) (he : P.underlying e = some (.int k)) (hce : P.cellsOf e = 1)
    (z y : Nat → Int) : (binOp .neq t (.agg (Ks k n z).toArray) (.agg (Ks k n y).toArray)).run P w = .ok (.bool (!eqB z y n)) w := by
  rw [run_neq_struct, show (10000 : Nat) = 9998 + 2 from rfl, run_equalIn_ints w 9998 hu hi he hce z y]; rfl
end Go.Proofs.YtopakpmepioomaaDoor

/- The sum of bytes, by definition and by the table of four shifts at once; that it tells bytes apart. No program in sight. -/
namespace Go.Proofs.YtopakpmepioomaaDoor
set_option linter.unusedVariables false

/-- a number, shifted by a bit -/
def shN (v : Nat) : Nat := if v % 2 = 1 then (v / 2) ^^^ 3988292384 else v / 2
def tabN : List Nat := [0, 498536548, 997073096, 651767980, 1994146192, 1802195444, 1303535960, 1342533948, 3988292384, 4027552580, 3604390888, 3412177804, 2607071920, 2262029012, 2685067896, 3183342108]
/-- four shifts by the table -/
def nibN (v : Nat) : Nat := (v / 16) ^^^ tabN.getD (v % 16) 0
def sh4 (v : Nat) : Nat := shN (shN (shN (shN v)))
def sh8 (v : Nat) : Nat := sh4 (sh4 v)
/-- a byte goes into the sum -/
def stepN (v x : Nat) : Nat := sh8 (v ^^^ x)
/-- n bytes -/
def foldN (v : Nat) (z : Nat → Int) : Nat → Nat
  | 0 => v
  | n + 1 => stepN (foldN v z n) (z n).toNat
/-- the sum of n bytes -/
def crcZ (z : Nat → Int) (n : Nat) : Int := ((4294967295 - foldN 4294967295 z n : Nat) : Int)
/-- m rows of bytes, one behind the other -/
def foldP (v : Nat) (pl : Nat → Nat) (pz : Nat → Nat → Int) : Nat → Nat
  | 0 => v
  | k + 1 => foldN (foldP v pl pz k) (pz k) (pl k)

theorem xor_half (a b : Nat) : (a ^^^ b) / 2 = (a / 2) ^^^ (b / 2) := Nat.xor_div_two
theorem xor_odd (a b : Nat) : (a ^^^ b) % 2 = (a % 2 + b % 2) % 2 := by
  have h := @Nat.xor_mod_two_eq_one a b
  have : a % 2 < 2 := Nat.mod_lt _ (by omega)
  have : b % 2 < 2 := Nat.mod_lt _ (by omega)
  have : (a ^^^ b) % 2 < 2 := Nat.mod_lt _ (by omega)
  by_cases ha : a % 2 = 1 <;> by_cases hb : b % 2 = 1
  · have : ¬ (a ^^^ b) % 2 = 1 := fun k => (h.1 k) (by simp [ha, hb])
    omega
  · have : (a ^^^ b) % 2 = 1 := h.2 (by simp [ha, hb])
    omega
  · have : (a ^^^ b) % 2 = 1 := h.2 (by simp [ha, hb])
    omega
  · have : ¬ (a ^^^ b) % 2 = 1 := fun k => (h.1 k) (by simp [ha, hb])
    omega
theorem shN_xor (a b : Nat) : shN (a ^^^ b) = shN a ^^^ shN b := by
  unfold shN
  rw [xor_odd, xor_half]
  have : a % 2 < 2 := Nat.mod_lt _ (by omega)
  have : b % 2 < 2 := Nat.mod_lt _ (by omega)
  by_cases ha : a % 2 = 1 <;> by_cases hb : b % 2 = 1
  · rw [if_neg (by omega), if_pos ha, if_pos hb, Nat.xor_assoc, Nat.xor_comm (b / 2), ← Nat.xor_assoc 3988292384, Nat.xor_self, Nat.zero_xor]
  · rw [if_pos (by omega), if_pos ha, if_neg hb, Nat.xor_assoc, Nat.xor_comm (b / 2), ← Nat.xor_assoc]
  · rw [if_pos (by omega), if_neg ha, if_pos hb, Nat.xor_assoc]
  · rw [if_neg (by omega), if_neg ha, if_neg hb]
theorem sh4_xor (a b : Nat) : sh4 (a ^^^ b) = sh4 a ^^^ sh4 b := by unfold sh4; rw [shN_xor, shN_xor, shN_xor, shN_xor]
theorem sh8_xor (a b : Nat) : sh8 (a ^^^ b) = sh8 a ^^^ sh8 b := by unfold sh8; rw [sh4_xor, sh4_xor]
theorem split16 (q r : Nat) (hr : r < 16) : 16 * q + r = (16 * q) ^^^ r := by
  refine Nat.eq_of_testBit_eq fun j => ?_
  have h1 := Nat.testBit_two_pow_mul_add q (b := r) (i := 4) hr j
  have h2 := Nat.testBit_two_pow_mul_add q (b := 0) (i := 4) (by omega) j
  rw [show (2 : Nat) ^ 4 = 16 from rfl] at h1 h2
  rw [Nat.add_zero] at h2
  rw [Nat.testBit_xor, h1, h2]
  by_cases hj : j < 4
  · rw [if_pos hj, if_pos hj, Nat.zero_testBit, Bool.false_xor]
  · rw [if_neg hj, if_neg hj, Nat.testBit_lt_two_pow (x := r) (i := j) (Nat.lt_of_lt_of_le hr (by rw [show (16 : Nat) = 2 ^ 4 from rfl]; exact Nat.pow_le_pow_right (by omega) (by omega))), Bool.xor_false]
theorem shN_even (q : Nat) : shN (2 * q) = q := by unfold shN; rw [if_neg (by omega)]; omega
theorem sh4_16 (q : Nat) : sh4 (16 * q) = q := by
  unfold sh4
  rw [show 16 * q = 2 * (2 * (2 * (2 * q))) by omega, shN_even, shN_even, shN_even, shN_even]
theorem sh4_tab : ∀ r, r < 16 → sh4 r = tabN.getD r 0 := by decide
theorem nib_sh4 (v : Nat) : nibN v = sh4 v := by
  have h := split16 (v / 16) (v % 16) (Nat.mod_lt _ (by omega))
  rw [Nat.div_add_mod] at h
  rw [h, sh4_xor, sh4_16, sh4_tab _ (Nat.mod_lt _ (by omega)), ← h]
  rfl
theorem xor_lt {a b : Nat} (n : Nat) (ha : a < 2 ^ n) (hb : b < 2 ^ n) : a ^^^ b < 2 ^ n := Nat.xor_lt_two_pow ha hb
theorem shN_lt {v : Nat} (h : v < 4294967296) : shN v < 4294967296 := by
  unfold shN
  split
  · exact xor_lt 32 (a := v / 2) (b := 3988292384) (by omega) (by decide)
  · omega
theorem sh4_lt {v : Nat} (h : v < 4294967296) : sh4 v < 4294967296 := shN_lt (shN_lt (shN_lt (shN_lt h)))
theorem sh8_lt {v : Nat} (h : v < 4294967296) : sh8 v < 4294967296 := sh4_lt (sh4_lt h)
theorem stepN_lt {v x : Nat} (h : v < 4294967296) (hx : x < 256) : stepN v x < 4294967296 := sh8_lt (xor_lt 32 h (by omega))
theorem foldN_lt {v : Nat} {z : Nat → Int} (hv : v < 4294967296) (hz : Byt z) (n : Nat) : foldN v z n < 4294967296 := by
  induction n with
  | zero => exact hv
  | succ n ih => exact stepN_lt ih (by have := hz n; omega)
theorem foldP_lt {v : Nat} {pl : Nat → Nat} {pz : Nat → Nat → Int} (hv : v < 4294967296) (hz : ∀ k, Byt (pz k)) (m : Nat) : foldP v pl pz m < 4294967296 := by
  induction m with
  | zero => exact hv
  | succ m ih => exact foldN_lt ih (hz m) _
theorem foldN_congr {v : Nat} {z y : Nat → Int} {n : Nat} (h : ∀ i, i < n → z i = y i) : foldN v z n = foldN v y n := by
  induction n with
  | zero => rfl
  | succ n ih => show stepN _ _ = stepN _ _; rw [ih fun i hi => h i (by omega), h n (by omega)]
theorem crcZ_bd (z : Nat → Int) (n : Nat) : 0 ≤ crcZ z n ∧ crcZ z n < 4294967296 := by unfold crcZ; omega
theorem crcZ_congr {z y : Nat → Int} {n : Nat} (h : ∀ i, i < n → z i = y i) : crcZ z n = crcZ y n := by unfold crcZ; rw [foldN_congr h]
theorem xor_cancel {a b c : Nat} (h : a ^^^ b = a ^^^ c) : b = c := by
  have : a ^^^ (a ^^^ b) = a ^^^ (a ^^^ c) := by rw [h]
  rwa [← Nat.xor_assoc, ← Nat.xor_assoc, Nat.xor_self, Nat.zero_xor, Nat.zero_xor] at this
theorem xor_zero {a b : Nat} (h : a ^^^ b = 0) : a = b := (xor_cancel (h.trans (Nat.xor_self a).symm)).symm
/-- shifting tells numbers apart -/
theorem shN_zero {u : Nat} (hu : u < 4294967296) (h : shN u = 0) : u = 0 := by
  unfold shN at h
  split at h
  · have : u / 2 = 3988292384 := xor_zero h
    omega
  · omega
theorem shN_inj {v w : Nat} (hv : v < 4294967296) (hw : w < 4294967296) (h : shN v = shN w) : v = w := by
  have : shN (v ^^^ w) = 0 := by rw [shN_xor, h, Nat.xor_self]
  exact xor_zero (shN_zero (xor_lt 32 hv hw) this)
theorem sh4_inj {v w : Nat} (hv : v < 4294967296) (hw : w < 4294967296) (h : sh4 v = sh4 w) : v = w := by
  unfold sh4 at h
  exact shN_inj hv hw (shN_inj (shN_lt hv) (shN_lt hw) (shN_inj (shN_lt (shN_lt hv)) (shN_lt (shN_lt hw)) (shN_inj (shN_lt (shN_lt (shN_lt hv))) (shN_lt (shN_lt (shN_lt hw))) h)))
theorem sh8_inj {v w : Nat} (hv : v < 4294967296) (hw : w < 4294967296) (h : sh8 v = sh8 w) : v = w := sh4_inj hv hw (sh4_inj (sh4_lt hv) (sh4_lt hw) h)
theorem stepN_byte {v x y : Nat} (hv : v < 4294967296) (hx : x < 256) (hy : y < 256) (h : stepN v x = stepN v y) : x = y :=
  xor_cancel (sh8_inj (xor_lt 32 hv (by omega)) (xor_lt 32 hv (by omega)) h)
theorem stepN_state {v u x : Nat} (hv : v < 4294967296) (hu : u < 4294967296) (hx : x < 256) (h : stepN v x = stepN u x) : v = u := by
  have h1 := sh8_inj (xor_lt 32 hv (by omega)) (xor_lt 32 hu (by omega)) h
  rw [Nat.xor_comm v, Nat.xor_comm u] at h1
  exact xor_cancel h1
theorem foldN_state {v u : Nat} {z : Nat → Int} (hv : v < 4294967296) (hu : u < 4294967296) (hz : Byt z) {n : Nat} (h : foldN v z n = foldN u z n) : v = u := by
  induction n with
  | zero => exact h
  | succ n ih => exact ih (stepN_state (foldN_lt hv hz n) (foldN_lt hu hz n) (by have := hz n; omega) h)
/-- one byte otherwise: another sum -/
theorem foldN_one {v : Nat} {z y : Nat → Int} (hv : v < 4294967296) (hz : Byt z) (hy : Byt y) {n j : Nat} (hj : j < n) (hne : z j ≠ y j) (heq : ∀ i, i < n → i ≠ j → z i = y i) : foldN v z n ≠ foldN v y n := by
  induction n with
  | zero => omega
  | succ n ih =>
    intro h
    have h : stepN (foldN v z n) (z n).toNat = stepN (foldN v y n) (y n).toNat := h
    have b1 := hz n
    have b2 := hy n
    by_cases e : j = n
    · subst e
      rw [foldN_congr (z := z) (y := y) fun i hi => heq i (by omega) (by omega)] at h
      have := stepN_byte (foldN_lt hv hy j) (by omega) (by omega) h
      exact hne (by omega)
    · rw [heq n (by omega) (by omega)] at h
      exact ih (by omega) (fun i hi hij => heq i (by omega) hij) (stepN_state (foldN_lt hv hz n) (foldN_lt hv hy n) (by omega) h)
theorem crcZ_one {z y : Nat → Int} (hz : Byt z) (hy : Byt y) {n j : Nat} (hj : j < n) (hne : z j ≠ y j) (heq : ∀ i, i < n → i ≠ j → z i = y i) : crcZ z n ≠ crcZ y n := by
  intro h
  have h1 := foldN_lt (v := 4294967295) (by omega) hz n
  have h2 := foldN_lt (v := 4294967295) (by omega) hy n
  unfold crcZ at h
  exact foldN_one (v := 4294967295) (by omega) hz hy hj hne heq (by omega)
/-- the sum of 252 noughts isn't nought -/
theorem crc_noughts : crcZ (fun _ => 0) 252 ≠ 0 := by
  have : foldN 4294967295 (fun _ => 0) 252 ≠ 4294967295 := by decide +kernel
  unfold crcZ
  have h2 := foldN_lt (v := 4294967295) (z := fun _ => 0) (by omega) (fun _ => ⟨Int.le_refl 0, (by decide : (0 : Int) < 256)⟩) 252
  omega
end Go.Proofs.YtopakpmepioomaaDoor

/- More plain words on rows of bytes. -/
namespace Go.Proofs.YtopakpmepioomaaDoor
open Go.RowKit
theorem seg_at {w : World} {e : TypeId} {n b : Nat} {y : Nat → Int} {vs : List Value} (hb : b = w.heap.size) (h : vs = Bs n y) : Seg (w.alloc (.cells vs.toArray e)) b 0 n y := by
  subst hb; exact seg_new w e n y vs h
theorem soft_at {w : World} {e : TypeId} {n b : Nat} {vs : Array Value} (hb : b = w.heap.size) : Soft (w.alloc (.cells vs e)) b 0 n := by
  subst hb; exact soft_new w e n vs
theorem row_at {w : World} {e : TypeId} {n b : Nat} {y : Nat → Int} {vs : List Value} (hb : b = w.heap.size) (h : vs = Bs n y) : Row (w.alloc (.cells vs.toArray e)) (some ⟨b, 0, none⟩) n y :=
  .inr ⟨_, _, rfl, seg_at hb h⟩
theorem Seg.alloc {w : World} {b off n : Nat} {z : Nat → Int} (h : Seg w b off n z) (o : Obj) : Seg (w.alloc o) b off n z := by
  intro i hi
  have h1 := h i hi
  have := World.block_lt_of_cell? w _ h1
  rw [World.cell?_of_block (w := w) (Below.heap_alloc w o b this)]; exact h1
theorem Soft.alloc {w : World} {b off n : Nat} (h : Soft w b off n) (hb : b < w.heap.size) (o : Obj) : Soft (w.alloc o) b off n := by
  intro i hi
  rw [World.frozen?_of_block (w := w) (Below.heap_alloc w o b hb)]; exact h i hi
theorem Row.alloc {w : World} {a : Option Addr} {n : Nat} {z : Nat → Int} (h : Row w a n z) (o : Obj) : Row (w.alloc o) a n z := by
  rcases h with h | ⟨b, off, rfl, hs⟩
  · exact .inl h
  · exact .inr ⟨b, off, rfl, hs.alloc o⟩
theorem Seg.lt {w : World} {b off n : Nat} {z : Nat → Int} (h : Seg w b off n z) (h0 : 0 < n) : b < w.heap.size := World.block_lt_of_cell? w _ (h 0 h0)
theorem Seg.below {w w' : World} {b off n : Nat} {z : Nat → Int} (h : Seg w b off n z) {B : Nat} (hb : Below B w w') (hB : b < B) : Seg w' b off n z :=
  fun i hi => (hb.cell (p := ⟨b, off + i, none⟩) hB).trans (h i hi)
theorem Soft.below {w w' : World} {b off n : Nat} (h : Soft w b off n) {B : Nat} (hb : Below B w w') (hB : b < B) : Soft w' b off n :=
  fun i hi => (hb.frozen (p := ⟨b, off + i, none⟩) hB).trans (h i hi)

theorem Row.take {w : World} {a : Option Addr} {n : Nat} {z : Nat → Int} (h : Row w a n z) (m : Nat) (hm : m ≤ n) : Row w a m z := by
  rcases h with h | ⟨b, off, rfl, hs⟩
  · exact .inl (by omega)
  · exact .inr ⟨b, off, rfl, hs.take m hm⟩
theorem byteOf_sum2 (v : Int) (h0 : 0 ≤ v) (h1 : v < 65536) : byteOf v 0 + 256 * byteOf v 1 = v := by
  rw [byteOf_succ, byteOf_zero, byteOf_zero]; omega
theorem byteOf_sum4 (v : Int) (h0 : 0 ≤ v) (h1 : v < 4294967296) : byteOf v 0 + 256 * byteOf v 1 + 65536 * byteOf v 2 + 16777216 * byteOf v 3 = v := by
  rw [byteOf_succ v 2, byteOf_succ (v / 256) 1, byteOf_succ v 1, byteOf_succ (v / 256) 0, byteOf_succ (v / 256 / 256) 0, byteOf_succ v 0]
  simp only [byteOf_zero]; omega
/-- what was put is got -/
theorem g32_over (z : Nat → Int) (k : Nat) (v : Int) (h0 : 0 ≤ v) (h1 : v < 4294967296) : g32 (over z k 4 (byteOf v)) k = v := by
  unfold g32 over
  rw [if_pos (by omega), if_pos (by omega), if_pos (by omega), if_pos (by omega), Nat.sub_self, show k + 1 - k = 1 by omega, show k + 2 - k = 2 by omega, show k + 3 - k = 3 by omega]
  exact byteOf_sum4 v h0 h1
theorem g16_over (z : Nat → Int) (k : Nat) (v : Int) (h0 : 0 ≤ v) (h1 : v < 65536) : g16 (over z k 2 (byteOf v)) k = v := by
  unfold g16 over
  rw [if_pos (by omega), if_pos (by omega), Nat.sub_self, show k + 1 - k = 1 by omega]
  exact byteOf_sum2 v h0 h1
/-- a number's halves -/
theorem g32_halves (z : Nat → Int) (k : Nat) : g32 z k = g16 z k + 65536 * g16 z (k + 2) := by unfold g32 g16; rw [show k + 2 + 1 = k + 3 from rfl]; omega
/-- elsewhere nothing is changed -/
theorem over_out (z : Nat → Int) (k n i : Nat) (f : Nat → Int) (h : i < k ∨ k + n ≤ i) : over z k n f i = z i := by unfold over; rw [if_neg (by omega)]
theorem over_in (z : Nat → Int) (k n i : Nat) (f : Nat → Int) (h : k ≤ i ∧ i < k + n) : over z k n f i = f (i - k) := by unfold over; rw [if_pos h]
theorem g32_out (z : Nat → Int) (k n i : Nat) (f : Nat → Int) (h : i + 4 ≤ k ∨ k + n ≤ i) : g32 (over z k n f) i = g32 z i := by
  unfold g32
  rw [over_out z k n i f (by omega), over_out z k n (i + 1) f (by omega), over_out z k n (i + 2) f (by omega), over_out z k n (i + 3) f (by omega)]
theorem g16_out (z : Nat → Int) (k n i : Nat) (f : Nat → Int) (h : i + 2 ≤ k ∨ k + n ≤ i) : g16 (over z k n f) i = g16 z i := by
  unfold g16
  rw [over_out z k n i f (by omega), over_out z k n (i + 1) f (by omega)]
theorem byteOf_g32 (z : Nat → Int) (hz : Byt z) (k i : Nat) (hi : i < 4) : byteOf (g32 z k) i = z (k + i) := by
  have h0 := hz k; have h1 := hz (k + 1); have h2 := hz (k + 2); have h3 := hz (k + 3)
  obtain rfl | rfl | rfl | rfl : i = 0 ∨ i = 1 ∨ i = 2 ∨ i = 3 := by omega
  · rw [byteOf_zero, Nat.add_zero]; unfold g32; omega
  · rw [byteOf_succ, byteOf_zero]; unfold g32; omega
  · rw [byteOf_succ, byteOf_succ, byteOf_zero]; unfold g32; omega
  · rw [byteOf_succ, byteOf_succ, byteOf_succ, byteOf_zero]; unfold g32; omega
theorem byteOf_g16 (z : Nat → Int) (hz : Byt z) (k i : Nat) (hi : i < 2) : byteOf (g16 z k) i = z (k + i) := by
  have h0 := hz k; have h1 := hz (k + 1)
  obtain rfl | rfl : i = 0 ∨ i = 1 := by omega
  · rw [byteOf_zero, Nat.add_zero]; unfold g16; omega
  · rw [byteOf_succ, byteOf_zero]; unfold g16; omega
end Go.Proofs.YtopakpmepioomaaDoor

/- A block of bytes that fills a heap block: read, written, loaded whole. No program in sight. -/
namespace Go.Proofs.YtopakpmepioomaaDoor
open Go.RowKit
set_option linter.unusedVariables false
/-- heap block g is n bytes z -/
def Blk (w : World) (g : Nat) (T : TypeId) (n : Nat) (z : Nat → Int) : Prop := w.heap[g]? = some (.cells (Ks .u8 n z).toArray T (0, 0))
theorem cell_of_heap {w : World} {g : Nat} {cs : Array Value} {t : TypeId} {fr : Nat × Nat} (h : w.heap[g]? = some (.cells cs t fr)) {i : Nat} {v : Value} (hi : cs[i]? = some v) : w.cell? ⟨g, i, none⟩ = some v := by
  simp only [World.cell?, h]; simpa using hi
theorem soft_of_heap {w : World} {g : Nat} {cs : Array Value} {t : TypeId} (h : w.heap[g]? = some (.cells cs t (0, 0))) (i : Nat) : w.frozen? ⟨g, i, none⟩ = false := by
  simp only [World.frozen?, h]; simp
theorem Blk.lt {w : World} {g : Nat} {T : TypeId} {n : Nat} {z : Nat → Int} (h : Blk w g T n z) : g < w.heap.size := (Array.getElem?_eq_some_iff.1 h).1
theorem Blk.seg {w : World} {g : Nat} {T : TypeId} {n : Nat} {z : Nat → Int} (h : Blk w g T n z) : Seg w g 0 n z := fun i hi =>
  cell_of_heap h (by rw [Nat.zero_add]; simpa using Ks_get .u8 n z i hi)
theorem Blk.soft {w : World} {g : Nat} {T : TypeId} {n : Nat} {z : Nat → Int} (h : Blk w g T n z) (off m : Nat) : Soft w g off m := fun i _ => soft_of_heap h _
theorem Blk.new (w : World) (T : TypeId) (n : Nat) (z : Nat → Int) : Blk (w.alloc (.cells (Ks .u8 n z).toArray T)) w.heap.size T n z := heap_alloc_new w _
theorem Blk.drewN {w : World} {g : Nat} {T : TypeId} {n : Nat} {z : Nat → Int} (h : Blk w g T n z) (m : Nat) : Blk (w.drewN m) g T n z := h
theorem Blk.congr {w : World} {g : Nat} {T : TypeId} {n : Nat} {z y : Nat → Int} (h : Blk w g T n z) (e : ∀ i, i < n → z i = y i) : Blk w g T n y := by
  unfold Blk
  have : Ks .u8 n y = Ks .u8 n z := by unfold Ks; apply List.map_congr_left; intro i hi; rw [e i (by simpa using hi)]
  rw [this]; exact h
/-- a block whose cells are known -/
theorem Blk.of_cells {w : World} {g : Nat} {T : TypeId} {n : Nat} {z : Nat → Int} {c : Array Value} (h : w.heap[g]? = some (.cells c T (0, 0))) (hc : c.size = n) (hs : Seg w g 0 n z) : Blk w g T n z := by
  unfold Blk
  rw [h]
  congr 2
  apply Array.ext'
  apply List.ext_getElem?
  intro i
  by_cases hi : i < n
  · have := hs i hi
    simp only [World.cell?, h, Nat.zero_add] at this
    have h2 := Ks_get .u8 n z i hi
    simp at this ⊢
    rw [this, ← h2]
  · rw [List.getElem?_eq_none (by simp; omega), List.getElem?_eq_none (by simp [Ks_length]; omega)]
theorem Blk.puts {w w' : World} {g : Nat} {T : TypeId} {n lo m : Nat} {z f : Nat → Int} (h : Blk w g T n z) (hp : Puts g lo m f w w') : Blk w' g T n (over z lo m f) := by
  obtain ⟨c', hc, hh⟩ := hp.only.shape _ _ _ h
  exact Blk.of_cells hh (by rw [hc]; simp [Ks_length]) (hp.seg h.seg (by omega))
theorem Blk.setCell {w : World} {g : Nat} {T : TypeId} {n : Nat} {z : Nat → Int} (h : Blk w g T n z) (i : Nat) (v : Int) (hi : i < n) : Blk (w.setCell ⟨g, i, none⟩ (.int .u8 v)) g T n (over z i 1 (fun _ => v)) := by
  have hp : Puts g i 1 (fun _ => v) w (w.setCell ⟨g, i + 0, none⟩ (.int .u8 v)) := (Puts.nil g i (fun _ => v) w).snoc (u := .int .u8 (z i)) (by have := h.seg i hi; simpa using this) rfl
  exact h.puts hp
theorem Blk.below {w w' : World} {g : Nat} {T : TypeId} {n : Nat} {z : Nat → Int} (h : Blk w g T n z) {B : Nat} (hb : Below B w w') (hg : g < B) : Blk w' g T n z := (hb.block g hg).trans h
theorem Blk.only {w w' : World} {g : Nat} {T : TypeId} {n : Nat} {z : Nat → Int} (h : Blk w g T n z) {b : Nat} (hb : Only b w w') (hg : g ≠ b) : Blk w' g T n z := (hb.block g hg).trans h
theorem Blk.alloc {w : World} {g : Nat} {T : TypeId} {n : Nat} {z : Nat → Int} (h : Blk w g T n z) (o : Obj) : Blk (w.alloc o) g T n z := (Below.heap_alloc w o g h.lt).trans h
theorem heap_alloc_keep {w : World} {g : Nat} {x : Obj} (h : w.heap[g]? = some x) (o : Obj) : (w.alloc o).heap[g]? = some x := (Below.heap_alloc w o g (Array.getElem?_eq_some_iff.1 h).1).trans h
theorem Ks_size (k : IntKind) (n : Nat) (z : Nat → Int) : (Ks k n z).toArray.size = n := by simp [Ks]
theorem Ks_one (k : IntKind) (n : Nat) (z : Nat → Int) : (Ks k n z).toArray.all (·.oneCell') = true := by
  rw [Array.all_eq_true]
  intro i hi
  simp [Ks]
  rfl
theorem Ks_congr {k : IntKind} {n : Nat} {z y : Nat → Int} (e : ∀ i, i < n → z i = y i) : Ks k n z = Ks k n y := by
  unfold Ks; apply List.map_congr_left; intro i hi; rw [e i (by simpa using hi)]
/-- two blocks that are the same -/
theorem eqB_refl (z : Nat → Int) (n : Nat) : eqB z z n = true := (eqB_iff z z n).2 fun _ _ => rfl
end Go.Proofs.YtopakpmepioomaaDoor

/- The bits of a block: byte k holds bits 8 k .. 8 k + 7. No program in sight. -/
namespace Go.Proofs.YtopakpmepioomaaDoor
open Go.RowKit
set_option linter.unusedVariables false

def b8 (a b c d e f g h : Bool) : Nat := a.toNat + 2 * b.toNat + 4 * c.toNat + 8 * d.toNat + 16 * e.toNat + 32 * f.toNat + 64 * g.toNat + 128 * h.toNat
def by8 (P : Nat → Bool) (k : Nat) : Nat := b8 (P (8 * k)) (P (8 * k + 1)) (P (8 * k + 2)) (P (8 * k + 3)) (P (8 * k + 4)) (P (8 * k + 5)) (P (8 * k + 6)) (P (8 * k + 7))
def bZ (P : Nat → Bool) (k : Nat) : Int := (by8 P k : Nat)
theorem b8_lt : ∀ a b c d e f g h : Bool, b8 a b c d e f g h < 256 := by decide
theorem by8_lt (P : Nat → Bool) (k : Nat) : by8 P k < 256 := b8_lt _ _ _ _ _ _ _ _
theorem bZ_byt (P : Nat → Bool) : Byt (bZ P) := fun i => by have := by8_lt P i; unfold bZ; omega
def setB (P : Nat → Bool) (i : Nat) : Nat → Bool := fun j => if j = i then true else P j
theorem or0 : ∀ a b c d e f g h : Bool, b8 a b c d e f g h ||| 1 = b8 true b c d e f g h := by decide
theorem or1 : ∀ a b c d e f g h : Bool, b8 a b c d e f g h ||| 2 = b8 a true c d e f g h := by decide
theorem or2 : ∀ a b c d e f g h : Bool, b8 a b c d e f g h ||| 4 = b8 a b true d e f g h := by decide
theorem or3 : ∀ a b c d e f g h : Bool, b8 a b c d e f g h ||| 8 = b8 a b c true e f g h := by decide
theorem or4 : ∀ a b c d e f g h : Bool, b8 a b c d e f g h ||| 16 = b8 a b c d true f g h := by decide
theorem or5 : ∀ a b c d e f g h : Bool, b8 a b c d e f g h ||| 32 = b8 a b c d e true g h := by decide
theorem or6 : ∀ a b c d e f g h : Bool, b8 a b c d e f g h ||| 64 = b8 a b c d e f true h := by decide
theorem or7 : ∀ a b c d e f g h : Bool, b8 a b c d e f g h ||| 128 = b8 a b c d e f g true := by decide
theorem an0 : ∀ a b c d e f g h : Bool, (b8 a b c d e f g h &&& 1) = 1 * a.toNat := by decide
theorem an1 : ∀ a b c d e f g h : Bool, (b8 a b c d e f g h &&& 2) = 2 * b.toNat := by decide
theorem an2 : ∀ a b c d e f g h : Bool, (b8 a b c d e f g h &&& 4) = 4 * c.toNat := by decide
theorem an3 : ∀ a b c d e f g h : Bool, (b8 a b c d e f g h &&& 8) = 8 * d.toNat := by decide
theorem an4 : ∀ a b c d e f g h : Bool, (b8 a b c d e f g h &&& 16) = 16 * e.toNat := by decide
theorem an5 : ∀ a b c d e f g h : Bool, (b8 a b c d e f g h &&& 32) = 32 * f.toNat := by decide
theorem an6 : ∀ a b c d e f g h : Bool, (b8 a b c d e f g h &&& 64) = 64 * g.toNat := by decide
theorem an7 : ∀ a b c d e f g h : Bool, (b8 a b c d e f g h &&& 128) = 128 * h.toNat := by decide
theorem by8_or (P : Nat → Bool) (k j : Nat) (hj : j < 8) : by8 P k ||| 2 ^ j = by8 (setB P (8 * k + j)) k := by
  have hS : ∀ m, m < 8 → setB P (8 * k + j) (8 * k + m) = if m = j then true else P (8 * k + m) := fun m hm => by
    unfold setB
    by_cases e : m = j
    · rw [if_pos e, if_pos (by omega)]
    · rw [if_neg e, if_neg (by omega)]
  have h0 := hS 0 (by omega)
  rw [Nat.add_zero] at h0
  unfold by8
  rw [h0, hS 1 (by omega), hS 2 (by omega), hS 3 (by omega), hS 4 (by omega), hS 5 (by omega), hS 6 (by omega), hS 7 (by omega)]
  have : j = 0 ∨ j = 1 ∨ j = 2 ∨ j = 3 ∨ j = 4 ∨ j = 5 ∨ j = 6 ∨ j = 7 := by omega
  rcases this with rfl | rfl | rfl | rfl | rfl | rfl | rfl | rfl
  · exact or0 _ _ _ _ _ _ _ _
  · exact or1 _ _ _ _ _ _ _ _
  · exact or2 _ _ _ _ _ _ _ _
  · exact or3 _ _ _ _ _ _ _ _
  · exact or4 _ _ _ _ _ _ _ _
  · exact or5 _ _ _ _ _ _ _ _
  · exact or6 _ _ _ _ _ _ _ _
  · exact or7 _ _ _ _ _ _ _ _
theorem by8_and (P : Nat → Bool) (k j : Nat) (hj : j < 8) : by8 P k &&& 2 ^ j = 2 ^ j * (P (8 * k + j)).toNat := by
  unfold by8
  have : j = 0 ∨ j = 1 ∨ j = 2 ∨ j = 3 ∨ j = 4 ∨ j = 5 ∨ j = 6 ∨ j = 7 := by omega
  rcases this with rfl | rfl | rfl | rfl | rfl | rfl | rfl | rfl
  · exact an0 _ _ _ _ _ _ _ _
  · exact an1 _ _ _ _ _ _ _ _
  · exact an2 _ _ _ _ _ _ _ _
  · exact an3 _ _ _ _ _ _ _ _
  · exact an4 _ _ _ _ _ _ _ _
  · exact an5 _ _ _ _ _ _ _ _
  · exact an6 _ _ _ _ _ _ _ _
  · exact an7 _ _ _ _ _ _ _ _
theorem by8_other (P : Nat → Bool) {i k : Nat} (h : k ≠ i / 8) : by8 (setB P i) k = by8 P k := by
  unfold by8 setB
  rw [if_neg (by omega), if_neg (by omega), if_neg (by omega), if_neg (by omega), if_neg (by omega), if_neg (by omega), if_neg (by omega), if_neg (by omega)]
/-- a bit is set: as the block's bytes -/
theorem bZ_set (P : Nat → Bool) (i k : Nat) : bZ (setB P i) k = if k = i / 8 then ((by8 P (i / 8) ||| 2 ^ (i % 8) : Nat) : Int) else bZ P k := by
  unfold bZ
  by_cases e : k = i / 8
  · rw [if_pos e, by8_or P _ _ (Nat.mod_lt _ (by decide)), e, show 8 * (i / 8) + i % 8 = i by omega]
  · rw [if_neg e, by8_other P e]
theorem bZ_none (k : Nat) : bZ (fun _ => false) k = 0 := rfl
end Go.Proofs.YtopakpmepioomaaDoor

/- clear of a row of bytes, as a law for the walk. -/
namespace Go.Proofs.YtopakpmepioomaaDoor
open Go.RowKit
set_option linter.unusedVariables false
theorem only_setCells (b : Nat) : ∀ (vs : List Value) (o : Nat) (w : World), Only b w (w.setCells b o vs)
  | [], _, w => Only.refl _ _
  | v :: r, o, w => (Only.setCell w ⟨b, o, none⟩ v).trans (only_setCells b r (o + 1) _)
theorem puts_setCells (b o n : Nat) (f : Nat → Int) (vs : List Value) (w : World) (hl : vs.length = n) (hv : ∀ i (h : i < vs.length), vs[i] = .int .u8 (f i)) (hc : ∀ j, j < n → (w.cell? ⟨b, o + j, none⟩).isSome = true) :
    Puts b o n f w (w.setCells b o vs) := by
  refine ⟨only_setCells b vs o w, fun x => ?_⟩
  by_cases h : o ≤ x ∧ x < o + n
  · rw [if_pos h]
    have := World.cell?_setCells_in b vs o w (fun j hj => hc j (by omega)) (x - o) (by omega)
    rw [show o + (x - o) = x by omega, hv _ (by omega)] at this
    exact this
  · rw [if_neg h]
    exact World.cell?_setCells_out b vs o w _ (fun _ _ => by simp; omega)
theorem wpList_clearB {P : Program} {w : World} {ops : Array Oper} {rest : List Oper} {o : Oper} {a : Act} {Q : Exit → Act → World → Prop} (hgd : o.guard = none) (s : Operand) (t : TypeId)
    (ho : o.op = .call { callee := .builtin .clear, args := #[s], argTypes := #[t] }) (e : TypeId) (ht : P.underlying t = some (.slice e)) (hz : ∀ w, (zeroValue e).run P w = .ok (.int .u8 0) w)
    (b off n c : Nat) (z : Nat → Int) (hs : a.eval s = .slice (some ⟨b, off, none⟩) n c) (hn : 0 < n) (hseg : Seg w b off n z) (hf : Soft w b off n)
    (h : ∀ w', Puts b off n (fun _ => 0) w w' → wpList P ops Q rest (a.put o.dst (.tuple #[])) w') : wpList P ops Q (o :: rest) a w := by
  refine wpList_plain hgd fun K hK => ?_
  have hc : ∀ j, j < n → (w.cell? ⟨b, off + j, none⟩).isSome = true := fun j hj => by rw [hseg j hj]; rfl
  have hrun := Lib.run_clear_slice (P := P) w t e o.type (.int .u8 0) ht hz rfl rfl b off n c hn hc hf
  unfold Oper.wp
  simp [execOp, ho, resolve, invoke, builtin, hs, hrun, Result.andThen]
  exact hK _ _ (h _ (puts_setCells b off n (fun _ => 0) _ w (by simp) (by simp) hc))
theorem grown_trans {a b c : World} {row : Option Nat} (h : a.grownBy b row) (k : b.grownBy c row) : a.grownBy c row :=
  ⟨k.os.trans h.os, k.tape.trans h.tape, k.output.trans h.output, Nat.le_trans h.size k.size, fun j hj hne => (k.block j (Nat.lt_of_lt_of_le hj h.size) hne).trans (h.block j hj hne)⟩
theorem grown_only {a b : World} {g : Nat} (h : Only g a b) : a.grownBy b (some g) :=
  ⟨h.os, h.tape, h.output, Nat.le_of_eq h.size.symm, fun j _ hne => h.block j (fun e => hne (by rw [e]))⟩
theorem grown_below {a b : World} {row : Option Nat} (h : Below a.heap.size a b) : a.grownBy b row := ⟨h.os, h.tape, h.output, h.size, fun j hj _ => h.block j hj⟩
theorem grown_refl (a : World) (row : Option Nat) : a.grownBy a row := ⟨rfl, rfl, rfl, Nat.le_refl _, fun _ _ _ => rfl⟩
theorem grown_drewN {a b : World} {row : Option Nat} (h : a.grownBy b row) (m : Nat) : a.grownBy (b.drewN m) row := ⟨h.os, h.tape, h.output, h.size, h.block⟩
theorem grown_below_ge {a b : World} {row : Option Nat} {B : Nat} (h : a.grownBy b row) (hB : B ≤ a.heap.size) (hr : ∀ k, row = some k → B ≤ k) : Below B a b := (Below.refl B a).grown h hB hr
end Go.Proofs.YtopakpmepioomaaDoor

/- A region that draws its order, whose operations yield one value in every world of a class, and whose calls stay in the class: one walk. No program in sight. -/
namespace Go.Proofs.YtopakpmepioomaaDoor
open Go.RowKit
set_option linter.unusedVariables false
variable {P : Program}
/-- the worlds that meet S -/
structure InW (S : World → Prop) where
  W : World
  h : S W
def InS (S : World → Prop) (w' : World) : Prop := ∃ s : InW S, w' = s.W
theorem InS.mk {S : World → Prop} {w : World} (h : S w) : InS S w := ⟨⟨w, h⟩, rfl⟩
theorem InS.out {S : World → Prop} {w : World} (h : InS S w) : S w := by obtain ⟨s, rfl⟩ := h; exact s.h
theorem wp_region_S (S : World → Prop) {id : Nat} {Q : Exit → Act → World → Prop} {a : Act} {w : World} {l : List Oper} (hm : P.follows .mixedOrders = true) (hB : Region.lexB .any l.toArray = true) (hS : S { w with drawn := w.drawn + 1 })
    (h : Nonempty (InW S) → wpQuiet P l.toArray (fun w' => ∃ s : InW S, w' = s.W) (fun a' => ∀ w', InS S w' → Q .normal a' w') l a) : (Code.region id l.toArray true).wp P Q a w :=
  wp_region_quiet (C := fun w' => ∃ s : InW S, w' = s.W) hm hB ⟨⟨_, hS⟩, rfl⟩ (h ⟨⟨_, hS⟩⟩)
/-- a call in such a region -/
theorem q_call {S : World → Prop} {f : FuncId} {args : Array Value} {v : Value} (s : InW S) (h : ∀ W, S W → Calls P f args W fun e w' => e = .returned v ∧ S w') : Calls P f args s.W fun e w' => e = .returned v ∧ ∃ s' : InW S, w' = s'.W :=
  (h s.W s.h).mono fun e w' hh => ⟨hh.1, ⟨w', hh.2⟩, rfl⟩
/-- a load of many cells in such a region -/
theorem q_load {S : World → Prop} {ops : Array Oper} {Q : Act → Prop} {a : Act} {o : Oper} {rest : List Oper} (hw : Region.wanted o (yielded ops a.tmps) = true) (ty : TypeId) (x : Operand) (ho : o.op = .load ty x)
    (b off : Nat) (hx : a.eval x = .pointer (some ⟨b, off, none⟩)) (cs : List Value) (d : TypeDesc) (hS : ∀ w, S w → w.rangeAt b off cs)
    (hu : P.underlying ty = some d) (hd : d.isRow = true) (hi : (P.info? ty).map (·.size) = some cs.length)
    (h : wpQuiet P ops (fun w' => ∃ s : InW S, w' = s.W) Q rest (a.put o.dst (.agg cs.toArray))) : wpQuiet P ops (fun w' => ∃ s : InW S, w' = s.W) Q (o :: rest) a := by
  refine wpQuiet_step fun K hK => ?_
  rw [if_pos hw]
  refine ⟨.agg cs.toArray, fun w hw' => ?_, hK _ h⟩
  obtain ⟨s, rfl⟩ := hw'
  unfold Oper.quietAt execOp
  simp only [ho, hx, Instr.loadAt, Instr.sureAddr, Sem.run_bind, Sem.run_pure, Result.andThen_ok, run_loadVar_mid s.W b off ty cs d (hS s.W s.h) hu hd hi]
  exact ⟨rfl, rfl⟩
/-- an operation that yields v in whatever world -/
theorem q_val {S : World → Prop} {ops : Array Oper} {Q : Act → Prop} {a : Act} {o : Oper} {rest : List Oper} (hw : Region.wanted o (yielded ops a.tmps) = true) (v : Value) (hr : ∀ W, (execOp a.eval o).run P W = .ok (.value v) W)
    (h : wpQuiet P ops (fun w' => ∃ s : InW S, w' = s.W) Q rest (a.put o.dst v)) : wpQuiet P ops (fun w' => ∃ s : InW S, w' = s.W) Q (o :: rest) a := by
  refine wpQuiet_step fun K hK => ?_
  rw [if_pos hw]
  refine ⟨v, fun w _ => ?_, hK _ h⟩
  unfold Oper.quietAt
  rw [hr]
  exact ⟨rfl, rfl⟩
/-- the frame written out -/
theorem wpQuiet_frame {ops : Array Oper} {C : World → Prop} {Q : Act → Prop} {l : List Oper} {a a' : Act} (e : a = a') (h : wpQuiet P ops C Q l a') : wpQuiet P ops C Q l a := e ▸ h
end Go.Proofs.YtopakpmepioomaaDoor

/- A region that draws its order and holds operations that move the world (allocations, appends, stores, calls), each bound to wait for the one ahead of it: one walk of the lexical order, the worlds' class C s stepping on at each of them, to whatever s its value asks. Every other operation yields one value in every world of whatever class. No program in sight. -/
namespace Go.Proofs.YtopakpmepioomaaDoor.Mv
open Go.RowKit Go.Proofs.YtopakpmepioomaaDoor
set_option linter.unusedVariables false

/-- a step's number, and a value -/
structure St where
  n : Nat
  v : Value
def plainOp (o : Oper) : Bool := match o.op with | .move _ | .assign _ | .pick _ _ _ | .build _ _ | .load _ _ | .binOp _ _ _ _ _ | .unOp _ _ _ | .convert _ _ _ | .fieldAddr _ _ _ | .field _ _ _ | .indexAddr _ _ _ | .index _ _ _ | .extract _ _ | .slice _ _ _ _ _ => true | _ => false
def mv (o : Oper) : Bool := !plainOp o
/-- each mover waits for the one ahead of it -/
def chainB (md : Region.Mode) (ops : Array Oper) : Bool :=
  (List.range ops.size).all fun j => (List.range j).all fun i => match ops[j]?, ops[i]? with
    | some oj, some oi => !(mv oi && mv oj) || (List.range j).any fun p => decide (i ≤ p) && ((ops[p]?).map mv).getD false && oj.after.any fun e => Region.binds md e && e.on == p
    | _, _ => true

section
variable {P : Program} {ops : Array Oper} {md : Region.Mode} {σ : Type} {C : σ → World → Prop}

theorem chainB_spec (h : chainB md ops = true) {i j : Nat} {oi oj : Oper} (hi : ops[i]? = some oi) (hj : ops[j]? = some oj) (ci : mv oi = true) (cj : mv oj = true) (hij : i < j) :
    ∃ p op, i ≤ p ∧ p < j ∧ ops[p]? = some op ∧ mv op = true ∧ ∃ e ∈ oj.after, Region.binds md e = true ∧ e.on = p := by
  unfold chainB at h
  rw [List.all_eq_true] at h
  have h1 := h j (List.mem_range.2 (Array.getElem?_eq_some_iff.1 hj).1)
  rw [List.all_eq_true] at h1
  have h2 := h1 i (List.mem_range.2 hij)
  rw [hi, hj] at h2
  simp only [ci, cj, Bool.and_true, Bool.not_true, Bool.false_or, List.any_eq_true, Bool.and_eq_true, decide_eq_true_eq] at h2
  obtain ⟨p, hp, ⟨hip, hc⟩, hany⟩ := h2
  rw [Array.any_eq_true'] at hany
  obtain ⟨e, he, hb⟩ := hany
  rw [Bool.and_eq_true, beq_iff_eq] at hb
  cases ho : ops[p]? with
  | none => rw [ho] at hc; cases hc
  | some op => rw [ho] at hc; exact ⟨p, op, hip, List.mem_range.1 hp, ho, by simpa using hc, e, he, hb.1, hb.2⟩

/-- what the operation yields in the world w, the world left as it is -/
def stillUpon (w : World) (v : Value) : Result Next → Prop
  | .ok (.value u) w' => w' = w ∧ u = v
  | .ok .skip w' => w' = w ∧ v = undef
  | _ => False
/-- what a mover leaves -/
def movesUpon (P : Program) (R : Value → World → Prop) : Result Next → Prop
  | .ok (.value u) w' => R u w'
  | .ok .skip w' => R undef w'
  | .ok (.enter f args) w' => Calls P f args w' fun e w'' => ∃ v, e = .returned v ∧ R v w''
  | _ => False
theorem movesUpon_mono {R R' : Value → World → Prop} (h : ∀ v w, R v w → R' v w) {r : Result Next} (hr : movesUpon P R r) : movesUpon P R' r := by
  unfold movesUpon at *
  split at hr
  · exact h _ _ hr
  · exact h _ _ hr
  · exact hr.mono fun e w' hh => by obtain ⟨v, he, hR⟩ := hh; exact ⟨v, he, h _ _ hR⟩
  · exact hr
theorem movesUpon_some {R : Value → World → Prop} {r : Result Next} (hr : movesUpon P R r) (hex : ∀ f args w (R' : Ending → World → Prop), Calls P f args w R' → ∃ e w', R' e w') : ∃ v w, R v w := by
  unfold movesUpon at hr
  split at hr
  · exact ⟨_, _, hr⟩
  · exact ⟨_, _, hr⟩
  · obtain ⟨e, w', v, _, hR⟩ := hex _ _ _ _ hr; exact ⟨v, w', hR⟩
  · exact hr.elim
def stillIn (P : Program) (C : σ → World → Prop) (o : Oper) (a : Act) (v : Value) : Prop := ∀ w, (∃ s, C s w) → stillUpon w v ((execOp a.eval o).run P w)
def moveIn (P : Program) (C : σ → World → Prop) (s : σ) (o : Oper) (a : Act) (K : σ → Value → Prop) : Prop := ∀ w, C s w → movesUpon P (fun v w' => ∃ s', C s' w' ∧ K s' v) ((execOp a.eval o).run P w)
/-- the operation o in the frame a, in class s -/
def LX (P : Program) (ops : Array Oper) (C : σ → World → Prop) (o : Oper) (a : Act) (s : σ) (K : σ → Act → Prop) : Prop :=
  (Region.wanted o (yielded ops a.tmps) = true ∧ ((mv o = true ∧ moveIn P C s o a (fun s' v => K s' (a.put o.dst v))) ∨ (mv o = false ∧ ∃ v, stillIn P C o a v ∧ K s (a.put o.dst v)))) ∨
  (Region.wanted o (yielded ops a.tmps) = false ∧ K s (a.put o.dst undef))
theorem stillIn_one {o : Oper} {a : Act} {u v : Value} {s : σ} {w : World} (hC : C s w) (h : stillIn P C o a u) (k : stillIn P C o a v) : u = v := by
  have h1 := h w ⟨s, hC⟩
  have h2 := k w ⟨s, hC⟩
  generalize (execOp a.eval o).run P w = r at *
  cases r with
  | ok n w' => cases n <;> simp only [stillUpon] at h1 h2
               · exact h1.2.symm.trans h2.2
               · exact h1.2.trans h2.2.symm
  | halt x w' => simp only [stillUpon] at h1

def linOp (P : Program) (ops : Array Oper) (C : σ → World → Prop) (i : Nat) (K : σ → Act → Prop) (s : σ) (a : Act) : Prop :=
  match ops[i]? with
  | none => K s a
  | some o => LX P ops C o a s K
def wpAnyL (P : Program) (md : Region.Mode) (ops : Array Oper) (C : σ → World → Prop) (Q : σ → Act → Prop) : Nat → Array Bool → σ → Act → Prop
  | 0, listed, s, a => Region.ready md ops listed = [] ∧ Q s a
  | fuel + 1, listed, s, a => (Region.ready md ops listed = [] → Q s a) ∧ ∀ i ∈ Region.ready md ops listed, linOp P ops C i (wpAnyL P md ops C Q fuel (listed.setIfInBounds i true)) s a
/-- there is a world in the class -/
def NE (C : σ → World → Prop) (s : σ) : Prop := ∃ w, C s w

theorem LX.mono {o : Oper} {a : Act} {s : σ} {K K' : σ → Act → Prop} (hs : NE C s) (h : ∀ s a, NE C s → K s a → K' s a) (hh : LX P ops C o a s K) : LX P ops C o a s K' := by
  rcases hh with ⟨hw, ⟨hm, hk⟩ | ⟨hm, v, hv, hk⟩⟩ | ⟨hw, hk⟩
  · exact .inl ⟨hw, .inl ⟨hm, fun w hC => movesUpon_mono (fun v w' hh => by obtain ⟨s', h1, h2⟩ := hh; exact ⟨s', h1, h _ _ ⟨_, h1⟩ h2⟩) (hk w hC)⟩⟩
  · exact .inl ⟨hw, .inr ⟨hm, v, hv, h _ _ hs hk⟩⟩
  · exact .inr ⟨hw, h _ _ hs hk⟩
theorem linOp_mono {i : Nat} {s : σ} {a : Act} {K K' : σ → Act → Prop} (hs : NE C s) (h : ∀ s a, NE C s → K s a → K' s a) (hh : linOp P ops C i K s a) : linOp P ops C i K' s a := by
  unfold linOp at *
  cases ho : ops[i]? with
  | none => rw [ho] at hh; exact h _ _ hs hh
  | some o => rw [ho] at hh; exact LX.mono hs h hh

theorem wpOp_of_lin {i : Nat} {s : σ} {a : Act} {K : σ → Act → Prop} {K' : Act → World → Prop} {Q' : Exit → Act → World → Prop} {w : World} (hC : C s w) (h : ∀ s a w', C s w' → K s a → K' a w') (hh : linOp P ops C i K s a) : wpOp P ops Q' i K' a w := by
  unfold linOp at hh
  unfold wpOp
  split
  · rename_i ho; simp only [ho] at hh; exact h _ _ _ hC hh
  · rename_i o ho
    simp only [ho] at hh
    rcases hh with ⟨hw, hy⟩ | ⟨hw, hk⟩
    · simp only [hw, if_true]
      refine .inl ?_
      unfold Oper.wp
      rcases hy with ⟨_, hk⟩ | ⟨_, v, hs, hk⟩
      · have h3 := hk w hC
        generalize (execOp a.eval o).run P w = r at *
        cases r with
        | ok n w' =>
          cases n <;> simp only [movesUpon] at h3 <;> simp only [Oper.upon]
          · obtain ⟨s', h4, h5⟩ := h3; exact h _ _ _ h4 h5
          · obtain ⟨s', h4, h5⟩ := h3; exact h _ _ _ h4 h5
          · exact h3.mono fun e w'' ⟨v, he, s', h4, h5⟩ => by subst he; exact h _ _ _ h4 h5
        | halt x w' => simp only [movesUpon] at h3
      · have h3 := hs w ⟨_, hC⟩
        generalize (execOp a.eval o).run P w = r at *
        cases r with
        | ok n w' =>
          cases n <;> simp only [stillUpon] at h3 <;> simp only [Oper.upon]
          · obtain ⟨rfl, rfl⟩ := h3; exact h _ _ _ hC hk
          · obtain ⟨rfl, rfl⟩ := h3; exact h _ _ _ hC hk
        | halt x w' => simp only [stillUpon] at h3
    · simp only [hw]; exact h _ _ _ hC hk

theorem wpAny_of_lin {Q : σ → Act → Prop} {Q' : Exit → Act → World → Prop} (hQ : ∀ s a w, C s w → Q s a → Q' .normal a w) : ∀ (fuel : Nat) (listed : Array Bool) (s : σ) (a : Act) (w : World), C s w →
    wpAnyL P md ops C Q fuel listed s a → wpAny P md ops Q' fuel listed a w
  | 0, _, _, _, _, hw, h => ⟨h.1, hQ _ _ _ hw h.2⟩
  | fuel + 1, _, _, _, _, hw, h => ⟨fun h0 => hQ _ _ _ hw (h.1 h0), fun i hi => wpOp_of_lin hw (fun s' a' w' hw' => wpAny_of_lin hQ fuel _ s' a' w' hw') (h.2 i hi)⟩

theorem LX.linOp {i : Nat} {s : σ} {o : Oper} {a : Act} (hi : ops[i]? = some o) {K : σ → Act → Prop} (h : LX P ops C o a s K) : linOp P ops C i K s a := by
  unfold Mv.linOp
  simp only [hi]
  exact h

/-- an operation and one behind it that is apart from it change places -/
theorem linOp_put (hex : ∀ f args w (R' : Ending → World → Prop), Calls P f args w R' → ∃ e w', R' e w') {j : Nat} {oi oj : Oper} (hj : ops[j]? = some oj) (hap : oi.apart ops oj = true)
    (hsi : ∀ cs b, oi.op ≠ .select cs b) (hsj : ∀ cs b, oj.op ≠ .select cs b) (hcc : mv oi = false ∨ mv oj = false) {K : σ → Act → Prop} {a : Act} {s : σ} (hne : NE C s)
    (h : LX P ops C oi a s (fun s1 a1 => linOp P ops C j K s1 a1)) : linOp P ops C j (fun s' a' => LX P ops C oi a' s' K) s a := by
  obtain ⟨h1, h2, h3⟩ := Oper.apart_spec hap
  have ei : ∀ u : Value, execOp (a.put oj.dst u).eval oi = execOp a.eval oi := fun u => execOp_put oi hsi a oj.dst u h3
  have wi : ∀ u : Value, Region.wanted oi (yielded ops (a.put oj.dst u).tmps) = Region.wanted oi (yielded ops a.tmps) := fun u => wanted_put oi a oj.dst u h3
  have ej : ∀ v : Value, execOp (a.put oi.dst v).eval oj = execOp a.eval oj := fun v => execOp_put oj hsj a oi.dst v h1
  have wj : ∀ v : Value, Region.wanted oj (yielded ops (a.put oi.dst v).tmps) = Region.wanted oj (yielded ops a.tmps) := fun v => wanted_put oj a oi.dst v h1
  have cm : ∀ u v : Value, (a.put oi.dst v).put oj.dst u = (a.put oj.dst u).put oi.dst v := fun u v => Act.put_comm a v u h2
  have sj : ∀ u v : Value, stillIn P C oj (a.put oi.dst v) u → stillIn P C oj a u := fun u v hs => by unfold stillIn at *; rw [ej] at hs; exact hs
  have si : ∀ u v : Value, stillIn P C oi a v → stillIn P C oi (a.put oj.dst u) v := fun u v hs => by unfold stillIn at *; rw [ei]; exact hs
  unfold Mv.linOp at *
  simp only [hj] at *
  obtain ⟨w0, hC0⟩ := hne
  rcases h with ⟨hw, ⟨hm, hk⟩ | ⟨hm, v, hv, hk⟩⟩ | ⟨hw, hk⟩
  · -- oi moves: oj doesn't
    have hmj : mv oj = false := by
      rcases hcc with h | h
      · rw [hm] at h; cases h
      · exact h
    obtain ⟨v0, w0', s0', hC0', hL0⟩ := movesUpon_some (hk w0 hC0) hex
    rcases hL0 with ⟨hwj, ⟨hm2, _⟩ | ⟨_, u, hu, _⟩⟩ | ⟨hwj, _⟩
    · rw [hmj] at hm2; cases hm2
    · rw [wj] at hwj
      have hu' := sj u v0 hu
      refine .inl ⟨hwj, .inr ⟨hmj, u, hu', .inl ⟨by rw [wi]; exact hw, .inl ⟨hm, fun w hC => ?_⟩⟩⟩⟩
      rw [ei]
      refine movesUpon_mono (fun v w' hh => ?_) (hk w hC)
      obtain ⟨s', hC', hL⟩ := hh
      refine ⟨s', hC', ?_⟩
      rcases hL with ⟨hwj2, ⟨hm2, _⟩ | ⟨_, u2, hu2, hK2⟩⟩ | ⟨hwj2, _⟩
      · rw [hmj] at hm2; cases hm2
      · have : u2 = u := stillIn_one hC (sj u2 v hu2) hu'
        subst this
        rw [← cm]; exact hK2
      · rw [wj, hwj] at hwj2; cases hwj2
    · rw [wj] at hwj
      refine .inr ⟨hwj, .inl ⟨by rw [wi]; exact hw, .inl ⟨hm, fun w hC => ?_⟩⟩⟩
      rw [ei]
      refine movesUpon_mono (fun v w' hh => ?_) (hk w hC)
      obtain ⟨s', hC', hL⟩ := hh
      refine ⟨s', hC', ?_⟩
      rcases hL with ⟨hwj2, _⟩ | ⟨_, hK2⟩
      · rw [wj, hwj] at hwj2; cases hwj2
      · rw [← cm]; exact hK2
  · -- oi is still
    rcases hk with ⟨hwj, ⟨hm2, hk2⟩ | ⟨hm2, u, hu, hK⟩⟩ | ⟨hwj, hK⟩
    · rw [wj] at hwj
      refine .inl ⟨hwj, .inl ⟨hm2, fun w hC => ?_⟩⟩
      have := hk2 w hC
      rw [ej] at this
      refine movesUpon_mono (fun u w' hh => ?_) this
      obtain ⟨s', hC', hK⟩ := hh
      exact ⟨s', hC', .inl ⟨by rw [wi]; exact hw, .inr ⟨hm, v, si u v hv, by rw [← cm]; exact hK⟩⟩⟩
    · rw [wj] at hwj
      exact .inl ⟨hwj, .inr ⟨hm2, u, sj u v hu, .inl ⟨by rw [wi]; exact hw, .inr ⟨hm, v, si u v hv, by rw [← cm]; exact hK⟩⟩⟩⟩
    · rw [wj] at hwj
      exact .inr ⟨hwj, .inl ⟨by rw [wi]; exact hw, .inr ⟨hm, v, si undef v hv, by rw [← cm]; exact hK⟩⟩⟩
  · -- oi is passed over
    rcases hk with ⟨hwj, ⟨hm2, hk2⟩ | ⟨hm2, u, hu, hK⟩⟩ | ⟨hwj, hK⟩
    · rw [wj] at hwj
      refine .inl ⟨hwj, .inl ⟨hm2, fun w hC => ?_⟩⟩
      have := hk2 w hC
      rw [ej] at this
      refine movesUpon_mono (fun u w' hh => ?_) this
      obtain ⟨s', hC', hK⟩ := hh
      exact ⟨s', hC', .inr ⟨by rw [wi]; exact hw, by rw [← cm]; exact hK⟩⟩
    · rw [wj] at hwj
      exact .inl ⟨hwj, .inr ⟨hm2, u, sj u undef hu, .inr ⟨by rw [wi]; exact hw, by rw [← cm]; exact hK⟩⟩⟩
    · rw [wj] at hwj
      exact .inr ⟨hwj, .inr ⟨by rw [wi]; exact hw, by rw [← cm]; exact hK⟩⟩

/-- the movers that are listed have all movers ahead of them listed -/
def Pre (ops : Array Oper) (listed : Array Bool) : Prop := ∀ i j oi oj, ops[i]? = some oi → ops[j]? = some oj → mv oi = true → mv oj = true → i < j → listed.getD j false = true → listed.getD i false = true
theorem getD_both {listed : Array Bool} {i : Nat} (h : listed.getD i true = false) : listed.getD i false = false := by
  rcases Nat.lt_or_ge i listed.size with h' | h'
  · simp [h'] at h ⊢; exact h
  · simp [Array.getElem?_eq_none h']
theorem Pre.next (hch : chainB md ops = true) {listed : Array Bool} (h : Pre ops listed) {j : Nat} (hj : j ∈ Region.ready md ops listed) : Pre ops (listed.setIfInBounds j true) := by
  intro i m oi om hi hm ci cm him hl
  obtain ⟨hun, oj, hoj, hall⟩ := mem_ready.1 hj
  by_cases hmj : j = m
  · subst hmj
    rw [hoj] at hm; cases hm
    obtain ⟨p, op, hip, hpj, hp, cp, e, he, hb, heq⟩ := chainB_spec hch hi hoj ci cm him
    have hp' := hall e he hb
    rw [heq] at hp'
    refine getD_set_true ?_
    by_cases hpi : i = p
    · subst hpi; exact hp'
    · exact h i p oi op hi hp ci cp (by omega) hp'
  · rw [getD_set_ne false hmj] at hl
    exact getD_set_true (h i m oi om hi hm ci cm him hl)

theorem wpAnyL_first (hex : ∀ f args w (R' : Ending → World → Prop), Calls P f args w R' → ∃ e w', R' e w') (hch : chainB md ops = true) {Q : σ → Act → Prop} {i : Nat} {oi : Oper} (hi : ops[i]? = some oi) (hsel : ∀ (j : Nat) (o : Oper) cs b, ops[j]? = some o → o.op ≠ .select cs b) :
    ∀ (fuel : Nat) (listed : Array Bool) (s : σ) (a : Act), NE C s → Pre ops listed → (∀ j, j < i → listed.getD j true = true) →
      (∀ j oj, ops[j]? = some oj → j ≠ i → listed.getD j true = false → (∀ e ∈ oj.after, Region.binds md e = true → e.on ≠ i) → oi.apart ops oj = true) →
      i ∈ Region.ready md ops listed → LX P ops C oi a s (wpAnyL P md ops C Q fuel (listed.setIfInBounds i true)) → wpAnyL P md ops C Q (fuel + 1) listed s a := by
  intro fuel
  induction fuel with
  | zero =>
    intro listed s a hne _ _ _ hr H
    refine ⟨fun h => (by rw [h] at hr; cases hr), fun j hj => ?_⟩
    by_cases hji : j = i
    · subst hji; exact H.linOp hi
    · have h1 := ready_mono hj hji
      have h2 : Region.ready md ops (listed.setIfInBounds i true) = [] := by
        obtain ⟨w0, hC0⟩ := hne
        rcases H with ⟨_, ⟨_, hk⟩ | ⟨_, v, _, hk⟩⟩ | ⟨_, hk⟩
        · obtain ⟨_, _, s', _, hL⟩ := movesUpon_some (hk w0 hC0) hex
          exact hL.1
        · exact hk.1
        · exact hk.1
      rw [h2] at h1
      cases h1
  | succ fuel ih =>
    intro listed s a hne hpre hlow hfree hr H
    refine ⟨fun h => (by rw [h] at hr; cases hr), fun j hj => ?_⟩
    by_cases hji : j = i
    · subst hji; exact H.linOp hi
    · have H1 : LX P ops C oi a s (fun s1 a1 => Mv.linOp P ops C j (wpAnyL P md ops C Q fuel ((listed.setIfInBounds i true).setIfInBounds j true)) s1 a1) :=
        H.mono hne fun s1 a1 _ h => h.2 j (ready_mono hj hji)
      obtain ⟨hjun, oj, hoj, hall⟩ := mem_ready.1 hj
      have hnot : ∀ e ∈ oj.after, Region.binds md e = true → e.on ≠ i := fun e he hb heq => by
        have h1 := hall e he hb
        have h0 := getD_both (mem_ready.1 hr).1
        rw [heq, h0] at h1
        cases h1
      have hij : i < j := by
        rcases Nat.lt_or_ge j i with h' | h'
        · rw [hlow j h'] at hjun; cases hjun
        · omega
      have hcc : mv oi = false ∨ mv oj = false := by
        cases ci : mv oi with
        | false => exact .inl rfl
        | true =>
          refine .inr ?_
          cases cj : mv oj with
          | false => rfl
          | true =>
            obtain ⟨p, op, hip, hpj, hp, cp, e, he, hb, heq⟩ := chainB_spec hch hi hoj ci cj hij
            have hp' := hall e he hb
            rw [heq] at hp'
            have h0 := getD_both (mem_ready.1 hr).1
            by_cases hpi : i = p
            · subst hpi; rw [h0] at hp'; cases hp'
            · have := hpre i p oi op hi hp ci cp (by omega) hp'
              rw [h0] at this; cases this
      have h2 := linOp_put hex hoj (hfree j oj hoj hji hjun hnot) (fun cs b => hsel i oi cs b hi) (fun cs b => hsel j oj cs b hoj) hcc hne H1
      have hfree' : ∀ k ok, ops[k]? = some ok → k ≠ i → (listed.setIfInBounds j true).getD k true = false →
          (∀ e ∈ ok.after, Region.binds md e = true → e.on ≠ i) → oi.apart ops ok = true := fun k ok hk hki hun hno => by
        refine hfree k ok hk hki ?_ hno
        by_cases hjk : j = k
        · subst hjk; exact hjun
        · rw [getD_set_ne true hjk] at hun; exact hun
      have hlow' : ∀ m, m < i → (listed.setIfInBounds j true).getD m true = true := fun m hm => by rw [getD_set_ne true (by omega)]; exact hlow m hm
      refine linOp_mono hne (fun s' a' hne' h3 => ?_) h2
      refine ih (listed.setIfInBounds j true) s' a' hne' (hpre.next hch hj) hlow' hfree' (ready_mono hr (Ne.symm hji)) ?_
      rw [Array.setIfInBounds_comm _ _ hji]
      exact h3

/-- the lexical walk -/
def wpLin (P : Program) (ops : Array Oper) (C : σ → World → Prop) (Q : σ → Act → Prop) : List Oper → σ → Act → Prop
  | [], s, a => Q s a
  | o :: rest, s, a => LX P ops C o a s (wpLin P ops C Q rest)

theorem wpAnyL_lex (hex : ∀ f args w (R' : Ending → World → Prop), Calls P f args w R' → ∃ e w', R' e w') (hch : chainB md ops = true) {Q : σ → Act → Prop} (hs : Region.noSelect ops = true) : ∀ (l : List Oper) (n : Nat) (listed : Array Bool) (s : σ) (a : Act), NE C s → Pre ops listed → (∀ j, j < n → listed.getD j true = true) → (∀ j, l[j]? = ops[n + j]?) →
    Region.lexFrom md ops l.length n listed = true → wpLin P ops C Q l s a → wpAnyL P md ops C Q l.length listed s a
  | [], _, _, _, _, _, _, _, _, hB, h => ⟨by simpa [Region.lexFrom] using hB, h⟩
  | o :: l, n, listed, s, a, hne, hpre, hlow, hl, hB, h => by
    have h0 : ops[n]? = some o := by simpa using (hl 0).symm
    simp only [List.length_cons, Region.lexFrom, Bool.and_eq_true] at hB
    obtain ⟨⟨hr, hf⟩, hB'⟩ := hB
    have hr' : n ∈ Region.ready md ops listed := by simpa using hr
    refine wpAnyL_first hex hch h0 (Region.noSelect_spec hs) l.length listed s a hne hpre hlow (Region.free_spec h0 hf) hr' ?_
    refine LX.mono hne (fun s' a' hne' h' => ?_) h
    refine wpAnyL_lex hex hch hs l (n + 1) _ _ _ hne' (hpre.next hch hr') (fun j hj => ?_) (fun j => by have := hl (j + 1); simpa [Nat.add_assoc, Nat.add_comm 1 j] using this) hB' h'
    by_cases hjn : n = j
    · subst hjn
      rcases Nat.lt_or_ge n listed.size with h' | h'
      · simp [h']
      · simp [h']
    · rw [getD_set_ne true hjn]; exact hlow j (by omega)

/-! ### Steps of the walk -/
theorem v_no_enter (s : Sem Value) (w : World) (f : FuncId) (args : Array Value) (w' : World) : (do pure (.value (← s)) : Sem Next).run P w ≠ .ok (.enter f args) w' := by
  rw [Sem.run_bind]
  cases s.run P w <;> simp [Result.andThen, Sem.run_pure]
theorem plain_no_enter {o : Oper} (ho : plainOp o = true) (a : Act) (w : World) (f : FuncId) (args : Array Value) (w' : World) : (execOp a.eval o).run P w ≠ .ok (.enter f args) w' := by
  unfold plainOp at ho
  unfold execOp
  split at ho
  case h_3 c x y hop =>
    simp only [hop]
    rw [Sem.run_bind]
    cases (asBool (a.eval c)).run P w <;> simp [Result.andThen, Sem.run_pure]
  case h_15 => cases ho
  all_goals
    rename_i hop
    simp only [hop]
    first | exact v_no_enter _ w f args w' | (rw [Sem.run_pure]; intro h; cases h)

theorem wpLin_nil {Q : σ → Act → Prop} {s : σ} {a : Act} (h : Q s a) : wpLin P ops C Q [] s a := h
/-- operations that don't move -/
theorem lin_seg {Q : σ → Act → Prop} {s : σ} : ∀ (seg rest : List Oper) (a : Act), seg.all plainOp = true →
    wpQuiet P ops (fun w' => ∃ x : InW (fun w => ∃ s, C s w), w' = x.W) (fun a' => wpLin P ops C Q rest s a') seg a → wpLin P ops C Q (seg ++ rest) s a
  | [], rest, a, _, h => h
  | o :: seg, rest, a, hp, h => by
    rw [List.all_cons, Bool.and_eq_true] at hp
    obtain ⟨hpl, hp'⟩ := hp
    have hnc : mv o = false := by unfold mv; rw [hpl]; rfl
    unfold wpQuiet at h
    by_cases hw : Region.wanted o (yielded ops a.tmps) = true
    · rw [if_pos hw] at h
      obtain ⟨v, h1, h2⟩ := h
      refine .inl ⟨hw, .inr ⟨hnc, v, fun w hC => ?_, lin_seg seg rest _ hp' h2⟩⟩
      have h3 := h1 w ⟨⟨w, hC⟩, rfl⟩
      unfold Oper.quietAt at h3
      have h4 := fun f args w' => plain_no_enter (P := P) hpl a w f args w'
      generalize (execOp a.eval o).run P w = r at *
      cases r with
      | ok n w' =>
        cases n <;> simp only [Oper.quietUpon] at h3 <;> simp only [stillUpon]
        · exact h3
        · exact h3
        · exact (h4 _ _ _ rfl).elim
      | halt x w' => simp only [Oper.quietUpon] at h3
    · rw [if_neg hw] at h
      exact .inr ⟨by simpa using hw, lin_seg seg rest _ hp' h⟩
theorem lin_take {Q : σ → Act → Prop} {s : σ} (n : Nat) {l : List Oper} {a : Act} (hp : (l.take n).all plainOp = true)
    (h : wpQuiet P ops (fun w' => ∃ x : InW (fun w => ∃ s, C s w), w' = x.W) (fun a' => wpLin P ops C Q (l.drop n) s a') (l.take n) a) : wpLin P ops C Q l s a := by
  have := lin_seg (l.take n) (l.drop n) a hp h
  rwa [List.take_append_drop] at this
/-- an operation that moves -/
theorem lin_move {Q : σ → Act → Prop} {s : σ} {o : Oper} {rest : List Oper} {a : Act} (hw : Region.wanted o (yielded ops a.tmps) = true) (hm : mv o = true)
    (h : ∀ w, C s w → movesUpon P (fun v w' => ∃ s', C s' w' ∧ wpLin P ops C Q rest s' (a.put o.dst v)) ((execOp a.eval o).run P w)) : wpLin P ops C Q (o :: rest) s a := .inl ⟨hw, .inl ⟨hm, h⟩⟩
theorem lin_skip {Q : σ → Act → Prop} {s : σ} {o : Oper} {rest : List Oper} {a : Act} (hw : Region.wanted o (yielded ops a.tmps) = false)
    (h : wpLin P ops C Q rest s (a.put o.dst undef)) : wpLin P ops C Q (o :: rest) s a := .inr ⟨hw, h⟩
theorem frame {Q : σ → Act → Prop} {l : List Oper} {s : σ} {a a' : Act} (e : a = a') (h : wpLin P ops C Q l s a') : wpLin P ops C Q l s a := e ▸ h
/-- an operation that yields a value and moves -/
theorem lin_run {Q : σ → Act → Prop} {s : σ} {o : Oper} {rest : List Oper} {a : Act} (hw : Region.wanted o (yielded ops a.tmps) = true) (hm : mv o = true)
    (h : ∀ w, C s w → ∃ v w' s', (execOp a.eval o).run P w = .ok (.value v) w' ∧ C s' w' ∧ wpLin P ops C Q rest s' (a.put o.dst v)) : wpLin P ops C Q (o :: rest) s a :=
  lin_move hw hm fun w hC => by
    obtain ⟨v, w', s', h1, h2, h3⟩ := h w hC
    rw [h1]; exact ⟨s', h2, h3⟩
/-- a literal slice -/
theorem lin_build {Q : σ → Act → Prop} {s : σ} {o : Oper} {rest : List Oper} {a : Act} (hw : Region.wanted o (yielded ops a.tmps) = true) (t : TypeId) (n : Nat) (xs : Array (Nat × Operand)) (ho : o.op = .buildSlice t n xs)
    (h : ∀ w, C s w → ∃ v w' s', (Instr.buildSlice t n (xs.map fun (i, x) => (i, a.eval x))).run P w = .ok v w' ∧ C s' w' ∧ wpLin P ops C Q rest s' (a.put o.dst v)) : wpLin P ops C Q (o :: rest) s a := by
  refine lin_run hw (by unfold mv plainOp; rw [ho]; rfl) fun w hC => ?_
  obtain ⟨v, w', s', h1, h2, h3⟩ := h w hC
  refine ⟨v, w', s', ?_, h2, h3⟩
  unfold execOp
  simp only [ho, Sem.run_bind, h1, Result.andThen_ok, Sem.run_pure]
theorem lin_build0 {Q : σ → Act → Prop} {s : σ} {o : Oper} {rest : List Oper} {a : Act} (hw : Region.wanted o (yielded ops a.tmps) = true) (t : TypeId) (n : Nat) (ho : o.op = .buildSlice t n #[])
    (h : ∀ w, C s w → ∃ v w' s', (Instr.buildSlice t n #[]).run P w = .ok v w' ∧ C s' w' ∧ wpLin P ops C Q rest s' (a.put o.dst v)) : wpLin P ops C Q (o :: rest) s a :=
  lin_build hw t n #[] ho (by simpa using h)
theorem lin_build1 {Q : σ → Act → Prop} {s : σ} {o : Oper} {rest : List Oper} {a : Act} (hw : Region.wanted o (yielded ops a.tmps) = true) (t : TypeId) (n i : Nat) (x : Operand) (ho : o.op = .buildSlice t n #[(i, x)])
    (h : ∀ w, C s w → ∃ v w' s', (Instr.buildSlice t n #[(i, a.eval x)]).run P w = .ok v w' ∧ C s' w' ∧ wpLin P ops C Q rest s' (a.put o.dst v)) : wpLin P ops C Q (o :: rest) s a :=
  lin_build hw t n #[(i, x)] ho (by simpa using h)
/-- append -/
theorem lin_append {Q : σ → Act → Prop} {s : σ} {o : Oper} {rest : List Oper} {a : Act} (hw : Region.wanted o (yielded ops a.tmps) = true) (y x : Operand) (t : TypeId)
    (ho : o.op = .call { callee := .builtin .append, args := #[y, x], argTypes := #[t, t] })
    (h : ∀ w, C s w → ∃ v w' s', (Builtin.append_ #[t, t] o.type #[a.eval y, a.eval x]).run P w = .ok v w' ∧ C s' w' ∧ wpLin P ops C Q rest s' (a.put o.dst v)) : wpLin P ops C Q (o :: rest) s a := by
  refine lin_run hw (by unfold mv plainOp; rw [ho]; rfl) fun w hC => ?_
  obtain ⟨v, w', s', h1, h2, h3⟩ := h w hC
  refine ⟨v, w', s', ?_, h2, h3⟩
  unfold execOp
  simp only [ho, resolve, invoke, builtin, Sem.run_bind, Sem.run_pure, Result.andThen_ok, List.map_toArray, List.map_cons, List.map_nil, h1]
/-- a call returns -/
theorem calls_some (f : FuncId) (args : Array Value) (w : World) (R : Ending → World → Prop) (h : Calls P f args w R) : ∃ e w', R e w' := by
  obtain ⟨e, w', _, hR, _⟩ := h []
  exact ⟨e, w', hR⟩

/-- **One walk of the lexical order serves every order.** -/
theorem wp_region_mv (C : σ → World → Prop) (s : σ) {id : Nat} {Q : Exit → Act → World → Prop} {a : Act} {w : World} {l : List Oper} (hm : P.follows .mixedOrders = true) (hB : Region.lexB .any l.toArray = true) (hch : chainB .any l.toArray = true) (hC : C s { w with drawn := w.drawn + 1 })
    (h : Nonempty (InW fun w => ∃ s, C s w) → wpLin P l.toArray C (fun s a' => ∀ w', C s w' → Q .normal a' w') l s a) : (Code.region id l.toArray true).wp P Q a w := by
  simp only [Region.lexB, Bool.and_eq_true] at hB
  refine wp_region_any hm (wpAny_of_lin (Q := fun s a' => ∀ w', C s w' → Q .normal a' w') (fun _ _ w' hw' h => h w' hw') _ _ s _ _ hC ?_)
  have := wpAnyL_lex (C := C) (md := .any) calls_some hch hB.1 l 0 (Array.replicate l.toArray.size false) s a ⟨_, hC⟩ (fun i j oi oj hi hj ci cj hij hl => by
      rcases Nat.lt_or_ge j l.toArray.size with h' | h'
      · rw [List.size_toArray] at h'; simp [h'] at hl
      · rw [List.size_toArray] at h'; simp [h'] at hl) (fun j hj => by omega) (by simp) (by simpa using hB.2) (h ⟨⟨_, s, hC⟩⟩)
  simpa using this
end
end Go.Proofs.YtopakpmepioomaaDoor.Mv

/- As XMove's law, each mover bound to wait for the one ahead of it at however many steps (through plain operations too). -/
namespace Go.Proofs.YtopakpmepioomaaDoor.Mv
open Go.RowKit Go.Proofs.YtopakpmepioomaaDoor
set_option linter.unusedVariables false

def reachB (md : Region.Mode) (ops : Array Oper) : Nat → Nat → Nat → Bool
  | 0, _, _ => false
  | fuel + 1, j, i => match ops[j]? with
    | none => false
    | some oj => oj.after.any fun e => Region.binds md e && (e.on == i || reachB md ops fuel e.on i)
def chainC (md : Region.Mode) (ops : Array Oper) : Bool :=
  (List.range ops.size).all fun j => (List.range j).all fun i => match ops[j]?, ops[i]? with
    | some oj, some oi => !(mv oi && mv oj) || reachB md ops ops.size j i
    | _, _ => true
section
variable {P : Program} {ops : Array Oper} {md : Region.Mode} {σ : Type} {C : σ → World → Prop}
theorem chainC_spec (h : chainC md ops = true) {i j : Nat} {oi oj : Oper} (hi : ops[i]? = some oi) (hj : ops[j]? = some oj) (ci : mv oi = true) (cj : mv oj = true) (hij : i < j) : reachB md ops ops.size j i = true := by
  unfold chainC at h
  rw [List.all_eq_true] at h
  have h1 := h j (List.mem_range.2 (Array.getElem?_eq_some_iff.1 hj).1)
  rw [List.all_eq_true] at h1
  have h2 := h1 i (List.mem_range.2 hij)
  rw [hi, hj] at h2
  simpa only [ci, cj, Bool.and_true, Bool.not_true, Bool.false_or] using h2
/-- what a listed operation waits for is listed -/
def Cl (md : Region.Mode) (ops : Array Oper) (listed : Array Bool) : Prop := ∀ j oj, ops[j]? = some oj → listed.getD j false = true → ∀ e ∈ oj.after, Region.binds md e = true → listed.getD e.on false = true
theorem Cl.next {listed : Array Bool} (h : Cl md ops listed) {j : Nat} (hj : j ∈ Region.ready md ops listed) : Cl md ops (listed.setIfInBounds j true) := by
  intro k ok hk hl e he hb
  obtain ⟨hun, oj, hoj, hall⟩ := mem_ready.1 hj
  refine getD_set_true ?_
  by_cases hjk : j = k
  · subst hjk
    rw [hoj] at hk; cases hk
    exact hall e he hb
  · rw [getD_set_ne false hjk] at hl
    exact h k ok hk hl e he hb
theorem Cl.reach {listed : Array Bool} (h : Cl md ops listed) : ∀ {fuel j i : Nat} {oj : Oper}, (∀ e ∈ oj.after, Region.binds md e = true → listed.getD e.on false = true) → ops[j]? = some oj → reachB md ops fuel j i = true → listed.getD i false = true
  | 0, _, _, _, _, _, hr => by cases hr
  | fuel + 1, j, i, oj, hall, hj, hr => by
    unfold reachB at hr
    rw [hj] at hr
    simp only [Array.any_eq_true', Bool.and_eq_true, Bool.or_eq_true, beq_iff_eq] at hr
    obtain ⟨e, he, hb, hr⟩ := hr
    have h1 := hall e he hb
    rcases hr with rfl | hr
    · exact h1
    · cases ho : ops[e.on]? with
      | none =>
        cases fuel with
        | zero => cases hr
        | succ f => unfold reachB at hr; rw [ho] at hr; cases hr
      | some oe => exact Cl.reach h (h _ oe ho h1) ho hr
theorem wpAnyL_firstC (hex : ∀ f args w (R' : Ending → World → Prop), Calls P f args w R' → ∃ e w', R' e w') (hch : chainC md ops = true) {Q : σ → Act → Prop} {i : Nat} {oi : Oper} (hi : ops[i]? = some oi) (hsel : ∀ (j : Nat) (o : Oper) cs b, ops[j]? = some o → o.op ≠ .select cs b) :
    ∀ (fuel : Nat) (listed : Array Bool) (s : σ) (a : Act), NE C s → Cl md ops listed → (∀ j, j < i → listed.getD j true = true) →
      (∀ j oj, ops[j]? = some oj → j ≠ i → listed.getD j true = false → (∀ e ∈ oj.after, Region.binds md e = true → e.on ≠ i) → oi.apart ops oj = true) →
      i ∈ Region.ready md ops listed → LX P ops C oi a s (wpAnyL P md ops C Q fuel (listed.setIfInBounds i true)) → wpAnyL P md ops C Q (fuel + 1) listed s a := by
  intro fuel
  induction fuel with
  | zero =>
    intro listed s a hne _ _ _ hr H
    refine ⟨fun h => (by rw [h] at hr; cases hr), fun j hj => ?_⟩
    by_cases hji : j = i
    · subst hji; exact H.linOp hi
    · have h1 := ready_mono hj hji
      have h2 : Region.ready md ops (listed.setIfInBounds i true) = [] := by
        obtain ⟨w0, hC0⟩ := hne
        rcases H with ⟨_, ⟨_, hk⟩ | ⟨_, v, _, hk⟩⟩ | ⟨_, hk⟩
        · obtain ⟨_, _, s', _, hL⟩ := movesUpon_some (hk w0 hC0) hex
          exact hL.1
        · exact hk.1
        · exact hk.1
      rw [h2] at h1
      cases h1
  | succ fuel ih =>
    intro listed s a hne hpre hlow hfree hr H
    refine ⟨fun h => (by rw [h] at hr; cases hr), fun j hj => ?_⟩
    by_cases hji : j = i
    · subst hji; exact H.linOp hi
    · have H1 : LX P ops C oi a s (fun s1 a1 => Mv.linOp P ops C j (wpAnyL P md ops C Q fuel ((listed.setIfInBounds i true).setIfInBounds j true)) s1 a1) :=
        H.mono hne fun s1 a1 _ h => h.2 j (ready_mono hj hji)
      obtain ⟨hjun, oj, hoj, hall⟩ := mem_ready.1 hj
      have hnot : ∀ e ∈ oj.after, Region.binds md e = true → e.on ≠ i := fun e he hb heq => by
        have h1 := hall e he hb
        have h0 := getD_both (mem_ready.1 hr).1
        rw [heq, h0] at h1
        cases h1
      have hij : i < j := by
        rcases Nat.lt_or_ge j i with h' | h'
        · rw [hlow j h'] at hjun; cases hjun
        · omega
      have hcc : mv oi = false ∨ mv oj = false := by
        cases ci : mv oi with
        | false => exact .inl rfl
        | true =>
          refine .inr ?_
          cases cj : mv oj with
          | false => rfl
          | true =>
            have h0 := getD_both (mem_ready.1 hr).1
            have := hpre.reach hall hoj (chainC_spec hch hi hoj ci cj hij)
            rw [h0] at this; cases this
      have h2 := linOp_put hex hoj (hfree j oj hoj hji hjun hnot) (fun cs b => hsel i oi cs b hi) (fun cs b => hsel j oj cs b hoj) hcc hne H1
      have hfree' : ∀ k ok, ops[k]? = some ok → k ≠ i → (listed.setIfInBounds j true).getD k true = false →
          (∀ e ∈ ok.after, Region.binds md e = true → e.on ≠ i) → oi.apart ops ok = true := fun k ok hk hki hun hno => by
        refine hfree k ok hk hki ?_ hno
        by_cases hjk : j = k
        · subst hjk; exact hjun
        · rw [getD_set_ne true hjk] at hun; exact hun
      have hlow' : ∀ m, m < i → (listed.setIfInBounds j true).getD m true = true := fun m hm => by rw [getD_set_ne true (by omega)]; exact hlow m hm
      refine linOp_mono hne (fun s' a' hne' h3 => ?_) h2
      refine ih (listed.setIfInBounds j true) s' a' hne' (hpre.next hj) hlow' hfree' (ready_mono hr (Ne.symm hji)) ?_
      rw [Array.setIfInBounds_comm _ _ hji]
      exact h3

theorem wpAnyL_lexC (hex : ∀ f args w (R' : Ending → World → Prop), Calls P f args w R' → ∃ e w', R' e w') (hch : chainC md ops = true) {Q : σ → Act → Prop} (hs : Region.noSelect ops = true) : ∀ (l : List Oper) (n : Nat) (listed : Array Bool) (s : σ) (a : Act), NE C s → Cl md ops listed → (∀ j, j < n → listed.getD j true = true) → (∀ j, l[j]? = ops[n + j]?) →
    Region.lexFrom md ops l.length n listed = true → wpLin P ops C Q l s a → wpAnyL P md ops C Q l.length listed s a
  | [], _, _, _, _, _, _, _, _, hB, h => ⟨by simpa [Region.lexFrom] using hB, h⟩
  | o :: l, n, listed, s, a, hne, hpre, hlow, hl, hB, h => by
    have h0 : ops[n]? = some o := by simpa using (hl 0).symm
    simp only [List.length_cons, Region.lexFrom, Bool.and_eq_true] at hB
    obtain ⟨⟨hr, hf⟩, hB'⟩ := hB
    have hr' : n ∈ Region.ready md ops listed := by simpa using hr
    refine wpAnyL_firstC hex hch h0 (Region.noSelect_spec hs) l.length listed s a hne hpre hlow (Region.free_spec h0 hf) hr' ?_
    refine LX.mono hne (fun s' a' hne' h' => ?_) h
    refine wpAnyL_lexC hex hch hs l (n + 1) _ _ _ hne' (hpre.next hr') (fun j hj => ?_) (fun j => by have := hl (j + 1); simpa [Nat.add_assoc, Nat.add_comm 1 j] using this) hB' h'
    by_cases hjn : n = j
    · subst hjn
      rcases Nat.lt_or_ge n listed.size with h' | h'
      · simp [h']
      · simp [h']
    · rw [getD_set_ne true hjn]; exact hlow j (by omega)

/-- **One walk of the lexical order serves every order.** -/
theorem wp_region_mc (C : σ → World → Prop) (s : σ) {id : Nat} {Q : Exit → Act → World → Prop} {a : Act} {w : World} {l : List Oper} (hm : P.follows .mixedOrders = true) (hB : Region.lexB .any l.toArray = true) (hch : chainC .any l.toArray = true) (hC : C s { w with drawn := w.drawn + 1 })
    (h : Nonempty (InW fun w => ∃ s, C s w) → wpLin P l.toArray C (fun s a' => ∀ w', C s w' → Q .normal a' w') l s a) : (Code.region id l.toArray true).wp P Q a w := by
  simp only [Region.lexB, Bool.and_eq_true] at hB
  refine wp_region_any hm (wpAny_of_lin (Q := fun s a' => ∀ w', C s w' → Q .normal a' w') (fun _ _ w' hw' h => h w' hw') _ _ s _ _ hC ?_)
  have := wpAnyL_lexC (C := C) (md := .any) calls_some hch hB.1 l 0 (Array.replicate l.toArray.size false) s a ⟨_, hC⟩ (fun j oj hj hl => by
      rcases Nat.lt_or_ge j l.toArray.size with h' | h'
      · rw [List.size_toArray] at h'; simp [h'] at hl
      · rw [List.size_toArray] at h'; simp [h'] at hl) (fun j hj => by omega) (by simp) (by simpa using hB.2) (h ⟨⟨_, s, hC⟩⟩)
  simpa using this

/-- a call whose answer is known -/
theorem lin_call {Q : σ → Act → Prop} {s : σ} {o : Oper} {rest : List Oper} {a : Act} (hw : Region.wanted o (yielded ops a.tmps) = true) (hm : mv o = true) (f : FuncId) (args : Array Value) (u : Value) (s' : σ)
    (hrun : ∀ W, (execOp a.eval o).run P W = .ok (.enter f args) W) (hcall : ∀ W, C s W → Calls P f args W fun e w' => e = .returned u ∧ C s' w') (hk : wpLin P ops C Q rest s' (a.put o.dst u)) : wpLin P ops C Q (o :: rest) s a :=
  lin_move hw hm fun w hC => by
    rw [hrun]
    exact (hcall w hC).mono fun e w' h => ⟨u, h.1, s', h.2, hk⟩
end
end Go.Proofs.YtopakpmepioomaaDoor.Mv

/- A whole row stored in a drawn region that moves (for XMove, XMove2). No program in sight. -/
namespace Go.Proofs.YtopakpmepioomaaDoor.Mv
open Go.RowKit Go.Proofs.YtopakpmepioomaaDoor
set_option linter.unusedVariables false
section
variable {P : Program} {ops : Array Oper} {σ : Type} {C : σ → World → Prop}
theorem lin_storeRow {Q : σ → Act → Prop} {s : σ} {o : Oper} {rest : List Oper} {a : Act} (hw : Region.wanted o (yielded ops a.tmps) = true) (ty : TypeId) (x y : Operand) (ho : o.op = .store ty x y)
    (g : Nat) (cells : Array Value) (t : TypeId) (hx : a.eval x = .pointer (some ⟨g, 0, none⟩)) (hy : a.eval y = .agg cells) (hi : (P.info? ty).map (·.size) = some cells.size) (h1 : cells.all (·.oneCell') = true) (s' : σ)
    (hc : ∀ w, C s w → (∃ old, w.heap[g]? = some (.cells old t (0, 0)) ∧ old.size = cells.size) ∧ C s' (w.setRow g cells))
    (hk : wpLin P ops C Q rest s' (a.put o.dst undef)) : wpLin P ops C Q (o :: rest) s a :=
  lin_move hw (by unfold mv plainOp; rw [ho]; rfl) fun w hC => by
    obtain ⟨⟨old, hu, hs⟩, hC'⟩ := hc w hC
    unfold execOp
    simp only [ho, hx, hy, Instr.storeAt, Instr.sureAddr, Sem.run_bind, Sem.run_pure, Result.andThen_ok, run_storeVar_row w g t ty old cells hu hi hs h1]
    exact ⟨s', hC', hk⟩
/-- a call whose answer is one of many -/
theorem lin_callE {Q : σ → Act → Prop} {s : σ} {o : Oper} {rest : List Oper} {a : Act} (hw : Region.wanted o (yielded ops a.tmps) = true) (hm : mv o = true) (f : FuncId) (args : Array Value)
    (hrun : ∀ W, (execOp a.eval o).run P W = .ok (.enter f args) W) (hcall : ∀ W, C s W → Calls P f args W fun e w' => ∃ u s', e = .returned u ∧ C s' w' ∧ wpLin P ops C Q rest s' (a.put o.dst u)) : wpLin P ops C Q (o :: rest) s a :=
  lin_move hw hm fun w hC => by
    rw [hrun]
    exact (hcall w hC).mono fun e w' ⟨u, s', h1, h2, h3⟩ => ⟨u, h1, s', h2, h3⟩
end
end Go.Proofs.YtopakpmepioomaaDoor.Mv

/- A range over a function whose iterator hands over a known row of values: a law for the caller, by the number of the rounds that are over. No program in sight. -/
namespace Go.Proofs.YtopakpmepioomaaDoor
open Go.RowKit
variable {F : Fence} {n : Nat} {P : Program}

/-- what turns is new, or one of some blocks -/
def Turns (own : Nat → Prop) (A B : World) : Prop := ∃ row, A.grownBy B row ∧ ∀ r, row = some r → own r

/-- An iterator hands over N values, the k-th encs k. own: blocks that it turns itself. Need k: what it wants of memory, k rounds being over. -/
def IterIx (F : Fence) (n : Nat) (P : Program) (g : Nat) (lb : Array Value) (encs : Nat → Array Value) (N : Nat) (own : Nat → Prop) (Need : Nat → World → Prop) : Prop :=
  ∀ (l : Nat) (J Jx : Nat → World → Prop) (W : World),
    (∀ k A B, J k A → Turns own A B → J k B) → (∀ k A B, Jx k A → Turns own A B → Jx k B) →
    (∀ k A, k < N → J k A → Need k A → YieldAt F (n - 1) P l (encs k) A fun e B => (e = .returned (.bool true) ∧ J (k + 1) B ∧ Need k B) ∨ (e = .returned (.bool false) ∧ Jx k B)) →
    J 0 W → Need 0 W →
    CallsIn F n P g (#[.func (.yield l) #[] #[]] ++ lb) W fun e B => (∃ v, e = .returned v) ∧ (J N B ∨ ∃ k, k < N ∧ Jx k B)

/-- how the body of round k may be left -/
def roundIx (B : Nat) (J : Nat → World → Prop) (Jx : Code → Nat → World → Prop) (Need : Nat → World → Prop) (k : Nat) (W : World) : Exit → Act → World → Prop
  | .normal, _, W' => KeepsFrom B W W' ∧ J (k + 1) W' ∧ Need k W'
  | .ret, _, W' => KeepsFrom B W W' ∧ Jx .ret k W'
  | .exit id, _, W' => KeepsFrom B W W' ∧ Jx (.exit id) k W'
  | .goto t, _, W' => KeepsFrom B W W' ∧ Jx (.goto t) k W'
  | .panic _, _, _ => False
  | .outgrown, _, _ => False

theorem wpIn_rangeIx {g : Operand} {ps : Array Tmp} {assign body : Code} {Q : Exit → Act → World → Prop} {a : Act} {w : World}
    (hro : F.round = none) (h1 : 1 ≤ n) {gf : Nat} {lb : Array Value} (hg : a.eval g = .func (.func gf) #[] lb) (hFg : F.fn gf) (eg : ∀ args w, (callFunc gf args).run P w = .ok (.enter gf args) w)
    {encs : Nat → Array Value} {N : Nat} {own : Nat → Prop} {Need : Nat → World → Prop} (hit : IterIx F (n - 1) P gf lb encs N own Need)
    (hown : ∀ r, own r → r < w.heap.size) (hps : ∀ k, (encs k).size = ps.size)
    (J : Nat → World → Prop) (Jx : Code → Nat → World → Prop) (Ax : Nat → Act → World → Prop)
    (hJ : OwnFrom w.heap.size J) (hJx : ∀ c, OwnFrom w.heap.size (Jx c)) (hN : OwnFrom w.heap.size Need) (hAx : ∀ a', OwnFrom w.heap.size (fun k W => Ax k a' W))
    (hJo : ∀ k A B, J k A → Turns own A B → J k B) (hJxo : ∀ c k A B, Jx c k A → Turns own A B → Jx c k B)
    (h0 : J 0 w) (hn0 : Need 0 w)
    (hassign : ∀ (l k : Nat) (W : World) (K : Act → World → Prop), k < N → J k W → Need k W →
      (∀ a' W', KeepsFrom w.heap.size W W' → J k W' → Need k W' → Ax k a' W' → K a' W') →
      assign.wpIn (F.inRound l) (n - 1 - 1) P (Exit.then K (fun _ _ _ => False)) { tmps := (ps.zip (encs k)).foldl (fun t (p, v) => t.setIfInBounds p v) a.tmps, defers := [] } W)
    (hbody : ∀ (l k : Nat) (a' : Act) (W : World), k < N → J k W → Need k W → Ax k a' W → body.wpIn (F.inRound l) (n - 1 - 1) P (roundIx w.heap.size J Jx Need k W) a' W)
    (hdone : ∀ (D : Nat) (W : World), w.heap.size ≤ D → J N W → W.heap[D]? = some (.deferred (some [])) → Q .normal { a with defers := { target := .collected D, args := #[] } :: a.defers } W)
    (hstop : ∀ (D : Nat) (c : Code) (k : Nat) (W : World), w.heap.size ≤ D → k < N → Jx c k W → W.heap[D]? = some (.deferred (some [])) → c.wpIn F n P Q { a with defers := { target := .collected D, args := #[] } :: a.defers } W) :
    (Code.rangeFunc g ps assign body).wpIn F n P Q a w := by
  refine wpIn_rangeFunc ?_
  intro fn hfn
  rw [hro]
  -- the record of the loop, by its state and its pending jump
  generalize hrc : (fun (st : LoopState) (pe : Option Code) => ({ state := st, pending := pe, fn := fn, tmps := a.tmps, params := ps, assign := assign, body := body, defers := w.heap.size } : Loop)) = rc
  have hrcs : ∀ st pe, rc st pe = { state := st, pending := pe, fn := fn, tmps := a.tmps, params := ps, assign := assign, body := body, defers := w.heap.size } := fun st pe => by rw [← hrc]
  clear hrc
  let W1 := (w.alloc (.deferred (some []))).alloc (.loop (rc .ready none))
  have hL1 : W1.heap[w.heap.size + 1]? = some (.loop (rc .ready none)) := by
    have := World.alloc_heap_new (w.alloc (.deferred (some []))) (.loop (rc .ready none)); rwa [World.size_alloc] at this
  have hK1 : W1.heap[w.heap.size]? = some (.deferred (some [])) := (Below.heap_alloc _ _ _ (by simp)).trans (World.alloc_heap_new w _)
  have grow1 : w.grownBy W1 none := ⟨rfl, rfl, rfl, by simp [W1]; omega, fun k hk _ => by
    show ((w.alloc _).alloc _).heap[k]? = _
    rw [Below.heap_alloc _ _ _ (by simp; omega), Below.heap_alloc _ _ _ hk]⟩
  have keep : ∀ {X : Nat → World → Prop}, OwnFrom w.heap.size X → ∀ k, X k w → X k W1 := fun h k hx => h k w W1 none hx grow1 (fun r e => by cases e)
  -- the two facts of book-keeping abide what the iterator turns
  have book : ∀ {A B : World} {k : Nat} {o : Obj}, Turns own A B → w.heap.size ≤ k → A.heap[k]? = some o → B.heap[k]? = some o := by
    rintro A B k o ⟨row, hgr, hr⟩ hk ho
    refine (hgr.block k (Array.getElem?_eq_some_iff.1 ho).1 (fun e => ?_)).trans ho
    have := hown k (hr k e.symm)
    omega
  refine ⟨w.heap.size + 1, [{ target := .collected w.heap.size, args := #[] }], W1, { target := .fn (.func gf) lb, args := #[.func (.yield (w.heap.size + 1)) #[] #[]] }, W1, gf,
    #[.func (.yield (w.heap.size + 1)) #[] #[]] ++ lb, W1, ?_, ?_, ?_, ?_, fun _ => h1, ?_⟩
  · show _ = Result.ok (_, _) ((w.alloc (.deferred (some []))).alloc (.loop (rc .ready none)))
    rw [hrcs]; exact run_enterLoop_outer _ _ _ _ _
  · simp only [resolve, hg]
    simp [go_sem]
  · intro f' hf'; simp [Target.leads] at hf'; subst hf'; exact hFg
  · simp [invoke, go_sem, eg]
  refine (hit (w.heap.size + 1)
    (fun k W => J k W ∧ W.heap[w.heap.size + 1]? = some (.loop (rc .ready none)) ∧ W.heap[w.heap.size]? = some (.deferred (some [])))
    (fun k W => ∃ c, Jx c k W ∧ W.heap[w.heap.size + 1]? = some (.loop (rc .done (some c))) ∧ W.heap[w.heap.size]? = some (.deferred (some [])))
    W1
    (fun k A B hs ht => ⟨hJo k A B hs.1 ht, book ht (by omega) hs.2.1, book ht (Nat.le_refl _) hs.2.2⟩)
    (fun k A B hs ht => by
      obtain ⟨c, hc, hl, hk⟩ := hs
      exact ⟨c, hJxo c k A B hc ht, book ht (by omega) hl, book ht (Nat.le_refl _) hk⟩)
    ?_ ⟨keep hJ 0 h0, hL1, hK1⟩ (keep hN 0 hn0)).mono ?_
  · -- one round
    rintro k W hkN ⟨hj, hl, hd⟩ hnd
    have hy := run_yield (P := P) (args := encs k) hl (by rw [hrcs]; exact hps k)
    rw [hrcs] at hy
    refine ⟨fn, _, assign, body, hy, roundIn_of_wpIn hfn (hassign _ k W _ hkN hj hnd ?_)⟩
    intro a' V hkf hjV hndV hax
    have hlV := hkf.same _ _ (by omega) hl rfl
    have hdV := hkf.same _ _ (Nat.le_refl _) hd rfl
    have hltV : w.heap.size + 1 < V.heap.size := (Array.getElem?_eq_some_iff.1 hlV).1
    refine ⟨_, run_beginRound hlV (by rw [hrcs]), ?_⟩
    generalize hbz : ({ rc .ready none with state := .busy } : Loop) = bz
    have hl2 : (V.putObj (w.heap.size + 1) (.loop bz)).heap[w.heap.size + 1]? = some (.loop bz) := World.putObj_heap_same hltV
    have hd2 : (V.putObj (w.heap.size + 1) (.loop bz)).heap[w.heap.size]? = some (.deferred (some [])) := (World.putObj_heap_other (by omega)).trans hdV
    refine wpIn_mono (hbody _ k a' _ hkN (hJ.putObj _ hjV (by omega) hlV rfl) (hN.putObj _ hndV (by omega) hlV rfl) ((hAx a').putObj _ hax (by omega) hlV rfl)) ?_
    have fin : ∀ (jump : Option Code) (U : World), KeepsFrom w.heap.size (V.putObj (w.heap.size + 1) (.loop bz)) U →
        (Instr.endRound (w.heap.size + 1) jump).run P U = .ok (.bool jump.isNone) (U.putObj (w.heap.size + 1) (.loop (rc (if jump.isNone then .ready else .done) jump))) ∧
        U.heap[w.heap.size + 1]? = some (.loop bz) ∧
        (U.putObj (w.heap.size + 1) (.loop (rc (if jump.isNone then .ready else .done) jump))).heap[w.heap.size + 1]? = some (.loop (rc (if jump.isNone then .ready else .done) jump)) ∧
        (U.putObj (w.heap.size + 1) (.loop (rc (if jump.isNone then .ready else .done) jump))).heap[w.heap.size]? = some (.deferred (some [])) := by
      intro jump U hkU
      have hlU := hkU.same _ _ (by omega) hl2 rfl
      have he := run_endRound (P := P) jump hlU
      refine ⟨?_, hlU, World.putObj_heap_same (Array.getElem?_eq_some_iff.1 hlU).1, (World.putObj_heap_other (by omega)).trans (hkU.same _ _ (Nat.le_refl _) hd2 rfl)⟩
      rw [he, ← hbz, hrcs, hrcs]
    rintro e a3 U hp
    cases e with
    | normal =>
      obtain ⟨hkU, hjU, hndU⟩ := hp
      obtain ⟨hr, hlU, hl4, hd4⟩ := fin none U hkU
      exact ⟨_, _, hr, .inl ⟨rfl, ⟨hJ.putObj _ hjU (by omega) hlU rfl, hl4, hd4⟩, hN.putObj _ hndU (by omega) hlU rfl⟩⟩
    | ret =>
      obtain ⟨hkU, hjU⟩ := hp
      obtain ⟨hr, hlU, hl4, hd4⟩ := fin (some .ret) U hkU
      exact ⟨_, _, hr, .inr ⟨rfl, .ret, (hJx _).putObj _ hjU (by omega) hlU rfl, hl4, hd4⟩⟩
    | exit id =>
      obtain ⟨hkU, hjU⟩ := hp
      obtain ⟨hr, hlU, hl4, hd4⟩ := fin (some (.exit id)) U hkU
      exact ⟨_, _, hr, .inr ⟨rfl, .exit id, (hJx _).putObj _ hjU (by omega) hlU rfl, hl4, hd4⟩⟩
    | goto t =>
      obtain ⟨hkU, hjU⟩ := hp
      obtain ⟨hr, hlU, hl4, hd4⟩ := fin (some (.goto t)) U hkU
      exact ⟨_, _, hr, .inr ⟨rfl, .goto t, (hJx _).putObj _ hjU (by omega) hlU rfl, hl4, hd4⟩⟩
    | panic ch => exact hp.elim
    | outgrown => exact hp.elim
  · -- the iterator has returned
    rintro e W2 ⟨⟨v, rfl⟩, (⟨hj, hl, hd⟩ | ⟨k, hkN, c, hj, hl, hd⟩)⟩
    · exact ⟨none, _, by have := run_endLoop (P := P) hl (by rw [hrcs]; simp); rw [hrcs] at this; exact this, hdone _ _ (Nat.le_refl _) (hJ.putObj _ hj (by omega) hl rfl) ((World.putObj_heap_other (by omega)).trans hd)⟩
    · exact ⟨some c, _, by have := run_endLoop (P := P) hl (by rw [hrcs]; simp); rw [hrcs] at this; exact this, hstop _ c k _ (Nat.le_refl _) hkN ((hJx c).putObj _ hj (by omega) hl rfl) ((World.putObj_heap_other (by omega)).trans hd)⟩
end Go.Proofs.YtopakpmepioomaaDoor

/- The law of a range over a function, for states that speak of the blocks that lay ahead of the loop alone. No program in sight. -/
namespace Go.Proofs.YtopakpmepioomaaDoor
open Go.RowKit
variable {P : Program}
set_option linter.unusedVariables false

/-- C lies as A did below B -/
structure Still (B : Nat) (A C : World) : Prop where
  os : C.os = A.os
  tape : C.tape = A.tape
  output : C.output = A.output
  size : A.heap.size ≤ C.heap.size
  block : ∀ k, k < B → k < A.heap.size → C.heap[k]? = A.heap[k]?
/-- X speaks of the blocks below B alone -/
def LocalP (B : Nat) (X : World → Prop) : Prop := ∀ A C, X A → Still B A C → X C

theorem Still.of_grown {B : Nat} {A C : World} {row : Option Nat} (h : A.grownBy C row) (hr : ∀ r, row = some r → B ≤ r) : Still B A C :=
  ⟨h.os, h.tape, h.output, h.size, fun k hk hl => h.block k hl (fun e => by have := hr k e.symm; omega)⟩
theorem LocalP.own {B : Nat} {J : Nat → World → Prop} (h : ∀ k, LocalP B (J k)) : OwnFrom B J :=
  fun s A C row hs hg hr => h s A C hs (Still.of_grown hg (fun r e => (hr r e).1))
theorem LocalP.turns {B : Nat} {X : World → Prop} (h : LocalP B X) {A C : World} (hs : X A) (ht : Turns (fun _ => False) A C) : X C := by
  obtain ⟨row, hg, hr⟩ := ht
  exact h A C hs (Still.of_grown hg (fun r e => (hr r e).elim))
theorem LocalP.and {B : Nat} {X Y : World → Prop} (h : LocalP B X) (k : LocalP B Y) : LocalP B (fun W => X W ∧ Y W) := fun A C hs hg => ⟨h A C hs.1 hg, k A C hs.2 hg⟩
theorem LocalP.pure (B : Nat) (p : Prop) : LocalP B (fun _ => p) := fun _ _ h _ => h
theorem LocalP.ex {B : Nat} {α : Type} {X : α → World → Prop} (h : ∀ x, LocalP B (X x)) : LocalP B (fun W => ∃ x, X x W) := fun A C hs hg => let ⟨x, hx⟩ := hs; ⟨x, h x A C hx hg⟩
theorem LocalP.boxed {B b : Nat} (t : TypeId) (v : Value) (hb : b < B) : LocalP B (fun W => Boxed W b t v) := fun A C hs hg => (hg.block b hb hs.lt).trans hs
theorem LocalP.below {B n : Nat} (w : World) (hn : n ≤ B) (hw : n ≤ w.heap.size) : LocalP B (fun W => Below n w W) := fun A C hs hg =>
  ⟨hg.os.trans hs.os, hg.tape.trans hs.tape, hg.output.trans hs.output, Nat.le_trans hs.size hg.size, fun k hk => (hg.block k (by omega) (by have := hs.size; omega)).trans (hs.block k hk)⟩
theorem LocalP.cell {B : Nat} (p : Addr) (v : Value) (hb : p.block < B) : LocalP B (fun W => W.cell? p = some v) := fun A C hs hg =>
  (World.cell?_of_block (w := A) (hg.block p.block hb (World.block_lt_of_cell? A _ hs))).trans hs
theorem LocalP.seg {B b : Nat} (off n : Nat) (z : Nat → Int) (hb : b < B) : LocalP B (fun W => Seg W b off n z) := fun A C hs hg i hi => LocalP.cell ⟨b, off + i, none⟩ _ hb A C (hs i hi) hg
theorem LocalP.row {B : Nat} {a : Option Addr} (n : Nat) (z : Nat → Int) (hb : ∀ x, a = some x → x.block < B) : LocalP B (fun W => Row W a n z) := fun A C hs hg => by
  rcases hs with h0 | ⟨b, off, rfl, hs⟩
  · exact .inl h0
  · exact .inr ⟨b, off, rfl, LocalP.seg off n z (hb _ rfl) A C hs hg⟩
theorem LocalP.heap {B b : Nat} (o : Obj) (hb : b < B) : LocalP B (fun W => W.heap[b]? = some o) := fun A C hs hg => (hg.block b hb (Array.getElem?_eq_some_iff.1 hs).1).trans hs

theorem LocalP.grown {B : Nat} {w : World} (row : Option Nat) (hB : w.heap.size ≤ B) : LocalP B (fun W => w.grownBy W row) := fun A C hs hg =>
  ⟨hg.os.trans hs.os, hg.tape.trans hs.tape, hg.output.trans hs.output, Nat.le_trans hs.size hg.size, fun k hk hne => (hg.block k (by omega) (Nat.lt_of_lt_of_le hk hs.size)).trans (hs.block k hk hne)⟩

theorem Below.keeps {B : Nat} {W W' : World} (h : Below W.heap.size W W') : KeepsFrom B W W' :=
  ⟨h.size, fun k o _ hk _ => (h.block k (Array.getElem?_eq_some_iff.1 hk).1).trans hk⟩
theorem Only.keeps {B b : Nat} {W W' : World} (h : Only b W W') {off : Nat} {v : Value} (hc : W.cell? ⟨b, off, none⟩ = some v) : KeepsFrom B W W' :=
  ⟨Nat.le_of_eq h.size.symm, fun k o _ hk ho => by
    by_cases hkb : k = b
    · subst hkb
      simp only [World.cell?, hk] at hc
      cases o with
      | cells c e f => cases ho
      | _ => cases hc
    · exact (h.block k hkb).trans hk⟩
theorem drewN_keeps {B : Nat} (W : World) (m : Nat) : KeepsFrom B W (W.drewN m) := ⟨Nat.le_refl _, fun _ _ _ hk _ => hk⟩

/-- **A range over a function in a plain walk.** -/
theorem wp_rangeIx {g : Operand} {ps : Array Tmp} {assign body : Code} {Q : Exit → Act → World → Prop} {a : Act} {w : World} {gf : Nat} {lb : Array Value}
    (hg : a.eval g = .func (.func gf) #[] lb) (eg : ∀ args w, (callFunc gf args).run P w = .ok (.enter gf args) w)
    {encs : Nat → Array Value} {N : Nat} {Need : Nat → World → Prop} (hit : IterIx Fence.wide 4 P gf lb encs N (fun _ => False) Need) (hps : ∀ k, (encs k).size = ps.size)
    (J : Nat → World → Prop) (Jx : Code → Nat → World → Prop) (A1 : Nat → Act)
    (hJ : ∀ k, LocalP w.heap.size (J k)) (hJx : ∀ c k, LocalP w.heap.size (Jx c k)) (hN : ∀ k, LocalP w.heap.size (Need k)) (h0 : J 0 w) (hn0 : Need 0 w)
    (hassign : ∀ (l k : Nat) (W : World) (K : Act → World → Prop), k < N → K (A1 k) W →
      assign.wpIn (Fence.wide.inRound l) 3 P (Exit.then K (fun _ _ _ => False)) { tmps := (ps.zip (encs k)).foldl (fun t (p, v) => t.setIfInBounds p v) a.tmps, defers := [] } W)
    (hbody : ∀ (l k : Nat) (W : World), k < N → J k W → Need k W → body.wpIn (Fence.wide.inRound l) 3 P (roundIx w.heap.size J Jx Need k W) (A1 k) W)
    (hdone : ∀ (D : Nat) (W : World), w.heap.size ≤ D → J N W → W.heap[D]? = some (.deferred (some [])) → Q .normal { a with defers := { target := .collected D, args := #[] } :: a.defers } W)
    (hstop : ∀ (D : Nat) (c : Code) (k : Nat) (W : World), w.heap.size ≤ D → k < N → Jx c k W → W.heap[D]? = some (.deferred (some [])) → c.wp P Q { a with defers := { target := .collected D, args := #[] } :: a.defers } W) :
    (Code.rangeFunc g ps assign body).wp P Q a w := by
  refine (wpIn_wide (n := 5)).1 ?_
  exact wpIn_rangeIx rfl (by decide) hg trivial eg hit (fun r h => h.elim) hps J Jx (fun k a' _ => a' = A1 k)
    (LocalP.own hJ) (fun c => LocalP.own (hJx c)) (LocalP.own hN) (fun a' => LocalP.own (fun k => LocalP.pure _ _))
    (fun k A C hs ht => (hJ k).turns hs ht) (fun c k A C hs ht => (hJx c k).turns hs ht) h0 hn0
    (fun l k W K hk hj hn hK => hassign l k W K hk (hK _ _ (KeepsFrom.refl _ _) hj hn rfl))
    (fun l k a' W hk hj hn ha => by subst ha; exact hbody l k W hk hj hn)
    hdone (fun D c k W h1 h2 h3 h4 => wpIn_wide.2 (hstop D c k W h1 h2 h3 h4))

/-- the end of a function that holds such a loop: the block for deferred calls is shut -/
theorem bodyPostM_done {P : Program} {fn : Func} {R : Ending → World → Prop} {n : Nat} {tmps : Array Value} {D : Nat} {W : World} {v : Value} (hD : W.heap[D]? = some (.deferred (some [])))
    (hres : (results fn tmps).run P (W.putObj D (.deferred none)) = .ok v (W.putObj D (.deferred none))) (hR : R (.returned v) (W.putObj D (.deferred none))) :
    bodyPostM Fence.wide n P fn R .ret { tmps := tmps, defers := [{ target := .collected D, args := #[] }] } W :=
  ⟨by simp, .inl ⟨_, _, rfl, run_takeDeferred hD, ⟨_, hres, hR⟩⟩⟩
/-- .. ahead of the loop -/
theorem bodyPostM_early {P : Program} {fn : Func} {R : Ending → World → Prop} {n : Nat} {tmps : Array Value} {W : World} {v : Value}
    (hres : (results fn tmps).run P W = .ok v W) (hR : R (.returned v) W) :
    bodyPostM Fence.wide n P fn R .ret { tmps := tmps, defers := [] } W := ⟨_, hres, hR⟩
theorem cell_putObj {W : World} {D : Nat} {o o' : Obj} {p : Addr} {v : Value} (hD : W.heap[D]? = some o) (ho : o.isCells = false) (hc : W.cell? p = some v) : (W.putObj D o').cell? p = some v := by
  have hne : p.block ≠ D := by
    intro e
    simp only [World.cell?, e, hD] at hc
    cases o with
    | cells c e f => cases ho
    | _ => cases hc
  rw [World.cell?_of_block (w := W) (World.putObj_heap_other hne)]; exact hc
theorem below_putObj {W w : World} {n D : Nat} (h : Below n w W) (o' : Obj) (hn : n ≤ w.heap.size) (hD : n ≤ D) : Below n w (W.putObj D o') :=
  h.grown (grownBy_putObj' W D o') (Nat.le_trans hn h.size) (fun k e => by cases e; exact hD)
end Go.Proofs.YtopakpmepioomaaDoor
