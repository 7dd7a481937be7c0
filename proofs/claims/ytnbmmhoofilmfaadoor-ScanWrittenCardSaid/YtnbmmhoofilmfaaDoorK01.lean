/- Texts of this claim, merged by a program (a claim may have 60 files): Mem, Own, CrcP. -/
import Derived.WalkKit
import Derived.Below
import Derived.Deep.Draws
import Derived.Lib.Hide
import Derived.Laws.BitsAllLaws
import Derived.OwnWalk
import Derived.OpenShut
import Derived.Laws.AppendOwnNone
/- Plain words on memory and bytes: rows of bytes in the world, what a write of some bytes leaves, numbers of two and four bytes. No program in sight. -/
namespace Go.Proofs.YtnbmmhoofilmfaaDoor
open Go.RowKit

theorem ret_int {k : IntKind} {a b : Int} (h : a = b) : Ending.returned (.int k a) = .returned (.int k b) := by rw [h]
theorem ret_bool {a b : Bool} (h : a = b) : Ending.returned (.bool a) = .returned (.bool b) := by rw [h]
theorem ret_ib {k : IntKind} {a b : Int} {c d : Bool} (h : a = b) (g : c = d) : Ending.returned (.tuple #[.int k a, .bool c]) = .returned (.tuple #[.int k b, .bool d]) := by rw [h, g]
theorem int_eq {k : IntKind} {a b : Int} (h : a = b) : Value.int k a = .int k b := by rw [h]
theorem bool_eq {a b : Bool} (h : a = b) : Value.bool a = .bool b := by rw [h]

/-- n bytes z stand at a place -/
def Seg (w : World) (b off n : Nat) (z : Nat → Int) : Prop := ∀ i, i < n → w.cell? ⟨b, off + i, none⟩ = some (.int .u8 (z i))
/-- all are bytes -/
def Byt (z : Nat → Int) : Prop := ∀ i, 0 ≤ z i ∧ z i < 256
/-- a slice of n bytes z; none, if it has none -/
def Row (w : World) (a : Option Addr) (n : Nat) (z : Nat → Int) : Prop := n = 0 ∨ ∃ b off, a = some ⟨b, off, none⟩ ∧ Seg w b off n z
/-- n cells may be written -/
def Soft (w : World) (b off n : Nat) : Prop := ∀ i, i < n → w.frozen? ⟨b, off + i, none⟩ = false

def g16 (z : Nat → Int) (i : Nat) : Int := z i + 256 * z (i + 1)
def g32 (z : Nat → Int) (i : Nat) : Int := z i + 256 * z (i + 1) + 65536 * z (i + 2) + 16777216 * z (i + 3)
/-- byte i of a number, the lowest first -/
def byteOf (v : Int) (i : Nat) : Int := v / 256 ^ i % 256
/-- z with n bytes f from k on -/
def over (z : Nat → Int) (k n : Nat) (f : Nat → Int) : Nat → Int := fun i => if k ≤ i ∧ i < k + n then f (i - k) else z i

theorem byteOf_bd (v : Int) (i : Nat) : 0 ≤ byteOf v i ∧ byteOf v i < 256 := by unfold byteOf; omega
theorem byteOf_zero (v : Int) : byteOf v 0 = v % 256 := by simp [byteOf]
theorem byteOf_succ (v : Int) (i : Nat) : byteOf v (i + 1) = byteOf (v / 256) i := by
  unfold byteOf
  rw [Int.pow_succ, Int.mul_comm, ← Int.ediv_ediv_of_nonneg (by omega)]

theorem byt_over {z f : Nat → Int} (hz : Byt z) (hf : Byt f) (k n : Nat) : Byt (over z k n f) := by
  intro i; unfold over; split
  · exact hf _
  · exact hz _
theorem byt_byteOf (v : Int) : Byt (byteOf v) := byteOf_bd v
theorem g16_bd {z : Nat → Int} (hz : Byt z) (i : Nat) : 0 ≤ g16 z i ∧ g16 z i < 65536 := by
  have := hz i; have := hz (i + 1); unfold g16; omega
theorem g32_bd {z : Nat → Int} (hz : Byt z) (i : Nat) : 0 ≤ g32 z i ∧ g32 z i < 4294967296 := by
  have := hz i; have := hz (i + 1); have := hz (i + 2); have := hz (i + 3); unfold g32; omega

theorem Seg.drewN {w : World} {b off n : Nat} {z : Nat → Int} (h : Seg w b off n z) (m : Nat) : Seg (w.drewN m) b off n z := h
theorem Seg.sub {w : World} {b off n : Nat} {z : Nat → Int} (h : Seg w b off n z) (k m : Nat) (hk : k + m ≤ n) : Seg w b (off + k) m (fun i => z (k + i)) := by
  intro i hi
  have := h (k + i) (by omega)
  rw [Nat.add_assoc]; exact this
theorem Seg.take {w : World} {b off n : Nat} {z : Nat → Int} (h : Seg w b off n z) (m : Nat) (hk : m ≤ n) : Seg w b off m z := fun i hi => h i (by omega)
theorem Seg.congr {w : World} {b off n : Nat} {z y : Nat → Int} (h : Seg w b off n z) (e : ∀ i, i < n → z i = y i) : Seg w b off n y := fun i hi => by rw [← e i hi]; exact h i hi

theorem bel_drewN {B : Nat} {a w : World} (h : Below B a w) (n : Nat) : Below B a (w.drewN n) := h.trans ⟨rfl, rfl, rfl, Nat.le_refl _, fun _ _ => rfl⟩

/-- w' is w, but for cells of the block b -/
structure Only (b : Nat) (w w' : World) : Prop where
  os : w'.os = w.os
  tape : w'.tape = w.tape
  output : w'.output = w.output
  size : w'.heap.size = w.heap.size
  block : ∀ k, k ≠ b → w'.heap[k]? = w.heap[k]?
  frozen : ∀ a, w'.frozen? a = w.frozen? a
  shape : ∀ c e fr, w.heap[b]? = some (.cells c e fr) → ∃ c', c'.size = c.size ∧ w'.heap[b]? = some (.cells c' e fr)

theorem Only.refl (b : Nat) (w : World) : Only b w w := ⟨rfl, rfl, rfl, rfl, fun _ _ => rfl, fun _ => rfl, fun c _ _ h => ⟨c, rfl, h⟩⟩
theorem Only.drewN {b : Nat} {w w' : World} (h : Only b w w') (m : Nat) : Only b w (w'.drewN m) := ⟨h.os, h.tape, h.output, h.size, h.block, h.frozen, h.shape⟩
theorem Only.trans {b : Nat} {u v w : World} (h : Only b u v) (k : Only b v w) : Only b u w :=
  ⟨k.os.trans h.os, k.tape.trans h.tape, k.output.trans h.output, k.size.trans h.size, fun j hj => (k.block j hj).trans (h.block j hj), fun a => (k.frozen a).trans (h.frozen a),
   fun c e fr hc => by obtain ⟨c1, h1, g1⟩ := h.shape c e fr hc; obtain ⟨c2, h2, g2⟩ := k.shape c1 e fr g1; exact ⟨c2, h2.trans h1, g2⟩⟩
theorem Only.setCell (w : World) (a : Addr) (v : Value) : Only a.block w (w.setCell a v) :=
  ⟨rfl, rfl, rfl, by simp [World.setCell], fun k hk => Below.heap_setCell w a v k hk, fun x => World.frozen?_setCell .., fun c e fr hc => by
    obtain ⟨hlt, hk⟩ := Array.getElem?_eq_some_iff.1 hc
    refine ⟨if a.spot.isSome then c else c.setIfInBounds a.off v, by split <;> simp, ?_⟩
    show (w.heap.modify a.block _)[a.block]? = _
    rw [Array.getElem?_eq_getElem (by rw [Array.size_modify]; exact hlt), Array.getElem_modify_self, hk]⟩
theorem Only.below {b B : Nat} {w w' : World} (h : Only b w w') (hb : B ≤ b) : Below B w w' :=
  ⟨h.os, h.tape, h.output, by rw [h.size]; exact Nat.le_refl _, fun k hk => h.block k (by omega)⟩
theorem Only.cell {b : Nat} {w w' : World} (h : Only b w w') {p : Addr} (hp : p.block ≠ b) : w'.cell? p = w.cell? p := World.cell?_of_block (w := w) (h.block p.block hp)
theorem Only.seg {b : Nat} {w w' : World} (h : Only b w w') {c off n : Nat} {z : Nat → Int} (hc : c ≠ b) (hs : Seg w c off n z) : Seg w' c off n z :=
  fun i hi => (h.cell (p := ⟨c, off + i, none⟩) hc).trans (hs i hi)
theorem Only.row {b : Nat} {w w' : World} (h : Only b w w') {a : Option Addr} {n : Nat} {z : Nat → Int} (hc : ∀ x, a = some x → x.block ≠ b) (hs : Row w a n z) : Row w' a n z := by
  rcases hs with h0 | ⟨c, off, rfl, hs⟩
  · exact .inl h0
  · exact .inr ⟨c, off, rfl, h.seg (hc _ rfl) hs⟩
theorem Only.soft {b : Nat} {w w' : World} (h : Only b w w') {c off n : Nat} (hs : Soft w c off n) : Soft w' c off n := fun i hi => (h.frozen _).trans (hs i hi)

/-- w' is w with n bytes f at a place -/
structure Puts (b lo n : Nat) (f : Nat → Int) (w w' : World) : Prop where
  only : Only b w w'
  cell : ∀ o, w'.cell? ⟨b, o, none⟩ = if lo ≤ o ∧ o < lo + n then some (.int .u8 (f (o - lo))) else w.cell? ⟨b, o, none⟩

theorem Puts.nil (b lo : Nat) (f : Nat → Int) (w : World) : Puts b lo 0 f w w := ⟨Only.refl _ _, fun o => by rw [if_neg (by omega)]⟩
theorem Puts.drewN {b lo n : Nat} {f : Nat → Int} {w w' : World} (h : Puts b lo n f w w') (m : Nat) : Puts b lo n f w (w'.drewN m) := ⟨h.only.drewN m, h.cell⟩
theorem Puts.snoc {b lo n : Nat} {f : Nat → Int} {w w' : World} (h : Puts b lo n f w w') {u v : Value} (hu : w.cell? ⟨b, lo + n, none⟩ = some u) (hv : v = .int .u8 (f n)) :
    Puts b lo (n + 1) f w (w'.setCell ⟨b, lo + n, none⟩ v) := by
  subst hv
  refine ⟨h.only.trans (Only.setCell w' ⟨b, lo + n, none⟩ _), fun o => ?_⟩
  by_cases ho : o = lo + n
  · subst ho
    rw [if_pos (by omega), World.cell?_setCell_same (u := u)]
    · congr 2; rw [Nat.add_sub_cancel_left]
    · rw [h.cell, if_neg (by omega)]; exact hu
  · rw [World.cell?_setCell_other, h.cell]
    · by_cases hi : lo ≤ o ∧ o < lo + n
      · rw [if_pos hi, if_pos (by omega)]
      · rw [if_neg hi, if_neg (by omega)]
    · intro he; apply ho; injection he with _ e2; exact e2.symm
theorem Puts.seg {b lo n : Nat} {f : Nat → Int} {w w' : World} (h : Puts b lo n f w w') {off m k : Nat} {z : Nat → Int} (hs : Seg w b off m z) (hk : lo = off + k) : Seg w' b off m (over z k n f) := by
  intro i hi
  rw [h.cell, hs i hi]
  unfold over
  subst hk
  by_cases hc : k ≤ i ∧ i < k + n
  · rw [if_pos (by omega), if_pos hc]; congr 2; congr 1; omega
  · rw [if_neg (by omega), if_neg hc]
theorem Puts.soft {b lo n : Nat} {f : Nat → Int} {w w' : World} (h : Puts b lo n f w w') {c off m : Nat} (hs : Soft w c off m) : Soft w' c off m := h.only.soft hs

theorem shl_or_u32 (v x : Int) (h0 : 0 ≤ v) (h1 : v < 16777216) (h2 : 0 ≤ x) (h3 : x < 256) : bits .or .u32 (v * 256) x = v * 256 + x := by
  obtain ⟨V, rfl⟩ := Int.eq_ofNat_of_zero_le h0
  obtain ⟨X, rfl⟩ := Int.eq_ofNat_of_zero_le h2
  have e := u32_or_nat (V * 256) X (by omega) (by omega)
  rw [show ((V * 256 : Nat) : Int) = (V : Int) * 256 from by omega] at e
  rw [e]
  have := Nat.two_pow_add_eq_or_of_lt (i := 8) (b := X) (by omega) V
  rw [show (2 : Nat) ^ 8 * V = V * 256 from by omega] at this
  omega
theorem shl_or_u16 (v x : Int) (h0 : 0 ≤ v) (h1 : v < 256) (h2 : 0 ≤ x) (h3 : x < 256) : bits .or .u16 (v * 256) x = v * 256 + x := by
  obtain ⟨V, rfl⟩ := Int.eq_ofNat_of_zero_le h0
  obtain ⟨X, rfl⟩ := Int.eq_ofNat_of_zero_le h2
  have e := u16_or_nat (V * 256) X (by omega) (by omega)
  rw [show ((V * 256 : Nat) : Int) = (V : Int) * 256 from by omega] at e
  rw [e]
  have := Nat.two_pow_add_eq_or_of_lt (i := 8) (b := X) (by omega) V
  rw [show (2 : Nat) ^ 8 * V = V * 256 from by omega] at this
  omega

/-- the first n are noughts -/
def allZ (z : Nat → Int) : Nat → Bool
  | 0 => true
  | n + 1 => allZ z n && decide (z n = 0)
theorem allZ_succ (z : Nat → Int) (n : Nat) : allZ z (n + 1) = (allZ z n && decide (z n = 0)) := rfl
theorem allZ_iff (z : Nat → Int) (n : Nat) : allZ z n = true ↔ ∀ i, i < n → z i = 0 := by
  induction n with
  | zero => simp [allZ]
  | succ n ih =>
    rw [allZ_succ, Bool.and_eq_true, ih, decide_eq_true_eq]
    constructor
    · rintro ⟨h, g⟩ i hi
      by_cases e : i = n
      · rw [e]; exact g
      · exact h i (by omega)
    · intro h; exact ⟨fun i hi => h i (by omega), h n (by omega)⟩
theorem allZ_no {z : Nat → Int} {n j : Nat} (hj : j < n) (h : ¬ z j = 0) : allZ z n = false := by
  cases e : allZ z n with
  | false => rfl
  | true => exact absurd ((allZ_iff z n).1 e j hj) h
/-- the first n are the same -/
def eqB (z y : Nat → Int) : Nat → Bool
  | 0 => true
  | n + 1 => eqB z y n && decide (z n = y n)
theorem eqB_succ (z y : Nat → Int) (n : Nat) : eqB z y (n + 1) = (eqB z y n && decide (z n = y n)) := rfl
theorem eqB_iff (z y : Nat → Int) (n : Nat) : eqB z y n = true ↔ ∀ i, i < n → z i = y i := by
  induction n with
  | zero => simp [eqB]
  | succ n ih =>
    rw [eqB_succ, Bool.and_eq_true, ih, decide_eq_true_eq]
    constructor
    · rintro ⟨h, g⟩ i hi
      by_cases e : i = n
      · rw [e]; exact g
      · exact h i (by omega)
    · intro h; exact ⟨fun i hi => h i (by omega), h n (by omega)⟩
theorem eqB_no {z y : Nat → Int} {n j : Nat} (hj : j < n) (h : ¬ z j = y j) : eqB z y n = false := by
  cases e : eqB z y n with
  | false => rfl
  | true => exact absurd ((eqB_iff z y n).1 e j hj) h

end Go.Proofs.YtnbmmhoofilmfaaDoor

/- Rows of bytes that a call has made itself: append onto them, read and write them. No program in sight. -/
namespace Go.Proofs.YtnbmmhoofilmfaaDoor
open Go.RowKit
set_option linter.unusedVariables false

/-- n bytes as values -/
def Bs (n : Nat) (z : Nat → Int) : List Value := (List.range n).map fun i => .int .u8 (z i)
theorem Bs_length (n : Nat) (z : Nat → Int) : (Bs n z).length = n := by simp [Bs]
theorem Bs_get (n : Nat) (z : Nat → Int) (i : Nat) (h : i < n) : (Bs n z)[i]? = some (.int .u8 (z i)) := by simp [Bs, h]
/-- y behind the first n of z -/
def cat (z : Nat → Int) (n : Nat) (y : Nat → Int) : Nat → Int := fun i => if i < n then z i else y (i - n)
theorem Bs_cat (n m : Nat) (z y : Nat → Int) : Bs n z ++ Bs m y = Bs (n + m) (cat z n y) := by
  apply List.ext_getElem?
  intro i
  by_cases h : i < n
  · rw [List.getElem?_append_left (by rw [Bs_length]; exact h), Bs_get _ _ _ h, Bs_get _ _ _ (by omega)]; simp [cat, h]
  · rw [List.getElem?_append_right (by rw [Bs_length]; omega), Bs_length]
    by_cases h2 : i - n < m
    · rw [Bs_get _ _ _ h2, Bs_get _ _ _ (by omega)]; simp [cat, h]
    · rw [List.getElem?_eq_none (by rw [Bs_length]; omega), List.getElem?_eq_none (by rw [Bs_length]; omega)]
theorem Bs_congr {n : Nat} {z y : Nat → Int} (h : ∀ i, i < n → z i = y i) : Bs n z = Bs n y := by
  unfold Bs; apply List.map_congr_left; intro i hi; rw [h i (by simpa using hi)]
theorem byt_cat {z y : Nat → Int} (hz : Byt z) (hy : Byt y) (n : Nat) : Byt (cat z n y) := by
  intro i; unfold cat; split
  · exact hz _
  · exact hy _

/-- a slice of n bytes z in memory of one's own (from the block base on) -/
def Mine (w : World) (base : Nat) (e : TypeId) (sa : Option Addr) (n cap : Nat) (z : Nat → Int) : Prop := w.ownsRow base e 1 (.slice sa n cap) n (Bs n z)

theorem Mine.parts {w : World} {base : Nat} {e : TypeId} {sa : Option Addr} {n cap : Nat} {z : Nat → Int} (h : Mine w base e sa n cap z) :
    (sa = none ∧ n = 0 ∧ cap = 0) ∨ ∃ g, sa = some ⟨g, 0, none⟩ ∧ base ≤ g ∧ g < w.heap.size ∧ n ≤ cap ∧ Seg w g 0 n z ∧ Soft w g 0 cap := by
  rcases h.2 with ⟨hv, h0⟩ | ⟨g, cap', cur, hv, hb, hg, hn, hc, hs, ht⟩
  · injection hv with h1 h2 h3; exact .inl ⟨h1, h0, h3⟩
  · injection hv with h1 h2 h3
    subst h1 h3
    have hlt := (Array.getElem?_eq_some_iff.1 hg).1
    refine .inr ⟨g, rfl, hb, hlt, hn, ?_, ?_⟩
    · intro i hi
      have := Bs_get n z i hi
      rw [← ht, List.getElem?_take_of_lt (by omega)] at this
      simp [World.cell?, hg]; simpa using this
    · intro i hi; simp [World.frozen?, hg]
theorem Mine.row {w : World} {base : Nat} {e : TypeId} {sa : Option Addr} {n cap : Nat} {z : Nat → Int} (h : Mine w base e sa n cap z) : Row w sa n z := by
  rcases h.parts with ⟨_, h0, _⟩ | ⟨g, rfl, _, _, _, hs, _⟩
  · exact .inl h0
  · exact .inr ⟨g, 0, rfl, hs⟩
theorem Mine.le {w : World} {base : Nat} {e : TypeId} {sa : Option Addr} {n cap : Nat} {z : Nat → Int} (h : Mine w base e sa n cap z) : ∀ x, sa = some x → base ≤ x.block ∧ x.block < w.heap.size := by
  intro x hx
  rcases h.parts with ⟨h0, _⟩ | ⟨g, h1, hb, hl, _⟩
  · rw [h0] at hx; cases hx
  · rw [h1] at hx; cases hx; exact ⟨hb, hl⟩
theorem Mine.drewN {w : World} {base : Nat} {e : TypeId} {sa : Option Addr} {n cap : Nat} {z : Nat → Int} (h : Mine w base e sa n cap z) (m : Nat) : Mine (w.drewN m) base e sa n cap z := h
theorem Mine.congr {w : World} {base : Nat} {e : TypeId} {sa : Option Addr} {n cap : Nat} {z y : Nat → Int} (h : Mine w base e sa n cap z) (hy : ∀ i, i < n → z i = y i) : Mine w base e sa n cap y := by
  unfold Mine; rw [← Bs_congr hy]; exact h
theorem Mine.nil (w : World) (base : Nat) (e : TypeId) (z : Nat → Int) : Mine w base e none 0 0 z := World.ownsRow_nil w base e 1
theorem Mine.bound {w : World} {base : Nat} {e : TypeId} {sa : Option Addr} {n cap : Nat} {z : Nat → Int} (h : Mine w base e sa n cap z) : n ≤ cap ∧ cap ≤ maxLen := by
  rcases h.2 with ⟨hv, h0⟩ | ⟨g, cap', cur, hv, hb, hg, hn, hc, hs, ht⟩
  · injection hv with h1 h2 h3; subst h3; simp [h0]
  · injection hv with h1 h2 h3; subst h3; exact ⟨hn, hc⟩

theorem Mine.made (w : World) (base : Nat) (e : TypeId) (z : Nat → Int) (hb : base ≤ w.heap.size) : Mine (w.alloc (.cells #[] e)) base e (some ⟨w.heap.size, 0, none⟩) 0 0 z :=
  World.ownsRow_made (cur := #[]) (cap := 0) w (base := base) (e := e) (size := 1) hb (by unfold maxLen; omega) (by simp)
theorem Mine.alloc {w : World} {base : Nat} {e : TypeId} {sa : Option Addr} {n cap : Nat} {z : Nat → Int} (h : Mine w base e sa n cap z) (o : Obj) : Mine (w.alloc o) base e sa n cap z := World.ownsRow.alloc h o
theorem Mine.grown {w w' : World} {base : Nat} {e : TypeId} {sa : Option Addr} {n cap : Nat} {z : Nat → Int} {row : Option Nat} (h : Mine w base e sa n cap z) (hg : w.grownBy w' row) (hr : ∀ x, sa = some x → some x.block ≠ row) : Mine w' base e sa n cap z := by
  refine World.ownsRow.kept h hg ?_
  cases sa with
  | none => exact .inl rfl
  | some x => exact .inr (hr x rfl)
/-- a literal row of bytes in a new block -/
theorem seg_new (w : World) (e : TypeId) (n : Nat) (y : Nat → Int) (vs : List Value) (h : vs = Bs n y) : Seg (w.alloc (.cells vs.toArray e)) w.heap.size 0 n y := by
  intro i hi
  have := Bs_get n y i hi
  rw [← h] at this
  simp only [World.cell?, heap_alloc_new, Nat.zero_add]
  simpa using this
theorem soft_new (w : World) (e : TypeId) (n : Nat) (vs : Array Value) : Soft (w.alloc (.cells vs e)) w.heap.size 0 n := by
  intro i hi
  simp only [World.frozen?, heap_alloc_new]
  simp
theorem row_new (w : World) (e : TypeId) (n : Nat) (y : Nat → Int) (vs : List Value) (h : vs = Bs n y) : Row (w.alloc (.cells vs.toArray e)) (some ⟨w.heap.size, 0, none⟩) n y :=
  .inr ⟨_, _, rfl, seg_new w e n y vs h⟩

/-- append of a row of bytes onto a row of one's own -/
theorem wpList_append_bytes {P : Program} {w : World} {ops : Array Oper} {rest : List Oper} {o : Oper} {a : Act} {Q : Exit → Act → World → Prop} (hgd : o.guard = none) (s x : Operand) (t : TypeId)
    (ho : o.op = .call { callee := .builtin .append, args := #[s, x], argTypes := #[t, t] })
    (base : Nat) (e : TypeId) (i : TypeInfo) (ht : P.underlying t = some (.slice e)) (hi : P.info? e = some i) (hz : i.zero = some (.int .u8 0)) (hsize : i.size = 1) (hby : i.bytes = 1)
    (sa : Option Addr) (n cap : Nat) (z : Nat → Int) (hs : a.eval s = .slice sa n cap) (hown : Mine w base e sa n cap z)
    (xa : Option Addr) (m c : Nat) (y : Nat → Int) (hx : a.eval x = .slice xa m c) (hc : xa = none → c = 0) (hr : Row w xa m y)
    (hm : n + m ≤ 140737488355328) (hbase : base ≤ w.heap.size)
    (h : ∀ sa' cap' w', Mine w' base e sa' (n + m) cap' (cat z n y) → w.grownBy w' (Value.slice sa n cap).ownBlock → (sa' = none → n + m = 0) → wpList P ops Q rest (a.put o.dst (.slice sa' (n + m) cap')) w') :
    wpList P ops Q (o :: rest) a w := by
  have fin : ∀ v' w', w'.ownsRow base e 1 v' (n + m) (Bs n z ++ Bs m y) → w.grownBy w' (Value.slice sa n cap).ownBlock → wpList P ops Q rest (a.put o.dst v') w' := by
    intro v' w' hown' hg
    rw [Bs_cat] at hown'
    rcases hown'.2 with ⟨rfl, h0⟩ | ⟨g, cap', cur, rfl, _⟩
    · have hM : Mine w' base e none (n + m) 0 (cat z n y) := by unfold Mine; rw [h0] at hown' ⊢; exact hown'
      have := h none 0 w' hM hg (fun _ => h0)
      rw [h0] at this; exact this
    · exact h _ cap' w' hown' hg (fun h => by cases h)
  have hml : n + m ≤ maxLen := by unfold maxLen; omega
  cases xa with
  | some ad =>
    refine wpList_append_own w hgd s x t ho base e i (.int .u8 0) 1 1 ht hi hz hsize hby rfl (by decide) _ n (Bs n z) hs hown ad m c (Bs m y) hx (by simp [Bs_length]) ?_ ?_ hml (by omega) hbase (fun v' w' h1 h2 _ => fin v' w' h1 h2)
    · intro j u hj
      have hjm : j < m := by have := (List.getElem?_eq_some_iff.1 hj).1; rwa [Bs_length] at this
      rw [Bs_get _ _ _ hjm] at hj
      rcases hr with h0 | ⟨b, off, he, hseg⟩
      · omega
      · injection he with he; subst he
        have := hseg j hjm
        rw [← hj, ← this]
        unfold Addr.add; split
        · next h => subst h; rfl
        · rfl
    · intro u hu
      obtain ⟨k, _, rfl⟩ := List.mem_map.1 hu
      rfl
  | none =>
    have h0 : m = 0 := by
      rcases hr with h0 | ⟨b, off, he, _⟩
      · exact h0
      · cases he
    have hc0 := hc rfl
    subst h0 hc0
    refine wpList_append_own_none hgd s x t ho base e i 1 ht hi _ n (Bs n z) hs hown hx (fin _ _ ?_ ?_)
    · rw [show Bs 0 y = [] from rfl, List.append_nil]; exact hown
    · exact ⟨rfl, rfl, rfl, Nat.le_refl _, fun _ _ _ => rfl⟩

/-- the bytes of a list -/
def lz (l : List Int) : Nat → Int := fun i => l.getD i 0
theorem byt_lz (l : List Int) (h : l.all (fun x => decide (0 ≤ x ∧ x < 256)) = true) : Byt (lz l) := by
  intro i
  unfold lz
  by_cases hi : i < l.length
  · rw [List.getD_eq_getElem?_getD, List.getElem?_eq_getElem hi]
    have := List.all_eq_true.1 h _ (List.getElem_mem hi)
    simpa using this
  · rw [List.getD_eq_getElem?_getD, List.getElem?_eq_none (by omega)]
    exact ⟨by simp, by simp⟩

/-- what a slice of bytes that came in is -/
theorem row_of {w : World} {a : Option Addr} {len cap : Nat} {zs : List Int}
    (h : (a = none ∧ len = 0 ∧ cap = 0 ∧ zs = []) ∨ ∃ x, a = some x ∧ len ≤ cap ∧ cap ≤ maxLen ∧ zs.length = cap ∧ (∀ i, i < zs.length → w.cell? (x.add i) = some (.int .u8 (zs.getD i 0))) ∧ ∀ n ∈ zs, (Lit.int .u8 n).wf = true) :
    ∃ z, Row w a len z ∧ Byt z ∧ (len : Int) ≤ 9223372036854775807 ∧ (a = none → cap = 0) ∧ ∀ x, a = some x → 0 < len → x.block < w.heap.size := by
  rcases h with ⟨rfl, rfl, rfl, rfl⟩ | ⟨x, rfl, hl, hm, hz, hcell, hwz⟩
  · exact ⟨fun _ => 0, .inl rfl, fun _ => ⟨by simp, by simp⟩, by omega, fun _ => rfl, fun x hx => by cases hx⟩
  · refine ⟨fun i => zs.getD i 0, ?_, ?_, ?_, (fun h => by cases h), ?_⟩
    · by_cases h0 : len = 0
      · exact .inl h0
      · obtain ⟨b, off, spot⟩ := x
        have hc := hcell 0 (by omega)
        have hspot : spot = none := by simpa [Addr.add] using World.cell?_spot hc
        subst hspot
        refine .inr ⟨b, off, rfl, fun i hi => ?_⟩
        have := hcell i (by omega)
        rw [← this]; unfold Addr.add; split
        · next h => subst h; rfl
        · rfl
    · intro i
      show 0 ≤ zs.getD i 0 ∧ zs.getD i 0 < 256
      by_cases hi : i < zs.length
      · have := hwz (zs.getD i 0) (by rw [List.getD_eq_getElem?_getD, List.getElem?_eq_getElem hi]; exact List.getElem_mem _)
        have := bounds_u8 this
        omega
      · have : zs.getD i 0 = 0 := by rw [List.getD_eq_getElem?_getD, List.getElem?_eq_none (by omega)]; rfl
        rw [this]; omega
    · have : maxLen = 9223372036854775807 := rfl
      omega
    · intro y hy h0
      injection hy with hy; subst hy
      have hc := hcell 0 (by omega)
      have := World.block_lt_of_cell? w _ hc
      simpa [Addr.add] using this
end Go.Proofs.YtnbmmhoofilmfaaDoor

/- The sum of bytes, by definition and by the table of four shifts at once; that it tells bytes apart. No program in sight. -/
namespace Go.Proofs.YtnbmmhoofilmfaaDoor
set_option linter.unusedVariables false

/-- a number, shifted by a bit -/
def shN (v : Nat) : Nat := if v % 2 = 1 then (v / 2) ^^^ 3988292384 else v / 2
def tabN : List Nat := [0, 498536548, 997073096, 651767980, 1994146192, 1802195444, 1303535960, 1342533948, 3988292384, 4027552580, 3604390888, 3412177804, 2607071920, 2262029012, 2685067896, 3183342108]
/-- four shifts by the table -/
def nibN (v : Nat) : Nat := (v / 16) ^^^ tabN.getD (v % 16) 0
def sh4 (v : Nat) : Nat := shN (shN (shN (shN v)))
def sh8 (v : Nat) : Nat := sh4 (sh4 v)
/-- a byte goes into the sum -/
def stepN (v x : Nat) : Nat := sh8 (v ^^^ x)
/-- n bytes -/
def foldN (v : Nat) (z : Nat → Int) : Nat → Nat
  | 0 => v
  | n + 1 => stepN (foldN v z n) (z n).toNat
/-- the sum of n bytes -/
def crcZ (z : Nat → Int) (n : Nat) : Int := ((4294967295 - foldN 4294967295 z n : Nat) : Int)
/-- m rows of bytes, one behind the other -/
def foldP (v : Nat) (pl : Nat → Nat) (pz : Nat → Nat → Int) : Nat → Nat
  | 0 => v
  | k + 1 => foldN (foldP v pl pz k) (pz k) (pl k)

theorem xor_half (a b : Nat) : (a ^^^ b) / 2 = (a / 2) ^^^ (b / 2) := Nat.xor_div_two
theorem xor_odd (a b : Nat) : (a ^^^ b) % 2 = (a % 2 + b % 2) % 2 := by
  have h := @Nat.xor_mod_two_eq_one a b
  have : a % 2 < 2 := Nat.mod_lt _ (by omega)
  have : b % 2 < 2 := Nat.mod_lt _ (by omega)
  have : (a ^^^ b) % 2 < 2 := Nat.mod_lt _ (by omega)
  by_cases ha : a % 2 = 1 <;> by_cases hb : b % 2 = 1
  · have : ¬ (a ^^^ b) % 2 = 1 := fun k => (h.1 k) (by simp [ha, hb])
    omega
  · have : (a ^^^ b) % 2 = 1 := h.2 (by simp [ha, hb])
    omega
  · have : (a ^^^ b) % 2 = 1 := h.2 (by simp [ha, hb])
    omega
  · have : ¬ (a ^^^ b) % 2 = 1 := fun k => (h.1 k) (by simp [ha, hb])
    omega
theorem shN_xor (a b : Nat) : shN (a ^^^ b) = shN a ^^^ shN b := by
  unfold shN
  rw [xor_odd, xor_half]
  have : a % 2 < 2 := Nat.mod_lt _ (by omega)
  have : b % 2 < 2 := Nat.mod_lt _ (by omega)
  by_cases ha : a % 2 = 1 <;> by_cases hb : b % 2 = 1
  · rw [if_neg (by omega), if_pos ha, if_pos hb, Nat.xor_assoc, Nat.xor_comm (b / 2), ← Nat.xor_assoc 3988292384, Nat.xor_self, Nat.zero_xor]
  · rw [if_pos (by omega), if_pos ha, if_neg hb, Nat.xor_assoc, Nat.xor_comm (b / 2), ← Nat.xor_assoc]
  · rw [if_pos (by omega), if_neg ha, if_pos hb, Nat.xor_assoc]
  · rw [if_neg (by omega), if_neg ha, if_neg hb]
theorem sh4_xor (a b : Nat) : sh4 (a ^^^ b) = sh4 a ^^^ sh4 b := by unfold sh4; rw [shN_xor, shN_xor, shN_xor, shN_xor]
theorem sh8_xor (a b : Nat) : sh8 (a ^^^ b) = sh8 a ^^^ sh8 b := by unfold sh8; rw [sh4_xor, sh4_xor]
theorem split16 (q r : Nat) (hr : r < 16) : 16 * q + r = (16 * q) ^^^ r := by
  refine Nat.eq_of_testBit_eq fun j => ?_
  have h1 := Nat.testBit_two_pow_mul_add q (b := r) (i := 4) hr j
  have h2 := Nat.testBit_two_pow_mul_add q (b := 0) (i := 4) (by omega) j
  rw [show (2 : Nat) ^ 4 = 16 from rfl] at h1 h2
  rw [Nat.add_zero] at h2
  rw [Nat.testBit_xor, h1, h2]
  by_cases hj : j < 4
  · rw [if_pos hj, if_pos hj, Nat.zero_testBit, Bool.false_xor]
  · rw [if_neg hj, if_neg hj, Nat.testBit_lt_two_pow (x := r) (i := j) (Nat.lt_of_lt_of_le hr (by rw [show (16 : Nat) = 2 ^ 4 from rfl]; exact Nat.pow_le_pow_right (by omega) (by omega))), Bool.xor_false]
theorem shN_even (q : Nat) : shN (2 * q) = q := by unfold shN; rw [if_neg (by omega)]; omega
theorem sh4_16 (q : Nat) : sh4 (16 * q) = q := by
  unfold sh4
  rw [show 16 * q = 2 * (2 * (2 * (2 * q))) by omega, shN_even, shN_even, shN_even, shN_even]
theorem sh4_tab : ∀ r, r < 16 → sh4 r = tabN.getD r 0 := by decide
theorem nib_sh4 (v : Nat) : nibN v = sh4 v := by
  have h := split16 (v / 16) (v % 16) (Nat.mod_lt _ (by omega))
  rw [Nat.div_add_mod] at h
  rw [h, sh4_xor, sh4_16, sh4_tab _ (Nat.mod_lt _ (by omega)), ← h]
  rfl
theorem xor_lt {a b : Nat} (n : Nat) (ha : a < 2 ^ n) (hb : b < 2 ^ n) : a ^^^ b < 2 ^ n := Nat.xor_lt_two_pow ha hb
theorem shN_lt {v : Nat} (h : v < 4294967296) : shN v < 4294967296 := by
  unfold shN
  split
  · exact xor_lt 32 (a := v / 2) (b := 3988292384) (by omega) (by decide)
  · omega
theorem sh4_lt {v : Nat} (h : v < 4294967296) : sh4 v < 4294967296 := shN_lt (shN_lt (shN_lt (shN_lt h)))
theorem sh8_lt {v : Nat} (h : v < 4294967296) : sh8 v < 4294967296 := sh4_lt (sh4_lt h)
theorem stepN_lt {v x : Nat} (h : v < 4294967296) (hx : x < 256) : stepN v x < 4294967296 := sh8_lt (xor_lt 32 h (by omega))
theorem foldN_lt {v : Nat} {z : Nat → Int} (hv : v < 4294967296) (hz : Byt z) (n : Nat) : foldN v z n < 4294967296 := by
  induction n with
  | zero => exact hv
  | succ n ih => exact stepN_lt ih (by have := hz n; omega)
theorem foldP_lt {v : Nat} {pl : Nat → Nat} {pz : Nat → Nat → Int} (hv : v < 4294967296) (hz : ∀ k, Byt (pz k)) (m : Nat) : foldP v pl pz m < 4294967296 := by
  induction m with
  | zero => exact hv
  | succ m ih => exact foldN_lt ih (hz m) _
theorem foldN_congr {v : Nat} {z y : Nat → Int} {n : Nat} (h : ∀ i, i < n → z i = y i) : foldN v z n = foldN v y n := by
  induction n with
  | zero => rfl
  | succ n ih => show stepN _ _ = stepN _ _; rw [ih fun i hi => h i (by omega), h n (by omega)]
theorem crcZ_bd (z : Nat → Int) (n : Nat) : 0 ≤ crcZ z n ∧ crcZ z n < 4294967296 := by unfold crcZ; omega
theorem crcZ_congr {z y : Nat → Int} {n : Nat} (h : ∀ i, i < n → z i = y i) : crcZ z n = crcZ y n := by unfold crcZ; rw [foldN_congr h]
theorem xor_cancel {a b c : Nat} (h : a ^^^ b = a ^^^ c) : b = c := by
  have : a ^^^ (a ^^^ b) = a ^^^ (a ^^^ c) := by rw [h]
  rwa [← Nat.xor_assoc, ← Nat.xor_assoc, Nat.xor_self, Nat.zero_xor, Nat.zero_xor] at this
theorem xor_zero {a b : Nat} (h : a ^^^ b = 0) : a = b := (xor_cancel (h.trans (Nat.xor_self a).symm)).symm
/-- shifting tells numbers apart -/
theorem shN_zero {u : Nat} (hu : u < 4294967296) (h : shN u = 0) : u = 0 := by
  unfold shN at h
  split at h
  · have : u / 2 = 3988292384 := xor_zero h
    omega
  · omega
theorem shN_inj {v w : Nat} (hv : v < 4294967296) (hw : w < 4294967296) (h : shN v = shN w) : v = w := by
  have : shN (v ^^^ w) = 0 := by rw [shN_xor, h, Nat.xor_self]
  exact xor_zero (shN_zero (xor_lt 32 hv hw) this)
theorem sh4_inj {v w : Nat} (hv : v < 4294967296) (hw : w < 4294967296) (h : sh4 v = sh4 w) : v = w := by
  unfold sh4 at h
  exact shN_inj hv hw (shN_inj (shN_lt hv) (shN_lt hw) (shN_inj (shN_lt (shN_lt hv)) (shN_lt (shN_lt hw)) (shN_inj (shN_lt (shN_lt (shN_lt hv))) (shN_lt (shN_lt (shN_lt hw))) h)))
theorem sh8_inj {v w : Nat} (hv : v < 4294967296) (hw : w < 4294967296) (h : sh8 v = sh8 w) : v = w := sh4_inj hv hw (sh4_inj (sh4_lt hv) (sh4_lt hw) h)
theorem stepN_byte {v x y : Nat} (hv : v < 4294967296) (hx : x < 256) (hy : y < 256) (h : stepN v x = stepN v y) : x = y :=
  xor_cancel (sh8_inj (xor_lt 32 hv (by omega)) (xor_lt 32 hv (by omega)) h)
theorem stepN_state {v u x : Nat} (hv : v < 4294967296) (hu : u < 4294967296) (hx : x < 256) (h : stepN v x = stepN u x) : v = u := by
  have h1 := sh8_inj (xor_lt 32 hv (by omega)) (xor_lt 32 hu (by omega)) h
  rw [Nat.xor_comm v, Nat.xor_comm u] at h1
  exact xor_cancel h1
theorem foldN_state {v u : Nat} {z : Nat → Int} (hv : v < 4294967296) (hu : u < 4294967296) (hz : Byt z) {n : Nat} (h : foldN v z n = foldN u z n) : v = u := by
  induction n with
  | zero => exact h
  | succ n ih => exact ih (stepN_state (foldN_lt hv hz n) (foldN_lt hu hz n) (by have := hz n; omega) h)
/-- one byte otherwise: another sum -/
theorem foldN_one {v : Nat} {z y : Nat → Int} (hv : v < 4294967296) (hz : Byt z) (hy : Byt y) {n j : Nat} (hj : j < n) (hne : z j ≠ y j) (heq : ∀ i, i < n → i ≠ j → z i = y i) : foldN v z n ≠ foldN v y n := by
  induction n with
  | zero => omega
  | succ n ih =>
    intro h
    have h : stepN (foldN v z n) (z n).toNat = stepN (foldN v y n) (y n).toNat := h
    have b1 := hz n
    have b2 := hy n
    by_cases e : j = n
    · subst e
      rw [foldN_congr (z := z) (y := y) fun i hi => heq i (by omega) (by omega)] at h
      have := stepN_byte (foldN_lt hv hy j) (by omega) (by omega) h
      exact hne (by omega)
    · rw [heq n (by omega) (by omega)] at h
      exact ih (by omega) (fun i hi hij => heq i (by omega) hij) (stepN_state (foldN_lt hv hz n) (foldN_lt hv hy n) (by omega) h)
theorem crcZ_one {z y : Nat → Int} (hz : Byt z) (hy : Byt y) {n j : Nat} (hj : j < n) (hne : z j ≠ y j) (heq : ∀ i, i < n → i ≠ j → z i = y i) : crcZ z n ≠ crcZ y n := by
  intro h
  have h1 := foldN_lt (v := 4294967295) (by omega) hz n
  have h2 := foldN_lt (v := 4294967295) (by omega) hy n
  unfold crcZ at h
  exact foldN_one (v := 4294967295) (by omega) hz hy hj hne heq (by omega)
/-- the sum of 252 noughts isn't nought -/
theorem crc_noughts : crcZ (fun _ => 0) 252 ≠ 0 := by
  have : foldN 4294967295 (fun _ => 0) 252 ≠ 4294967295 := by decide +kernel
  unfold crcZ
  have h2 := foldN_lt (v := 4294967295) (z := fun _ => 0) (by omega) (fun _ => ⟨Int.le_refl 0, (by decide : (0 : Int) < 256)⟩) 252
  omega
end Go.Proofs.YtnbmmhoofilmfaaDoor
