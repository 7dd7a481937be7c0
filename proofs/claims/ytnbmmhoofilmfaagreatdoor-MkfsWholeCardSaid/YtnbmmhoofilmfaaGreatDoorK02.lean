/- Texts of this claim, merged by a program (a claim may have 60 files): Own, Ref1, NumsAny, More, AppendB, PutsIf, Slice. -/
import Derived.Test.YtnbmmhoofilmfaaGreatDoorK01
import Derived.WalkKit
import Derived.OwnWalk
import Derived.OpenShut
import Derived.Laws.AppendOwnNone
/- Rows of bytes that a call has made itself: append onto them, read and write them. No program in sight. -/
namespace Go.Proofs.YtnbmmhoofilmfaaGreatDoor
open Go.RowKit
set_option linter.unusedVariables false

/-- n bytes as values -/
def Bs (n : Nat) (z : Nat → Int) : List Value := (List.range n).map fun i => .int .u8 (z i)
theorem Bs_length (n : Nat) (z : Nat → Int) : (Bs n z).length = n := by simp [Bs]
theorem Bs_get (n : Nat) (z : Nat → Int) (i : Nat) (h : i < n) : (Bs n z)[i]? = some (.int .u8 (z i)) := by simp [Bs, h]
/-- y behind the first n of z -/
def cat (z : Nat → Int) (n : Nat) (y : Nat → Int) : Nat → Int := fun i => if i < n then z i else y (i - n)
theorem Bs_cat (n m : Nat) (z y : Nat → Int) : Bs n z ++ Bs m y = Bs (n + m) (cat z n y) := by
  apply List.ext_getElem?
  intro i
  by_cases h : i < n
  · rw [List.getElem?_append_left (by rw [Bs_length]; exact h), Bs_get _ _ _ h, Bs_get _ _ _ (by omega)]; simp [cat, h]
  · rw [List.getElem?_append_right (by rw [Bs_length]; omega), Bs_length]
    by_cases h2 : i - n < m
    · rw [Bs_get _ _ _ h2, Bs_get _ _ _ (by omega)]; simp [cat, h]
    · rw [List.getElem?_eq_none (by rw [Bs_length]; omega), List.getElem?_eq_none (by rw [Bs_length]; omega)]
theorem Bs_congr {n : Nat} {z y : Nat → Int} (h : ∀ i, i < n → z i = y i) : Bs n z = Bs n y := by
  unfold Bs; apply List.map_congr_left; intro i hi; rw [h i (by simpa using hi)]
/-- a slice of n bytes z in memory of one's own (from the block base on) -/
def Mine (w : World) (base : Nat) (e : TypeId) (sa : Option Addr) (n cap : Nat) (z : Nat → Int) : Prop := w.ownsRow base e 1 (.slice sa n cap) n (Bs n z)

theorem Mine.parts {w : World} {base : Nat} {e : TypeId} {sa : Option Addr} {n cap : Nat} {z : Nat → Int} (h : Mine w base e sa n cap z) :
    (sa = none ∧ n = 0 ∧ cap = 0) ∨ ∃ g, sa = some ⟨g, 0, none⟩ ∧ base ≤ g ∧ g < w.heap.size ∧ n ≤ cap ∧ Seg w g 0 n z ∧ Soft w g 0 cap := by
  rcases h.2 with ⟨hv, h0⟩ | ⟨g, cap', cur, hv, hb, hg, hn, hc, hs, ht⟩
  · injection hv with h1 h2 h3; exact .inl ⟨h1, h0, h3⟩
  · injection hv with h1 h2 h3
    subst h1 h3
    have hlt := (Array.getElem?_eq_some_iff.1 hg).1
    refine .inr ⟨g, rfl, hb, hlt, hn, ?_, ?_⟩
    · intro i hi
      have := Bs_get n z i hi
      rw [← ht, List.getElem?_take_of_lt (by omega)] at this
      simp [World.cell?, hg]; simpa using this
    · intro i hi; simp [World.frozen?, hg]
theorem Mine.row {w : World} {base : Nat} {e : TypeId} {sa : Option Addr} {n cap : Nat} {z : Nat → Int} (h : Mine w base e sa n cap z) : Row w sa n z := by
  rcases h.parts with ⟨_, h0, _⟩ | ⟨g, rfl, _, _, _, hs, _⟩
  · exact .inl h0
  · exact .inr ⟨g, 0, rfl, hs⟩
theorem Mine.le {w : World} {base : Nat} {e : TypeId} {sa : Option Addr} {n cap : Nat} {z : Nat → Int} (h : Mine w base e sa n cap z) : ∀ x, sa = some x → base ≤ x.block ∧ x.block < w.heap.size := by
  intro x hx
  rcases h.parts with ⟨h0, _⟩ | ⟨g, h1, hb, hl, _⟩
  · rw [h0] at hx; cases hx
  · rw [h1] at hx; cases hx; exact ⟨hb, hl⟩
theorem Mine.drewN {w : World} {base : Nat} {e : TypeId} {sa : Option Addr} {n cap : Nat} {z : Nat → Int} (h : Mine w base e sa n cap z) (m : Nat) : Mine (w.drewN m) base e sa n cap z := h
theorem Mine.congr {w : World} {base : Nat} {e : TypeId} {sa : Option Addr} {n cap : Nat} {z y : Nat → Int} (h : Mine w base e sa n cap z) (hy : ∀ i, i < n → z i = y i) : Mine w base e sa n cap y := by
  unfold Mine; rw [← Bs_congr hy]; exact h
theorem Mine.nil (w : World) (base : Nat) (e : TypeId) (z : Nat → Int) : Mine w base e none 0 0 z := World.ownsRow_nil w base e 1
theorem Mine.made (w : World) (base : Nat) (e : TypeId) (z : Nat → Int) (hb : base ≤ w.heap.size) : Mine (w.alloc (.cells #[] e)) base e (some ⟨w.heap.size, 0, none⟩) 0 0 z :=
  World.ownsRow_made (cur := #[]) (cap := 0) w (base := base) (e := e) (size := 1) hb (by unfold maxLen; omega) (by simp)
/-- append of a row of bytes onto a row of one's own -/
theorem wpList_append_bytes {P : Program} {w : World} {ops : Array Oper} {rest : List Oper} {o : Oper} {a : Act} {Q : Exit → Act → World → Prop} (hgd : o.guard = none) (s x : Operand) (t : TypeId)
    (ho : o.op = .call { callee := .builtin .append, args := #[s, x], argTypes := #[t, t] })
    (base : Nat) (e : TypeId) (i : TypeInfo) (ht : P.underlying t = some (.slice e)) (hi : P.info? e = some i) (hz : i.zero = some (.int .u8 0)) (hsize : i.size = 1) (hby : i.bytes = 1)
    (sa : Option Addr) (n cap : Nat) (z : Nat → Int) (hs : a.eval s = .slice sa n cap) (hown : Mine w base e sa n cap z)
    (xa : Option Addr) (m c : Nat) (y : Nat → Int) (hx : a.eval x = .slice xa m c) (hc : xa = none → c = 0) (hr : Row w xa m y)
    (hm : n + m ≤ 140737488355328) (hbase : base ≤ w.heap.size)
    (h : ∀ sa' cap' w', Mine w' base e sa' (n + m) cap' (cat z n y) → w.grownBy w' (Value.slice sa n cap).ownBlock → (sa' = none → n + m = 0) → wpList P ops Q rest (a.put o.dst (.slice sa' (n + m) cap')) w') :
    wpList P ops Q (o :: rest) a w := by
  have fin : ∀ v' w', w'.ownsRow base e 1 v' (n + m) (Bs n z ++ Bs m y) → w.grownBy w' (Value.slice sa n cap).ownBlock → wpList P ops Q rest (a.put o.dst v') w' := by
    intro v' w' hown' hg
    rw [Bs_cat] at hown'
    rcases hown'.2 with ⟨rfl, h0⟩ | ⟨g, cap', cur, rfl, _⟩
    · have hM : Mine w' base e none (n + m) 0 (cat z n y) := by unfold Mine; rw [h0] at hown' ⊢; exact hown'
      have := h none 0 w' hM hg (fun _ => h0)
      rw [h0] at this; exact this
    · exact h _ cap' w' hown' hg (fun h => by cases h)
  have hml : n + m ≤ maxLen := by unfold maxLen; omega
  cases xa with
  | some ad =>
    refine wpList_append_own w hgd s x t ho base e i (.int .u8 0) 1 1 ht hi hz hsize hby rfl (by decide) _ n (Bs n z) hs hown ad m c (Bs m y) hx (by simp [Bs_length]) ?_ ?_ hml (by omega) hbase (fun v' w' h1 h2 _ => fin v' w' h1 h2)
    · intro j u hj
      have hjm : j < m := by have := (List.getElem?_eq_some_iff.1 hj).1; rwa [Bs_length] at this
      rw [Bs_get _ _ _ hjm] at hj
      rcases hr with h0 | ⟨b, off, he, hseg⟩
      · omega
      · injection he with he; subst he
        have := hseg j hjm
        rw [← hj, ← this]
        unfold Addr.add; split
        · next h => subst h; rfl
        · rfl
    · intro u hu
      obtain ⟨k, _, rfl⟩ := List.mem_map.1 hu
      rfl
  | none =>
    have h0 : m = 0 := by
      rcases hr with h0 | ⟨b, off, he, _⟩
      · exact h0
      · cases he
    have hc0 := hc rfl
    subst h0 hc0
    refine wpList_append_own_none hgd s x t ho base e i 1 ht hi _ n (Bs n z) hs hown hx (fin _ _ ?_ ?_)
    · rw [show Bs 0 y = [] from rfl, List.append_nil]; exact hown
    · exact ⟨rfl, rfl, rfl, Nat.le_refl _, fun _ _ _ => rfl⟩

end Go.Proofs.YtnbmmhoofilmfaaGreatDoor

/- Contracts of quernref01: what each function returns, and what it leaves in memory. -/
namespace Go.Proofs.YtnbmmhoofilmfaaGreatDoor
open Go.RowKit
set_option linter.unusedVariables false

end Go.Proofs.YtnbmmhoofilmfaaGreatDoor

/- The contracts of nums and quernref01 at any slice of bytes and any place. -/
namespace Go.Proofs.YtnbmmhoofilmfaaGreatDoor
open Go.RowKit
set_option linter.unusedVariables false

/-- do n bytes lie at a place of len? -/
def fits (n len : Nat) (at' : Int) : Bool := decide (0 ≤ at' ∧ at' + n ≤ len)
def o32 (z : Nat → Int) (len : Nat) (at' : Int) : Int := if fits 4 len at' then g32 z at'.toNat else 0
theorem fits_yes {n len : Nat} {at' : Int} (h : 0 ≤ at' ∧ at' + n ≤ len) : fits n len at' = true := by simp [fits, h]
theorem fits_no {n len : Nat} {at' : Int} (h : ¬ (0 ≤ at' ∧ at' + n ≤ len)) : fits n len at' = false := by simp [fits]; omega
theorem Row.at {w : World} {a : Option Addr} {n : Nat} {z : Nat → Int} (h : Row w a n z) (h0 : 0 < n) : ∃ b off, a = some ⟨b, off, none⟩ ∧ Seg w b off n z := by
  rcases h with h | h
  · omega
  · exact h
theorem Row.below {w w' : World} {a : Option Addr} {n : Nat} {z : Nat → Int} (h : Row w a n z) {B : Nat} (hb : Below B w w') (hB : w.heap.size ≤ B) : Row w' a n z := by
  rcases h with h | ⟨b, off, rfl, hs⟩
  · exact .inl h
  · refine .inr ⟨b, off, rfl, fun i hi => ?_⟩
    have := World.block_lt_of_cell? w _ (hs i hi)
    rw [hb.cell (p := ⟨b, off + i, none⟩) (by simp at this ⊢; omega)]; exact hs i hi
theorem Row.drewN {w : World} {a : Option Addr} {n : Nat} {z : Nat → Int} (h : Row w a n z) (m : Nat) : Row (w.drewN m) a n z := h
theorem get32_any (a : Option Addr) (len cap : Nat) (at' : Int) (z : Nat → Int) (w : World) (hl : (len : Int) ≤ 9223372036854775807) (hs : Row w a len z) (hz : Byt z) :
    Calls Tryz.prog 59 #[.slice a len cap, .int .i64 at'] w fun e w' => e = .returned (.tuple #[.int .u32 (o32 z len at'), .bool (fits 4 len at')]) ∧ w = w' := by
  by_cases h : 0 ≤ at' ∧ at' + 4 ≤ len
  · obtain ⟨b, off, rfl, hs2⟩ := hs.at (by omega); clear hs; have hs := hs2; clear hs2
    rw [o32, fits_yes h, if_pos rfl]
    exact get32_yes b off len cap at' z w hl h.1 h.2 hs hz
  · rw [o32, fits_no h]
    exact get32_no a len cap at' w hl h
end Go.Proofs.YtnbmmhoofilmfaaGreatDoor

/- More plain words on rows of bytes. -/
namespace Go.Proofs.YtnbmmhoofilmfaaGreatDoor
open Go.RowKit
theorem Seg.alloc {w : World} {b off n : Nat} {z : Nat → Int} (h : Seg w b off n z) (o : Obj) : Seg (w.alloc o) b off n z := by
  intro i hi
  have h1 := h i hi
  have := World.block_lt_of_cell? w _ h1
  rw [World.cell?_of_block (w := w) (Below.heap_alloc w o b this)]; exact h1
theorem Row.alloc {w : World} {a : Option Addr} {n : Nat} {z : Nat → Int} (h : Row w a n z) (o : Obj) : Row (w.alloc o) a n z := by
  rcases h with h | ⟨b, off, rfl, hs⟩
  · exact .inl h
  · exact .inr ⟨b, off, rfl, hs.alloc o⟩
theorem Seg.lt {w : World} {b off n : Nat} {z : Nat → Int} (h : Seg w b off n z) (h0 : 0 < n) : b < w.heap.size := World.block_lt_of_cell? w _ (h 0 h0)
theorem Seg.below {w w' : World} {b off n : Nat} {z : Nat → Int} (h : Seg w b off n z) {B : Nat} (hb : Below B w w') (hB : b < B) : Seg w' b off n z :=
  fun i hi => (hb.cell (p := ⟨b, off + i, none⟩) hB).trans (h i hi)
theorem Soft.below {w w' : World} {b off n : Nat} (h : Soft w b off n) {B : Nat} (hb : Below B w w') (hB : b < B) : Soft w' b off n :=
  fun i hi => (hb.frozen (p := ⟨b, off + i, none⟩) hB).trans (h i hi)

theorem Row.take {w : World} {a : Option Addr} {n : Nat} {z : Nat → Int} (h : Row w a n z) (m : Nat) (hm : m ≤ n) : Row w a m z := by
  rcases h with h | ⟨b, off, rfl, hs⟩
  · exact .inl (by omega)
  · exact .inr ⟨b, off, rfl, hs.take m hm⟩
theorem byteOf_sum2 (v : Int) (h0 : 0 ≤ v) (h1 : v < 65536) : byteOf v 0 + 256 * byteOf v 1 = v := by
  rw [byteOf_succ, byteOf_zero, byteOf_zero]; omega
theorem byteOf_sum4 (v : Int) (h0 : 0 ≤ v) (h1 : v < 4294967296) : byteOf v 0 + 256 * byteOf v 1 + 65536 * byteOf v 2 + 16777216 * byteOf v 3 = v := by
  rw [byteOf_succ v 2, byteOf_succ (v / 256) 1, byteOf_succ v 1, byteOf_succ (v / 256) 0, byteOf_succ (v / 256 / 256) 0, byteOf_succ v 0]
  simp only [byteOf_zero]; omega
/-- what was put is got -/
theorem g32_over (z : Nat → Int) (k : Nat) (v : Int) (h0 : 0 ≤ v) (h1 : v < 4294967296) : g32 (over z k 4 (byteOf v)) k = v := by
  unfold g32 over
  rw [if_pos (by omega), if_pos (by omega), if_pos (by omega), if_pos (by omega), Nat.sub_self, show k + 1 - k = 1 by omega, show k + 2 - k = 2 by omega, show k + 3 - k = 3 by omega]
  exact byteOf_sum4 v h0 h1
/-- a number's halves -/
theorem g32_halves (z : Nat → Int) (k : Nat) : g32 z k = g16 z k + 65536 * g16 z (k + 2) := by unfold g32 g16; rw [show k + 2 + 1 = k + 3 from rfl]; omega
/-- elsewhere nothing is changed -/
theorem over_out (z : Nat → Int) (k n i : Nat) (f : Nat → Int) (h : i < k ∨ k + n ≤ i) : over z k n f i = z i := by unfold over; rw [if_neg (by omega)]
theorem over_in (z : Nat → Int) (k n i : Nat) (f : Nat → Int) (h : k ≤ i ∧ i < k + n) : over z k n f i = f (i - k) := by unfold over; rw [if_pos h]
theorem g32_out (z : Nat → Int) (k n i : Nat) (f : Nat → Int) (h : i + 4 ≤ k ∨ k + n ≤ i) : g32 (over z k n f) i = g32 z i := by
  unfold g32
  rw [over_out z k n i f (by omega), over_out z k n (i + 1) f (by omega), over_out z k n (i + 2) f (by omega), over_out z k n (i + 3) f (by omega)]
theorem g16_out (z : Nat → Int) (k n i : Nat) (f : Nat → Int) (h : i + 2 ≤ k ∨ k + n ≤ i) : g16 (over z k n f) i = g16 z i := by
  unfold g16
  rw [over_out z k n i f (by omega), over_out z k n (i + 1) f (by omega)]
theorem byteOf_g32 (z : Nat → Int) (hz : Byt z) (k i : Nat) (hi : i < 4) : byteOf (g32 z k) i = z (k + i) := by
  have h0 := hz k; have h1 := hz (k + 1); have h2 := hz (k + 2); have h3 := hz (k + 3)
  obtain rfl | rfl | rfl | rfl : i = 0 ∨ i = 1 ∨ i = 2 ∨ i = 3 := by omega
  · rw [byteOf_zero, Nat.add_zero]; unfold g32; omega
  · rw [byteOf_succ, byteOf_zero]; unfold g32; omega
  · rw [byteOf_succ, byteOf_succ, byteOf_zero]; unfold g32; omega
  · rw [byteOf_succ, byteOf_succ, byteOf_succ, byteOf_zero]; unfold g32; omega
theorem byteOf_g16 (z : Nat → Int) (hz : Byt z) (k i : Nat) (hi : i < 2) : byteOf (g16 z k) i = z (k + i) := by
  have h0 := hz k; have h1 := hz (k + 1)
  obtain rfl | rfl : i = 0 ∨ i = 1 := by omega
  · rw [byteOf_zero, Nat.add_zero]; unfold g16; omega
  · rw [byteOf_succ, byteOf_zero]; unfold g16; omega
end Go.Proofs.YtnbmmhoofilmfaaGreatDoor

/- append of bytes onto a row of bytes of one's own, in this program's own numbers. -/
namespace Go.Proofs.YtnbmmhoofilmfaaGreatDoor
open Go.RowKit
theorem info8 : (Tryz.prog.info? 5).map (fun i => (i.zero, i.size, i.bytes)) = some (some (.int .u8 0), 1, 1) := by kernel_rfl
theorem wp_appendB {w : World} {ops : Array Oper} {rest : List Oper} {o : Oper} {a : Act} {Q : Exit → Act → World → Prop} (hgd : o.guard = none) (s x : Operand)
    (ho : o.op = .call { callee := .builtin .append, args := #[s, x], argTypes := #[128, 128] }) (base : Nat)
    (sa : Option Addr) (n cap : Nat) (z : Nat → Int) (hs : a.eval s = .slice sa n cap) (hown : Mine w base 5 sa n cap z)
    (xa : Option Addr) (m c : Nat) (y : Nat → Int) (hx : a.eval x = .slice xa m c) (hc : xa = none → c = 0) (hr : Row w xa m y)
    (hm : n + m ≤ 140737488355328) (hbase : base ≤ w.heap.size)
    (h : ∀ sa' cap' w', Mine w' base 5 sa' (n + m) cap' (cat z n y) → w.grownBy w' (Value.slice sa n cap).ownBlock → (sa' = none → n + m = 0) → wpList Tryz.prog ops Q rest (a.put o.dst (.slice sa' (n + m) cap')) w') :
    wpList Tryz.prog ops Q (o :: rest) a w := by
  obtain ⟨i0, hi, hz0, hz1, hz2⟩ := info_parts info8
  exact wpList_append_bytes hgd s x _ ho base _ i0 Tryz.underlying128 hi hz0 hz1 hz2 sa n cap z hs hown xa m c y hx hc hr hm hbase h
end Go.Proofs.YtnbmmhoofilmfaaGreatDoor

/- What a put leaves, of any rows. -/
namespace Go.Proofs.YtnbmmhoofilmfaaGreatDoor
open Go.RowKit
end Go.Proofs.YtnbmmhoofilmfaaGreatDoor

/- Slices of slices of bytes: what 's[k:]' is, in this program's own numbers. -/
namespace Go.Proofs.YtnbmmhoofilmfaaGreatDoor
open Go.RowKit
/-- where 's[k:]' begins -/
def slAt (a : Option Addr) (k cap : Nat) : Option Addr := if cap = k then a else a.map (·.add k)
theorem Row.slice {w : World} {a : Option Addr} {len cap k : Nat} {z : Nat → Int} (h : Row w a len z) (hk : k ≤ len) (hc : len ≤ cap) : Row w (slAt a k cap) (len - k) (fun i => z (k + i)) := by
  by_cases h0 : len - k = 0
  · exact .inl h0
  · rcases h with h | ⟨b, off, rfl, hs⟩
    · omega
    · unfold slAt
      rw [if_neg (by omega)]
      refine .inr ⟨b, off + k, ?_, hs.sub k _ (by omega)⟩
      simp only [Option.map_some, Addr.add]
      by_cases hk0 : k = 0
      · subst hk0; rw [if_pos rfl, Nat.add_zero]
      · rw [if_neg hk0]
theorem run_sl_low (a : Option Addr) (len cap k : Nat) (K : Int) (hK : K = (k : Int)) (hk : k ≤ len) (w : World) :
    (Instr.slice 128 (.slice a len cap) (some (.int .i64 K)) none none).run Tryz.prog w = .ok (.slice (slAt a k cap) (len - k) (cap - k)) w := by
  subst hK
  have hsz : (Go.sizeOf 5).run Tryz.prog w = .ok 1 w := by kernel_rfl
  rw [run_slice_l w 128 a len cap (by kernel_rfl) .i64 (k : Int) (by omega) (by omega), show Tryz.prog.elem 128 = 5 from by kernel_rfl, hsz]
  simp only [Result.andThen, sliced, slAt, Int.toNat_natCast, Nat.mul_one]
end Go.Proofs.YtnbmmhoofilmfaaGreatDoor
