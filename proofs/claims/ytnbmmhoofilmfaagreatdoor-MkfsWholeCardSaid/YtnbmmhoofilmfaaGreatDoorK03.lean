/- Texts of this claim, merged by a program (a claim may have 60 files): Eq, Blk, BitP, Ino. -/
import Derived.Test.YtnbmmhoofilmfaaGreatDoorK02
import Derived.ChangeKeysEq
import Derived.Laws.StructEq
/- '==' of arrays of integers, over any program. -/
namespace Go.Proofs.YtnbmmhoofilmfaaGreatDoor
open Go.RowKit
/-- n integers of a kind as values -/
def Ks (k : IntKind) (n : Nat) (z : Nat → Int) : List Value := (List.range n).map fun i => .int k (z i)
theorem Ks_length (k : IntKind) (n : Nat) (z : Nat → Int) : (Ks k n z).length = n := by simp [Ks]
theorem Ks_get (k : IntKind) (n : Nat) (z : Nat → Int) (i : Nat) (h : i < n) : (Ks k n z)[i]? = some (.int k (z i)) := by simp [Ks, h]
theorem allRange (z y : Nat → Int) (n : Nat) : ((List.range n).all fun i => z i == y i) = eqB z y n := by
  rw [Bool.eq_iff_iff, eqB_iff, List.all_eq_true]
  simp
theorem run_equalIn_ints {P : Program} (w : World) (d : Nat) {t e : TypeId} {n : Nat} {i : TypeInfo} {k : IntKind} (hu : P.underlying t = some (.array n e)) (hi : P.info? e = some i) (he : P.underlying e = some (.int k)) (hce : P.cellsOf e = 1)
    (z y : Nat → Int) : (Op.equalIn (d + 2) t (.agg (Ks k n z).toArray) (.agg (Ks k n y).toArray)).run P w = .ok (eqB z y n) w := by
  rw [show d + 2 = (d + 1) + 1 from rfl, run_equalIn_array w (d + 1) _ _ hu hi, hce, ← allRange z y n]
  have hl : ∀ j ∈ List.range n, j < n := fun j hj => by simpa using hj
  generalize List.range n = l at hl ⊢
  induction l with
  | nil => simp [Op.eqItems]
  | cons j l ih =>
    have hj : j < n := hl j (by simp)
    have px : ∀ u : Nat → Int, (part e (Ks k n u).toArray (j * 1)).run P w = .ok (.int k (u j)) w := fun u => by
      simp [part, isAgg, run_underlying he, Ks_get k n u j hj]
    simp only [Op.eqItems, Sem.run_bind, px, Result.andThen_ok, run_equalIn_int w d e k k _ _ he, List.all_cons]
    cases hb : (z j == y j)
    · simp
    · simp only [Bool.true_and]
      simp only [Bool.not_true, Bool.false_eq_true, if_false]
      first | exact ih (fun j hj => hl j (by simp [hj])) | (simp; exact ih (fun j hj => hl j (by simp [hj])))
theorem run_eql_ints {P : Program} (w : World) {t e : TypeId} {n : Nat} {i : TypeInfo} {k : IntKind} (hu : P.underlying t = some (.array n e)) (hi : P.info? e = some i) (he : P.underlying e = some (.int k)) (hce : P.cellsOf e = 1)
    (z y : Nat → Int) : (binOp .eql t (.agg (Ks k n z).toArray) (.agg (Ks k n y).toArray)).run P w = .ok (.bool (eqB z y n)) w := by
  rw [run_eql_struct, show (10000 : Nat) = 9998 + 2 from rfl, run_equalIn_ints w 9998 hu hi he hce z y]; rfl
end Go.Proofs.YtnbmmhoofilmfaaGreatDoor

/- A block of bytes that fills a heap block: read, written, loaded whole. No program in sight. -/
namespace Go.Proofs.YtnbmmhoofilmfaaGreatDoor
open Go.RowKit
set_option linter.unusedVariables false
/-- heap block g is n bytes z -/
def Blk (w : World) (g : Nat) (T : TypeId) (n : Nat) (z : Nat → Int) : Prop := w.heap[g]? = some (.cells (Ks .u8 n z).toArray T (0, 0))
theorem cell_of_heap {w : World} {g : Nat} {cs : Array Value} {t : TypeId} {fr : Nat × Nat} (h : w.heap[g]? = some (.cells cs t fr)) {i : Nat} {v : Value} (hi : cs[i]? = some v) : w.cell? ⟨g, i, none⟩ = some v := by
  simp only [World.cell?, h]; simpa using hi
theorem soft_of_heap {w : World} {g : Nat} {cs : Array Value} {t : TypeId} (h : w.heap[g]? = some (.cells cs t (0, 0))) (i : Nat) : w.frozen? ⟨g, i, none⟩ = false := by
  simp only [World.frozen?, h]; simp
theorem Blk.lt {w : World} {g : Nat} {T : TypeId} {n : Nat} {z : Nat → Int} (h : Blk w g T n z) : g < w.heap.size := (Array.getElem?_eq_some_iff.1 h).1
theorem Blk.seg {w : World} {g : Nat} {T : TypeId} {n : Nat} {z : Nat → Int} (h : Blk w g T n z) : Seg w g 0 n z := fun i hi =>
  cell_of_heap h (by rw [Nat.zero_add]; simpa using Ks_get .u8 n z i hi)
theorem Blk.soft {w : World} {g : Nat} {T : TypeId} {n : Nat} {z : Nat → Int} (h : Blk w g T n z) (off m : Nat) : Soft w g off m := fun i _ => soft_of_heap h _
theorem Blk.new (w : World) (T : TypeId) (n : Nat) (z : Nat → Int) : Blk (w.alloc (.cells (Ks .u8 n z).toArray T)) w.heap.size T n z := heap_alloc_new w _
theorem Blk.drewN {w : World} {g : Nat} {T : TypeId} {n : Nat} {z : Nat → Int} (h : Blk w g T n z) (m : Nat) : Blk (w.drewN m) g T n z := h
theorem Blk.congr {w : World} {g : Nat} {T : TypeId} {n : Nat} {z y : Nat → Int} (h : Blk w g T n z) (e : ∀ i, i < n → z i = y i) : Blk w g T n y := by
  unfold Blk
  have : Ks .u8 n y = Ks .u8 n z := by unfold Ks; apply List.map_congr_left; intro i hi; rw [e i (by simpa using hi)]
  rw [this]; exact h
/-- a block whose cells are known -/
theorem Blk.of_cells {w : World} {g : Nat} {T : TypeId} {n : Nat} {z : Nat → Int} {c : Array Value} (h : w.heap[g]? = some (.cells c T (0, 0))) (hc : c.size = n) (hs : Seg w g 0 n z) : Blk w g T n z := by
  unfold Blk
  rw [h]
  congr 2
  apply Array.ext'
  apply List.ext_getElem?
  intro i
  by_cases hi : i < n
  · have := hs i hi
    simp only [World.cell?, h, Nat.zero_add] at this
    have h2 := Ks_get .u8 n z i hi
    simp at this ⊢
    rw [this, ← h2]
  · rw [List.getElem?_eq_none (by simp; omega), List.getElem?_eq_none (by simp [Ks_length]; omega)]
theorem Blk.puts {w w' : World} {g : Nat} {T : TypeId} {n lo m : Nat} {z f : Nat → Int} (h : Blk w g T n z) (hp : Puts g lo m f w w') : Blk w' g T n (over z lo m f) := by
  obtain ⟨c', hc, hh⟩ := hp.only.shape _ _ _ h
  exact Blk.of_cells hh (by rw [hc]; simp [Ks_length]) (hp.seg h.seg (by omega))
theorem Blk.setCell {w : World} {g : Nat} {T : TypeId} {n : Nat} {z : Nat → Int} (h : Blk w g T n z) (i : Nat) (v : Int) (hi : i < n) : Blk (w.setCell ⟨g, i, none⟩ (.int .u8 v)) g T n (over z i 1 (fun _ => v)) := by
  have hp : Puts g i 1 (fun _ => v) w (w.setCell ⟨g, i + 0, none⟩ (.int .u8 v)) := (Puts.nil g i (fun _ => v) w).snoc (u := .int .u8 (z i)) (by have := h.seg i hi; simpa using this) rfl
  exact h.puts hp
theorem Blk.below {w w' : World} {g : Nat} {T : TypeId} {n : Nat} {z : Nat → Int} (h : Blk w g T n z) {B : Nat} (hb : Below B w w') (hg : g < B) : Blk w' g T n z := (hb.block g hg).trans h
theorem Blk.only {w w' : World} {g : Nat} {T : TypeId} {n : Nat} {z : Nat → Int} (h : Blk w g T n z) {b : Nat} (hb : Only b w w') (hg : g ≠ b) : Blk w' g T n z := (hb.block g hg).trans h
theorem Blk.alloc {w : World} {g : Nat} {T : TypeId} {n : Nat} {z : Nat → Int} (h : Blk w g T n z) (o : Obj) : Blk (w.alloc o) g T n z := (Below.heap_alloc w o g h.lt).trans h
theorem heap_alloc_keep {w : World} {g : Nat} {x : Obj} (h : w.heap[g]? = some x) (o : Obj) : (w.alloc o).heap[g]? = some x := (Below.heap_alloc w o g (Array.getElem?_eq_some_iff.1 h).1).trans h
theorem Ks_size (k : IntKind) (n : Nat) (z : Nat → Int) : (Ks k n z).toArray.size = n := by simp [Ks]
theorem Ks_one (k : IntKind) (n : Nat) (z : Nat → Int) : (Ks k n z).toArray.all (·.oneCell') = true := by
  rw [Array.all_eq_true]
  intro i hi
  simp [Ks]
  rfl
theorem Ks_congr {k : IntKind} {n : Nat} {z y : Nat → Int} (e : ∀ i, i < n → z i = y i) : Ks k n z = Ks k n y := by
  unfold Ks; apply List.map_congr_left; intro i hi; rw [e i (by simpa using hi)]
end Go.Proofs.YtnbmmhoofilmfaaGreatDoor

/- The bits of a block: byte k holds bits 8 k .. 8 k + 7. No program in sight. -/
namespace Go.Proofs.YtnbmmhoofilmfaaGreatDoor
open Go.RowKit
set_option linter.unusedVariables false

def b8 (a b c d e f g h : Bool) : Nat := a.toNat + 2 * b.toNat + 4 * c.toNat + 8 * d.toNat + 16 * e.toNat + 32 * f.toNat + 64 * g.toNat + 128 * h.toNat
def by8 (P : Nat → Bool) (k : Nat) : Nat := b8 (P (8 * k)) (P (8 * k + 1)) (P (8 * k + 2)) (P (8 * k + 3)) (P (8 * k + 4)) (P (8 * k + 5)) (P (8 * k + 6)) (P (8 * k + 7))
def bZ (P : Nat → Bool) (k : Nat) : Int := (by8 P k : Nat)
theorem b8_lt : ∀ a b c d e f g h : Bool, b8 a b c d e f g h < 256 := by decide
theorem by8_lt (P : Nat → Bool) (k : Nat) : by8 P k < 256 := b8_lt _ _ _ _ _ _ _ _
theorem bZ_byt (P : Nat → Bool) : Byt (bZ P) := fun i => by have := by8_lt P i; unfold bZ; omega
def setB (P : Nat → Bool) (i : Nat) : Nat → Bool := fun j => if j = i then true else P j
theorem or0 : ∀ a b c d e f g h : Bool, b8 a b c d e f g h ||| 1 = b8 true b c d e f g h := by decide
theorem or1 : ∀ a b c d e f g h : Bool, b8 a b c d e f g h ||| 2 = b8 a true c d e f g h := by decide
theorem or2 : ∀ a b c d e f g h : Bool, b8 a b c d e f g h ||| 4 = b8 a b true d e f g h := by decide
theorem or3 : ∀ a b c d e f g h : Bool, b8 a b c d e f g h ||| 8 = b8 a b c true e f g h := by decide
theorem or4 : ∀ a b c d e f g h : Bool, b8 a b c d e f g h ||| 16 = b8 a b c d true f g h := by decide
theorem or5 : ∀ a b c d e f g h : Bool, b8 a b c d e f g h ||| 32 = b8 a b c d e true g h := by decide
theorem or6 : ∀ a b c d e f g h : Bool, b8 a b c d e f g h ||| 64 = b8 a b c d e f true h := by decide
theorem or7 : ∀ a b c d e f g h : Bool, b8 a b c d e f g h ||| 128 = b8 a b c d e f g true := by decide
theorem an0 : ∀ a b c d e f g h : Bool, (b8 a b c d e f g h &&& 1) = 1 * a.toNat := by decide
theorem an1 : ∀ a b c d e f g h : Bool, (b8 a b c d e f g h &&& 2) = 2 * b.toNat := by decide
theorem an2 : ∀ a b c d e f g h : Bool, (b8 a b c d e f g h &&& 4) = 4 * c.toNat := by decide
theorem an3 : ∀ a b c d e f g h : Bool, (b8 a b c d e f g h &&& 8) = 8 * d.toNat := by decide
theorem an4 : ∀ a b c d e f g h : Bool, (b8 a b c d e f g h &&& 16) = 16 * e.toNat := by decide
theorem an5 : ∀ a b c d e f g h : Bool, (b8 a b c d e f g h &&& 32) = 32 * f.toNat := by decide
theorem an6 : ∀ a b c d e f g h : Bool, (b8 a b c d e f g h &&& 64) = 64 * g.toNat := by decide
theorem an7 : ∀ a b c d e f g h : Bool, (b8 a b c d e f g h &&& 128) = 128 * h.toNat := by decide
theorem by8_or (P : Nat → Bool) (k j : Nat) (hj : j < 8) : by8 P k ||| 2 ^ j = by8 (setB P (8 * k + j)) k := by
  have hS : ∀ m, m < 8 → setB P (8 * k + j) (8 * k + m) = if m = j then true else P (8 * k + m) := fun m hm => by
    unfold setB
    by_cases e : m = j
    · rw [if_pos e, if_pos (by omega)]
    · rw [if_neg e, if_neg (by omega)]
  have h0 := hS 0 (by omega)
  rw [Nat.add_zero] at h0
  unfold by8
  rw [h0, hS 1 (by omega), hS 2 (by omega), hS 3 (by omega), hS 4 (by omega), hS 5 (by omega), hS 6 (by omega), hS 7 (by omega)]
  have : j = 0 ∨ j = 1 ∨ j = 2 ∨ j = 3 ∨ j = 4 ∨ j = 5 ∨ j = 6 ∨ j = 7 := by omega
  rcases this with rfl | rfl | rfl | rfl | rfl | rfl | rfl | rfl
  · exact or0 _ _ _ _ _ _ _ _
  · exact or1 _ _ _ _ _ _ _ _
  · exact or2 _ _ _ _ _ _ _ _
  · exact or3 _ _ _ _ _ _ _ _
  · exact or4 _ _ _ _ _ _ _ _
  · exact or5 _ _ _ _ _ _ _ _
  · exact or6 _ _ _ _ _ _ _ _
  · exact or7 _ _ _ _ _ _ _ _
theorem by8_and (P : Nat → Bool) (k j : Nat) (hj : j < 8) : by8 P k &&& 2 ^ j = 2 ^ j * (P (8 * k + j)).toNat := by
  unfold by8
  have : j = 0 ∨ j = 1 ∨ j = 2 ∨ j = 3 ∨ j = 4 ∨ j = 5 ∨ j = 6 ∨ j = 7 := by omega
  rcases this with rfl | rfl | rfl | rfl | rfl | rfl | rfl | rfl
  · exact an0 _ _ _ _ _ _ _ _
  · exact an1 _ _ _ _ _ _ _ _
  · exact an2 _ _ _ _ _ _ _ _
  · exact an3 _ _ _ _ _ _ _ _
  · exact an4 _ _ _ _ _ _ _ _
  · exact an5 _ _ _ _ _ _ _ _
  · exact an6 _ _ _ _ _ _ _ _
  · exact an7 _ _ _ _ _ _ _ _
theorem by8_other (P : Nat → Bool) {i k : Nat} (h : k ≠ i / 8) : by8 (setB P i) k = by8 P k := by
  unfold by8 setB
  rw [if_neg (by omega), if_neg (by omega), if_neg (by omega), if_neg (by omega), if_neg (by omega), if_neg (by omega), if_neg (by omega), if_neg (by omega)]
end Go.Proofs.YtnbmmhoofilmfaaGreatDoor

/- Inodes as plain data, and the contracts of inode.May and inode.place. -/
namespace Go.Proofs.YtnbmmhoofilmfaaGreatDoor
open Go.RowKit
set_option linter.unusedVariables false

/-- an inode's fields -/
structure Ino where
  kind : Int
  links : Int
  gen : Int
  size : Int
  p : Nat → Int
  next : Int

/-- an inode as a value -/
abbrev Ino.val (x : Ino) : Value := .agg #[.int .u8 x.kind, .int .i64 x.links, .int .u32 x.gen, .int .i64 x.size, .int .u32 (x.p 0), .int .u32 (x.p 1), .int .u32 (x.p 2), .int .u32 (x.p 3), .int .u32 (x.p 4), .int .u32 (x.p 5), .int .u32 (x.p 6), .int .u32 (x.p 7), .int .u32 (x.p 8), .int .u32 (x.p 9), .int .u32 (x.p 10), .int .u32 x.next]
/-- its fields fit their kinds -/
structure Ino.Ok (x : Ino) : Prop where
  kind : 0 ≤ x.kind ∧ x.kind < 256
  links : -9223372036854775808 ≤ x.links ∧ x.links ≤ 9223372036854775807
  gen : 0 ≤ x.gen ∧ x.gen < 4294967296
  size : -9223372036854775808 ≤ x.size ∧ x.size ≤ 9223372036854775807
  p : ∀ i, 0 ≤ x.p i ∧ x.p i < 4294967296
  next : 0 ≤ x.next ∧ x.next < 4294967296
/-- may it be? -/
def Ino.May (x : Ino) : Prop :=
  (x.kind = 0 ∧ x.links = 0 ∧ x.size = 0 ∧ x.next = 0 ∧ allZ x.p 11 = true) ∨
  (x.kind = 1 ∧ 0 ≤ x.links ∧ x.links ≤ 1000 ∧ 0 ≤ x.size ∧ x.size ≤ 16777216) ∨
  (x.kind = 2 ∧ x.links = 1 ∧ 0 ≤ x.size ∧ x.size ≤ 16777216 ∧ x.size % 256 = 0 ∧ x.next = 0)
instance (x : Ino) : Decidable x.May := by unfold Ino.May; infer_instance


/-- are two inodes the same? -/
def inoEq (x y : Ino) : Bool := x.kind == y.kind && (x.links == y.links && (x.gen == y.gen && (x.size == y.size && (eqB x.p y.p 11 && x.next == y.next))))
theorem inoEq_iff (x y : Ino) : inoEq x y = true ↔ x.kind = y.kind ∧ x.links = y.links ∧ x.gen = y.gen ∧ x.size = y.size ∧ (∀ i, i < 11 → x.p i = y.p i) ∧ x.next = y.next := by
  unfold inoEq; simp only [Bool.and_eq_true, beq_iff_eq, eqB_iff]
theorem run_eql_ino (x y : Ino) (w : World) : (binOp .eql 63 x.val y.val).run Tryz.prog w = .ok (.bool (inoEq x y)) w := by
  obtain ⟨i, hi, _⟩ := info_parts (show (Tryz.prog.info? 45).map (fun i => (i.zero, i.size, i.bytes)) = some (some (.int .u32 0), 1, 4) by kernel_rfl)
  have hS : Tryz.prog.underlying 63 = some (.struct (Tryz.prog.fieldsOf 63)) := by kernel_rfl
  have hp : Tryz.prog.stoodInHeld 63 = false := by kernel_rfl
  have ha := fun w => run_equalIn_ints (P := Tryz.prog) w 9997 (t := 61) (e := 45) (n := 11) (k := .u32) Tryz.underlying61 hi Tryz.underlying45 (by kernel_rfl) x.p y.p
  have ex : ∀ u : Nat → Int, (Ks .u32 11 u).toArray = #[.int .u32 (u 0), .int .u32 (u 1), .int .u32 (u 2), .int .u32 (u 3), .int .u32 (u 4), .int .u32 (u 5), .int .u32 (u 6), .int .u32 (u 7), .int .u32 (u 8), .int .u32 (u 9), .int .u32 (u 10)] := fun u => rfl
  rw [ex, ex] at ha
  rw [run_eql_struct, show (10000 : Nat) = 9999 + 1 from rfl, run_equalIn_agg w 9999 _ _ _ hS hp]
  simp only [Program.fieldsOf, Tryz.underlying63]
  clear hi hS hp ex
  go_simp
  clear ha
  unfold inoEq
  by_cases h1 : x.kind = y.kind
  rotate_left
  · simp [*]
  by_cases h2 : x.links = y.links
  rotate_left
  · simp [*]
  by_cases h3 : x.gen = y.gen
  rotate_left
  · simp [*]
  by_cases h4 : x.size = y.size
  rotate_left
  · simp [*]
  cases h5 : eqB x.p y.p 11 with
  | false => simp [h1, h2, h3, h4]
  | true =>
    by_cases h6 : x.next = y.next
    · simp [h1, h2, h3, h4, h6]
    · have h7 : (x.next == y.next) = false := by simp [h6]
      simp [h1, h2, h3, h4, h6]

/-- is a place one? -/
def placeB (a : Int) : Bool := decide (a = 0 ∨ a = 64 ∨ a = 128 ∨ a = 192)
theorem placeB_iff (a : Int) : placeB a = true ↔ a = 0 ∨ a = 64 ∨ a = 128 ∨ a = 192 := by simp [placeB]
theorem placeB_no {a : Int} (h : ¬ (a = 0 ∨ a = 64 ∨ a = 128 ∨ a = 192)) : placeB a = false := by simp only [placeB, decide_eq_false_iff_not]; exact h
theorem place_any (a : Int) (w : World) (h0 : -9223372036854775808 ≤ a) (h1 : a ≤ 9223372036854775807) :
    Calls Tryz.prog 56 #[.int .i64 a] w fun e w' => e = .returned (.bool (placeB a)) ∧ w = w' := by
  by_cases c1 : 0 ≤ a
  · by_cases c2 : a < 256
    · by_cases c3 : a % 64 = 0
      · have q : (a % 64 == 0) = true := by simp [c3]
        have hd : Hid (placeB a = true) := (placeB_iff a).2 (by omega)
        clear c3
        go_enter Tryz.func56, Tryz.ntmps56
        go_wp2
        go_ret
        exact ⟨ret_bool hd.out.symm, rfl⟩
      · have q : (a % 64 == 0) = false := by simp [c3]
        have hd : Hid (placeB a = false) := placeB_no (by omega)
        clear c3
        go_enter Tryz.func56, Tryz.ntmps56
        go_wp2
        go_ret
        exact ⟨ret_bool hd.out.symm, rfl⟩
    · have hd : Hid (placeB a = false) := placeB_no (by omega)
      go_enter Tryz.func56, Tryz.ntmps56
      go_wp2
      go_ret
      exact ⟨ret_bool hd.out.symm, rfl⟩
  · have hd : Hid (placeB a = false) := placeB_no (by omega)
    go_enter Tryz.func56, Tryz.ntmps56
    go_wp2
    go_ret
    exact ⟨ret_bool hd.out.symm, rfl⟩

/-- May's answers, way by way -/
theorem may_0 (l g s n : Int) (p : Nat → Int) : decide (Ino.May ⟨0, l, g, s, p, n⟩) = inoEq ⟨0, l, g, s, p, n⟩ ⟨0, 0, g, 0, fun _ => 0, 0⟩ := by
  rw [Bool.eq_iff_iff, inoEq_iff, decide_eq_true_eq]
  unfold Ino.May
  simp only [allZ_iff]
  constructor
  · rintro (⟨_, h1, h2, h3, h4⟩ | ⟨h, _⟩ | ⟨h, _⟩)
    · exact ⟨trivial, h1, trivial, h2, h4, h3⟩
    · omega
    · omega
  · rintro ⟨_, h1, _, h2, h4, h3⟩
    exact .inl ⟨trivial, h1, h2, h3, h4⟩
theorem may_1 (l g s n : Int) (p : Nat → Int) : decide (Ino.May ⟨1, l, g, s, p, n⟩) = decide (0 ≤ l ∧ l ≤ 1000 ∧ 0 ≤ s ∧ s ≤ 16777216) := by
  rw [decide_eq_decide]; unfold Ino.May; simp
theorem may_2 (l g s n : Int) (p : Nat → Int) : decide (Ino.May ⟨2, l, g, s, p, n⟩) = decide (l = 1 ∧ 0 ≤ s ∧ s ≤ 16777216 ∧ s % 256 = 0 ∧ n = 0) := by
  rw [decide_eq_decide]; unfold Ino.May; simp
theorem may_3 (k l g s n : Int) (p : Nat → Int) (h : k ≠ 0 ∧ k ≠ 1 ∧ k ≠ 2) : decide (Ino.May ⟨k, l, g, s, p, n⟩) = false := by
  rw [decide_eq_false_iff_not]; unfold Ino.May; simp only; omega

set_option maxHeartbeats 4000000 in
theorem may_any (x : Ino) (hx : x.Ok) (w : World) :
    Calls Tryz.prog 61 #[x.val] w fun e w' => e = .returned (.bool (decide x.May)) ∧ Below w.heap.size w w' := by
  obtain ⟨k, l, g, s, p, n⟩ := x
  obtain ⟨⟨hk0, hk1⟩, ⟨hl0, hl1⟩, _, ⟨hs0, hs1⟩, _, _⟩ := hx
  dsimp only at hk0 hk1 hl0 hl1 hs0 hs1
  dsimp only [Ino.val]
  have fin : ∀ t, Hid (Below w.heap.size w (w.alloc t)) := fun t => (Below.refl _ _).alloc (Nat.le_refl _) _
  generalize hD' : decide (Ino.May ⟨k, l, g, s, p, n⟩) = D
  have hD := Lib.hid hD'
  clear hD'
  by_cases k0 : k = 0
  · subst k0
    have hq := fun w => run_eql_ino ⟨0, l, g, s, p, n⟩ ⟨0, 0, g, 0, fun _ => 0, 0⟩ w
    dsimp only [Ino.val] at hq
    have HD := hD.out
    rw [may_0] at HD
    rw [HD] at hq
    clear HD
    go_enter Tryz.func61, Tryz.ntmps61
    go_wp2
    go_ret
    exact ⟨rfl, (fin _).out⟩
  have q0 : (k == 0) = false := by simp [k0]
  by_cases k2 : k = 2
  · subst k2
    by_cases c1 : l = 1
    · subst c1
      by_cases c4 : 0 ≤ s
      · by_cases c2 : s % 256 = 0
        · have d2 : (s % 256 != 0) = false := by simp [c2]
          by_cases c3 : n = 0
          · subst c3
            by_cases c5 : s ≤ 16777216
            · have HD : Hid (D = true) := by show D = true; rw [← hD.out, may_2]; simp; omega
              clear c2
              go_enter Tryz.func61, Tryz.ntmps61
              go_wp2
              go_ret
              exact ⟨ret_bool HD.out.symm, (fin _).out⟩
            · have HD : Hid (D = false) := by show D = false; rw [← hD.out, may_2]; simp; omega
              clear c2
              go_enter Tryz.func61, Tryz.ntmps61
              go_wp2
              go_ret
              exact ⟨ret_bool HD.out.symm, (fin _).out⟩
          · have HD : Hid (D = false) := by show D = false; rw [← hD.out, may_2]; simp; omega
            have d3 : (n != 0) = true := by simp [c3]
            clear c2 c3
            go_enter Tryz.func61, Tryz.ntmps61
            go_wp2
            go_ret
            exact ⟨ret_bool HD.out.symm, (fin _).out⟩
        · have HD : Hid (D = false) := by show D = false; rw [← hD.out, may_2]; simp; omega
          have d2 : (s % 256 != 0) = true := by simp [c2]
          clear c2
          go_enter Tryz.func61, Tryz.ntmps61
          go_wp2
          go_ret
          exact ⟨ret_bool HD.out.symm, (fin _).out⟩
      · by_cases c2 : s.tmod 256 = 0
        · have d2 : (s.tmod 256 != 0) = false := by simp [c2]
          by_cases c3 : n = 0
          · subst c3
            have HD : Hid (D = false) := by show D = false; rw [← hD.out, may_2]; simp; omega
            clear c2
            go_enter Tryz.func61, Tryz.ntmps61
            go_wp2
            go_ret
            exact ⟨ret_bool HD.out.symm, (fin _).out⟩
          · have HD : Hid (D = false) := by show D = false; rw [← hD.out, may_2]; simp; omega
            have d3 : (n != 0) = true := by simp [c3]
            clear c2 c3
            go_enter Tryz.func61, Tryz.ntmps61
            go_wp2
            go_ret
            exact ⟨ret_bool HD.out.symm, (fin _).out⟩
        · have HD : Hid (D = false) := by show D = false; rw [← hD.out, may_2]; simp; omega
          have d2 : (s.tmod 256 != 0) = true := by simp [c2]
          clear c2
          go_enter Tryz.func61, Tryz.ntmps61
          go_wp2
          go_ret
          exact ⟨ret_bool HD.out.symm, (fin _).out⟩
    · have HD : Hid (D = false) := by show D = false; rw [← hD.out, may_2]; simp; omega
      have d1 : (l != 1) = true := by simp [c1]
      clear c1
      go_enter Tryz.func61, Tryz.ntmps61
      go_wp2
      go_ret
      exact ⟨ret_bool HD.out.symm, (fin _).out⟩
  have q2 : (k == 2) = false := by simp [k2]
  by_cases k1 : k = 1
  · subst k1
    by_cases c1 : 0 ≤ l
    · by_cases c2 : l ≤ 1000
      · by_cases c3 : 0 ≤ s
        · by_cases c4 : s ≤ 16777216
          · have HD : Hid (D = true) := by show D = true; rw [← hD.out, may_1]; simp; omega
            go_enter Tryz.func61, Tryz.ntmps61
            go_wp2
            go_ret
            exact ⟨ret_bool HD.out.symm, (fin _).out⟩
          · have HD : Hid (D = false) := by show D = false; rw [← hD.out, may_1]; simp; omega
            go_enter Tryz.func61, Tryz.ntmps61
            go_wp2
            go_ret
            exact ⟨ret_bool HD.out.symm, (fin _).out⟩
        · have HD : Hid (D = false) := by show D = false; rw [← hD.out, may_1]; simp; omega
          go_enter Tryz.func61, Tryz.ntmps61
          go_wp2
          go_ret
          exact ⟨ret_bool HD.out.symm, (fin _).out⟩
      · have HD : Hid (D = false) := by show D = false; rw [← hD.out, may_1]; simp; omega
        go_enter Tryz.func61, Tryz.ntmps61
        go_wp2
        go_ret
        exact ⟨ret_bool HD.out.symm, (fin _).out⟩
    · have HD : Hid (D = false) := by show D = false; rw [← hD.out, may_1]; simp; omega
      go_enter Tryz.func61, Tryz.ntmps61
      go_wp2
      go_ret
      exact ⟨ret_bool HD.out.symm, (fin _).out⟩
  have q1 : (k == 1) = false := by simp [k1]
  have HD : Hid (D = false) := by show D = false; rw [← hD.out]; exact may_3 _ _ _ _ _ _ (by omega)
  go_enter Tryz.func61, Tryz.ntmps61
  go_wp2
  go_ret
  exact ⟨ret_bool HD.out.symm, (fin _).out⟩
end Go.Proofs.YtnbmmhoofilmfaaGreatDoor
