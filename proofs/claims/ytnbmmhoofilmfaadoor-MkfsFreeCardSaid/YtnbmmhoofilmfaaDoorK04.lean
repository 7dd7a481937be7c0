/- Texts of this claim, merged by a program (a claim may have 60 files): Eq, Blk, PutsIf, Wz, U6p, BitP. -/
import Derived.Test.YtnbmmhoofilmfaaDoorK02
import Derived.ChangeKeysEq
import Derived.Laws.StructEq
import Derived.Test.YtnbmmhoofilmfaaDoorK03
import Derived.Test.YtnbmmhoofilmfaaDoorK01
/- '==' of arrays of integers, over any program. -/
namespace Go.Proofs.YtnbmmhoofilmfaaDoor
open Go.RowKit
/-- n integers of a kind as values -/
def Ks (k : IntKind) (n : Nat) (z : Nat → Int) : List Value := (List.range n).map fun i => .int k (z i)
theorem Ks_length (k : IntKind) (n : Nat) (z : Nat → Int) : (Ks k n z).length = n := by simp [Ks]
theorem Ks_get (k : IntKind) (n : Nat) (z : Nat → Int) (i : Nat) (h : i < n) : (Ks k n z)[i]? = some (.int k (z i)) := by simp [Ks, h]
theorem allRange (z y : Nat → Int) (n : Nat) : ((List.range n).all fun i => z i == y i) = eqB z y n := by
  rw [Bool.eq_iff_iff, eqB_iff, List.all_eq_true]
  simp
theorem run_equalIn_ints {P : Program} (w : World) (d : Nat) {t e : TypeId} {n : Nat} {i : TypeInfo} {k : IntKind} (hu : P.underlying t = some (.array n e)) (hi : P.info? e = some i) (he : P.underlying e = some (.int k)) (hce : P.cellsOf e = 1)
    (z y : Nat → Int) : (Op.equalIn (d + 2) t (.agg (Ks k n z).toArray) (.agg (Ks k n y).toArray)).run P w = .ok (eqB z y n) w := by
  rw [show d + 2 = (d + 1) + 1 from rfl, run_equalIn_array w (d + 1) _ _ hu hi, hce, ← allRange z y n]
  have hl : ∀ j ∈ List.range n, j < n := fun j hj => by simpa using hj
  generalize List.range n = l at hl ⊢
  induction l with
  | nil => simp [Op.eqItems]
  | cons j l ih =>
    have hj : j < n := hl j (by simp)
    have px : ∀ u : Nat → Int, (part e (Ks k n u).toArray (j * 1)).run P w = .ok (.int k (u j)) w := fun u => by
      simp [part, isAgg, run_underlying he, Ks_get k n u j hj]
    simp only [Op.eqItems, Sem.run_bind, px, Result.andThen_ok, run_equalIn_int w d e k k _ _ he, List.all_cons]
    cases hb : (z j == y j)
    · simp
    · simp only [Bool.true_and]
      simp only [Bool.not_true, Bool.false_eq_true, if_false]
      first | exact ih (fun j hj => hl j (by simp [hj])) | (simp; exact ih (fun j hj => hl j (by simp [hj])))
theorem run_eql_ints {P : Program} (w : World) {t e : TypeId} {n : Nat} {i : TypeInfo} {k : IntKind} (hu : P.underlying t = some (.array n e)) (hi : P.info? e = some i) (he : P.underlying e = some (.int k)) (hce : P.cellsOf e = 1)
    (z y : Nat → Int) : (binOp .eql t (.agg (Ks k n z).toArray) (.agg (Ks k n y).toArray)).run P w = .ok (.bool (eqB z y n)) w := by
  rw [run_eql_struct, show (10000 : Nat) = 9998 + 2 from rfl, run_equalIn_ints w 9998 hu hi he hce z y]; rfl
end Go.Proofs.YtnbmmhoofilmfaaDoor

/- A block of bytes that fills a heap block: read, written, loaded whole. No program in sight. -/
namespace Go.Proofs.YtnbmmhoofilmfaaDoor
open Go.RowKit
set_option linter.unusedVariables false
/-- heap block g is n bytes z -/
def Blk (w : World) (g : Nat) (T : TypeId) (n : Nat) (z : Nat → Int) : Prop := w.heap[g]? = some (.cells (Ks .u8 n z).toArray T (0, 0))
theorem cell_of_heap {w : World} {g : Nat} {cs : Array Value} {t : TypeId} {fr : Nat × Nat} (h : w.heap[g]? = some (.cells cs t fr)) {i : Nat} {v : Value} (hi : cs[i]? = some v) : w.cell? ⟨g, i, none⟩ = some v := by
  simp only [World.cell?, h]; simpa using hi
theorem soft_of_heap {w : World} {g : Nat} {cs : Array Value} {t : TypeId} (h : w.heap[g]? = some (.cells cs t (0, 0))) (i : Nat) : w.frozen? ⟨g, i, none⟩ = false := by
  simp only [World.frozen?, h]; simp
theorem Blk.lt {w : World} {g : Nat} {T : TypeId} {n : Nat} {z : Nat → Int} (h : Blk w g T n z) : g < w.heap.size := (Array.getElem?_eq_some_iff.1 h).1
theorem Blk.seg {w : World} {g : Nat} {T : TypeId} {n : Nat} {z : Nat → Int} (h : Blk w g T n z) : Seg w g 0 n z := fun i hi =>
  cell_of_heap h (by rw [Nat.zero_add]; simpa using Ks_get .u8 n z i hi)
theorem Blk.soft {w : World} {g : Nat} {T : TypeId} {n : Nat} {z : Nat → Int} (h : Blk w g T n z) (off m : Nat) : Soft w g off m := fun i _ => soft_of_heap h _
theorem Blk.new (w : World) (T : TypeId) (n : Nat) (z : Nat → Int) : Blk (w.alloc (.cells (Ks .u8 n z).toArray T)) w.heap.size T n z := heap_alloc_new w _
theorem Blk.drewN {w : World} {g : Nat} {T : TypeId} {n : Nat} {z : Nat → Int} (h : Blk w g T n z) (m : Nat) : Blk (w.drewN m) g T n z := h
theorem Blk.congr {w : World} {g : Nat} {T : TypeId} {n : Nat} {z y : Nat → Int} (h : Blk w g T n z) (e : ∀ i, i < n → z i = y i) : Blk w g T n y := by
  unfold Blk
  have : Ks .u8 n y = Ks .u8 n z := by unfold Ks; apply List.map_congr_left; intro i hi; rw [e i (by simpa using hi)]
  rw [this]; exact h
/-- a block whose cells are known -/
theorem Blk.of_cells {w : World} {g : Nat} {T : TypeId} {n : Nat} {z : Nat → Int} {c : Array Value} (h : w.heap[g]? = some (.cells c T (0, 0))) (hc : c.size = n) (hs : Seg w g 0 n z) : Blk w g T n z := by
  unfold Blk
  rw [h]
  congr 2
  apply Array.ext'
  apply List.ext_getElem?
  intro i
  by_cases hi : i < n
  · have := hs i hi
    simp only [World.cell?, h, Nat.zero_add] at this
    have h2 := Ks_get .u8 n z i hi
    simp at this ⊢
    rw [this, ← h2]
  · rw [List.getElem?_eq_none (by simp; omega), List.getElem?_eq_none (by simp [Ks_length]; omega)]
theorem Blk.puts {w w' : World} {g : Nat} {T : TypeId} {n lo m : Nat} {z f : Nat → Int} (h : Blk w g T n z) (hp : Puts g lo m f w w') : Blk w' g T n (over z lo m f) := by
  obtain ⟨c', hc, hh⟩ := hp.only.shape _ _ _ h
  exact Blk.of_cells hh (by rw [hc]; simp [Ks_length]) (hp.seg h.seg (by omega))
theorem Blk.setCell {w : World} {g : Nat} {T : TypeId} {n : Nat} {z : Nat → Int} (h : Blk w g T n z) (i : Nat) (v : Int) (hi : i < n) : Blk (w.setCell ⟨g, i, none⟩ (.int .u8 v)) g T n (over z i 1 (fun _ => v)) := by
  have hp : Puts g i 1 (fun _ => v) w (w.setCell ⟨g, i + 0, none⟩ (.int .u8 v)) := (Puts.nil g i (fun _ => v) w).snoc (u := .int .u8 (z i)) (by have := h.seg i hi; simpa using this) rfl
  exact h.puts hp
theorem Blk.below {w w' : World} {g : Nat} {T : TypeId} {n : Nat} {z : Nat → Int} (h : Blk w g T n z) {B : Nat} (hb : Below B w w') (hg : g < B) : Blk w' g T n z := (hb.block g hg).trans h
theorem Blk.only {w w' : World} {g : Nat} {T : TypeId} {n : Nat} {z : Nat → Int} (h : Blk w g T n z) {b : Nat} (hb : Only b w w') (hg : g ≠ b) : Blk w' g T n z := (hb.block g hg).trans h
theorem Blk.alloc {w : World} {g : Nat} {T : TypeId} {n : Nat} {z : Nat → Int} (h : Blk w g T n z) (o : Obj) : Blk (w.alloc o) g T n z := (Below.heap_alloc w o g h.lt).trans h
theorem heap_alloc_keep {w : World} {g : Nat} {x : Obj} (h : w.heap[g]? = some x) (o : Obj) : (w.alloc o).heap[g]? = some x := (Below.heap_alloc w o g (Array.getElem?_eq_some_iff.1 h).1).trans h
theorem Ks_size (k : IntKind) (n : Nat) (z : Nat → Int) : (Ks k n z).toArray.size = n := by simp [Ks]
theorem Ks_one (k : IntKind) (n : Nat) (z : Nat → Int) : (Ks k n z).toArray.all (·.oneCell') = true := by
  rw [Array.all_eq_true]
  intro i hi
  simp [Ks]
  rfl
theorem Ks_congr {k : IntKind} {n : Nat} {z y : Nat → Int} (e : ∀ i, i < n → z i = y i) : Ks k n z = Ks k n y := by
  unfold Ks; apply List.map_congr_left; intro i hi; rw [e i (by simpa using hi)]
/-- two blocks that are the same -/
theorem eqB_refl (z : Nat → Int) (n : Nat) : eqB z z n = true := (eqB_iff z z n).2 fun _ _ => rfl
end Go.Proofs.YtnbmmhoofilmfaaDoor

/- What a put leaves, of any rows. -/
namespace Go.Proofs.YtnbmmhoofilmfaaDoor
open Go.RowKit
theorem PutsIf.row {c : Bool} {a : Option Addr} {at' : Int} {n : Nat} {f : Nat → Int} {w w' : World} (h : PutsIf c a at' n f w w') {m : Nat} {z : Nat → Int} (hs : Row w a m z) :
    Row w' a m (if c then over z at'.toNat n f else z) := by
  rcases hs with h0 | ⟨b, off, rfl, hs⟩
  · exact .inl h0
  · exact .inr ⟨b, off, rfl, h.seg hs⟩
theorem PutsIf.soft {c : Bool} {a : Option Addr} {at' : Int} {n : Nat} {f : Nat → Int} {w w' : World} (h : PutsIf c a at' n f w w') {x : Option Addr} {m : Nat} (hs : SoftRow w x m) : SoftRow w' x m := by
  intro b off he
  cases c with
  | true => obtain ⟨b', off', _, hp⟩ := h; exact hp.soft (hs b off he)
  | false => obtain ⟨m', rfl⟩ := h; exact hs b off he
theorem PutsIf.below {c : Bool} {a : Option Addr} {at' : Int} {n : Nat} {f : Nat → Int} {w w' : World} (h : PutsIf c a at' n f w w') {B : Nat} (hB : ∀ x, a = some x → B ≤ x.block) : Below B w w' := by
  cases c with
  | true => obtain ⟨b', off', he, hp⟩ := h; exact hp.only.below (hB _ he)
  | false => obtain ⟨m', rfl⟩ := h; exact bel_drewN (Below.refl _ _) _
theorem PutsIf.other {c : Bool} {a : Option Addr} {at' : Int} {n : Nat} {f : Nat → Int} {w w' : World} (h : PutsIf c a at' n f w w') {x : Option Addr} {m : Nat} {z : Nat → Int} (hs : Row w x m z)
    (hne : ∀ p q, a = some p → x = some q → q.block ≠ p.block) : Row w' x m z := by
  cases c with
  | true =>
    obtain ⟨b', off', he, hp⟩ := h
    exact hp.only.row (fun q hq => hne _ q he hq) hs
  | false => obtain ⟨m', rfl⟩ := h; exact hs
theorem Mine.soft {w : World} {base : Nat} {e : TypeId} {sa : Option Addr} {n cap : Nat} {z : Nat → Int} (hm : Mine w base e sa n cap z) : SoftRow w sa n := by
  intro b off he
  rcases hm.parts with ⟨h0, _⟩ | ⟨g, rfl, hg1, hgl, hc1, hs2, hf2⟩
  · rw [h0] at he; cases he
  · cases he; exact fun i hi => hf2 i (by omega)
end Go.Proofs.YtnbmmhoofilmfaaDoor

/- Blocks as words of four bytes, plainly. -/
namespace Go.Proofs.YtnbmmhoofilmfaaDoor
open Go.RowKit
set_option linter.unusedVariables false
/-- the bytes of words -/
def wz (l : Nat → Int) (i : Nat) : Int := byteOf (l (i / 4)) (i % 4)
/-- the words of bytes -/
def wd (z : Nat → Int) (k : Nat) : Int := g32 z (4 * k)
/-- all are words -/
def Wds (l : Nat → Int) : Prop := ∀ k, 0 ≤ l k ∧ l k < 4294967296
theorem wz_byt (l : Nat → Int) : Byt (wz l) := fun i => byteOf_bd _ _
theorem byteOf_0 (j : Nat) : byteOf 0 j = 0 := by unfold byteOf; simp
/-- a word written -/
def upd (l : Nat → Int) (k : Nat) (v : Int) : Nat → Int := fun j => if j = k then v else l j
theorem wz_put (l : Nat → Int) (k : Nat) (v : Int) (i : Nat) : over (wz l) (4 * k) 4 (byteOf v) i = wz (upd l k v) i := by
  unfold wz upd
  by_cases h : 4 * k ≤ i ∧ i < 4 * k + 4
  · rw [over_in _ _ _ _ _ h, if_pos (by omega)]; congr 1; omega
  · rw [over_out _ _ _ _ _ (by omega), if_neg (by omega)]
theorem wz_congr {l m : Nat → Int} (n : Nat) (h : ∀ k, k < n → l k = m k) (i : Nat) (hi : i < 4 * n) : wz l i = wz m i := by
  unfold wz; rw [h _ (by omega)]
theorem wz_zero (i : Nat) : wz (fun _ => 0) i = 0 := byteOf_0 _
/-- keys rise -/
def riseB (key : Nat → Int) : Nat → Bool
  | 0 => true
  | i + 1 => riseB key i && (i == 0 || decide (key (i - 1) < key i))
/-- a journal block's words: its kind, its number, the number behind, the rows -/
def jw (kind seq first : Int) (r : Nat → Int) (k : Nat) : Int := if k = 0 then 1280199249 else if k = 1 then kind else if k = 2 then seq else if k = 3 then first else r (k - 4)
def seqB (s : Int) : Bool := decide (1 ≤ s ∧ s ≤ 2147483648)
/-- a block of noughts -/
def nz : Nat → Int := fun _ => 0
end Go.Proofs.YtnbmmhoofilmfaaDoor

/- Blocks as rows of 128 halves (16 bits each), the superblock's and the descriptors' blocks: plain words. No program in sight. -/
namespace Go.Proofs.YtnbmmhoofilmfaaDoor
set_option linter.unusedVariables false

/-- the bytes of a row of halves -/
def hz (l : Nat → Int) (i : Nat) : Int := byteOf (l (i / 2)) (i % 2)
/-- the half at place k -/
def hd (z : Nat → Int) (k : Nat) : Int := g16 z (2 * k)
def Hvs (l : Nat → Int) : Prop := ∀ k, 0 ≤ l k ∧ l k < 65536
theorem hz_byt (l : Nat → Int) : Byt (hz l) := fun i => byteOf_bd _ _
theorem hz_hd {z : Nat → Int} (h : Byt z) (i : Nat) : hz (hd z) i = z i := by
  unfold hz hd
  rw [byteOf_g16 z h _ _ (Nat.mod_lt _ (by omega)), Nat.div_add_mod]
theorem g16_hz {l : Nat → Int} (k : Nat) (hl : 0 ≤ l k ∧ l k < 65536) : g16 (hz l) (2 * k) = l k := by
  unfold g16 hz
  rw [show 2 * k / 2 = k by omega, show (2 * k + 1) / 2 = k by omega, show 2 * k % 2 = 0 by omega, show (2 * k + 1) % 2 = 1 by omega]
  exact byteOf_sum2 _ hl.1 hl.2
theorem hz_put (l : Nat → Int) (k : Nat) (v : Int) (i : Nat) : over (hz l) (2 * k) 2 (byteOf v) i = hz (upd l k v) i := by
  unfold over hz upd
  by_cases h : 2 * k ≤ i ∧ i < 2 * k + 2
  · rw [if_pos h, if_pos (show i / 2 = k by omega)]; congr 1; omega
  · rw [if_neg h, if_neg (show ¬ i / 2 = k by omega)]
theorem byteOf_lo (v : Int) (i : Nat) (hi : i < 2) : byteOf (v % 65536) i = byteOf v i := by
  unfold byteOf
  have : i = 0 ∨ i = 1 := by omega
  rcases this with rfl | rfl
  · simp <;> omega
  · simp <;> omega
theorem byteOf_hi (v : Int) (i : Nat) : byteOf (v / 65536) i = byteOf v (i + 2) := by
  rw [show i + 2 = (i + 1) + 1 by omega, byteOf_succ, byteOf_succ]
  congr 1; omega
/-- a number of 32 bits at an even place -/
def upd2 (l : Nat → Int) (k : Nat) (v : Int) : Nat → Int := upd (upd l k (v % 65536)) (k + 1) (v / 65536)
theorem hz_put4 (l : Nat → Int) (k : Nat) (v : Int) (i : Nat) : over (hz l) (2 * k) 4 (byteOf v) i = hz (upd2 l k v) i := by
  unfold over hz upd2 upd
  by_cases h : 2 * k ≤ i ∧ i < 2 * k + 4
  · rw [if_pos h]
    by_cases h2 : i < 2 * k + 2
    · rw [if_neg (show ¬ i / 2 = k + 1 by omega), if_pos (show i / 2 = k by omega), byteOf_lo _ _ (Nat.mod_lt _ (by omega))]; congr 1; omega
    · rw [if_pos (show i / 2 = k + 1 by omega), byteOf_hi]; congr 1; omega
  · rw [if_neg h, if_neg (show ¬ i / 2 = k + 1 by omega), if_neg (show ¬ i / 2 = k by omega)]
theorem hz_zero (i : Nat) : hz (fun _ => 0) i = 0 := byteOf_0 _
theorem g32_hz {l : Nat → Int} (hl : Hvs l) (k : Nat) : g32 (hz l) (2 * k) = l k + 65536 * l (k + 1) := by
  rw [g32_halves, g16_hz k (hl k), show 2 * k + 2 = 2 * (k + 1) by omega, g16_hz (k + 1) (hl _)]
theorem upd_hvs {l : Nat → Int} (hl : Hvs l) (k : Nat) {v : Int} (hv : 0 ≤ v ∧ v < 65536) : Hvs (upd l k v) := by
  intro j; unfold upd; split
  · exact hv
  · exact hl j
theorem upd2_hvs {l : Nat → Int} (hl : Hvs l) (k : Nat) {v : Int} (hv : 0 ≤ v ∧ v < 4294967296) : Hvs (upd2 l k v) := upd_hvs (upd_hvs hl _ (by omega)) _ (by omega)
theorem allZ_hd {z : Nat → Int} (hzb : Byt z) (k n : Nat) : allZ (fun i => z (2 * k + i)) (2 * n) = allZ (fun j => hd z (k + j)) n := by
  rw [Bool.eq_iff_iff, allZ_iff, allZ_iff]
  constructor
  · intro h j hj
    have h0 := h (2 * j) (by omega)
    have h1 := h (2 * j + 1) (by omega)
    show g16 z (2 * (k + j)) = 0
    unfold g16
    rw [show 2 * (k + j) = 2 * k + 2 * j by omega, h0, Nat.add_assoc, h1]; rfl
  · intro h i hi
    have hj : g16 z (2 * (k + i / 2)) = 0 := h (i / 2) (by omega)
    have b0 := hzb (2 * (k + i / 2))
    have b1 := hzb (2 * (k + i / 2) + 1)
    unfold g16 at hj
    have : i = 2 * (i / 2) ∨ i = 2 * (i / 2) + 1 := by omega
    rcases this with e | e
    · rw [show 2 * k + i = 2 * (k + i / 2) by omega]; omega
    · rw [show 2 * k + i = 2 * (k + i / 2) + 1 by omega]; omega
/-- a block with its sum -/
def sealZ (z : Nat → Int) : Nat → Int := over z 252 4 (byteOf (crcZ z 252))
/-- the sum is right -/
def sumB (z : Nat → Int) : Bool := g32 z 252 == crcZ z 252
theorem sealZ_byt {z : Nat → Int} (h : Byt z) : Byt (sealZ z) := byt_over h (byt_byteOf _) _ _
theorem sealZ_low (z : Nat → Int) (i : Nat) (hi : i < 252) : sealZ z i = z i := over_out _ _ _ _ _ (.inl hi)
theorem crc_seal (z : Nat → Int) : crcZ (sealZ z) 252 = crcZ z 252 := crcZ_congr fun i hi => sealZ_low z i hi
theorem sumB_seal (z : Nat → Int) : sumB (sealZ z) = true := by
  unfold sumB
  rw [crc_seal]
  unfold sealZ
  rw [g32_over _ _ _ (crcZ_bd _ _).1 (crcZ_bd _ _).2]
  simp
end Go.Proofs.YtnbmmhoofilmfaaDoor

/- The bits of a block: byte k holds bits 8 k .. 8 k + 7. No program in sight. -/
namespace Go.Proofs.YtnbmmhoofilmfaaDoor
open Go.RowKit
set_option linter.unusedVariables false

def b8 (a b c d e f g h : Bool) : Nat := a.toNat + 2 * b.toNat + 4 * c.toNat + 8 * d.toNat + 16 * e.toNat + 32 * f.toNat + 64 * g.toNat + 128 * h.toNat
def by8 (P : Nat → Bool) (k : Nat) : Nat := b8 (P (8 * k)) (P (8 * k + 1)) (P (8 * k + 2)) (P (8 * k + 3)) (P (8 * k + 4)) (P (8 * k + 5)) (P (8 * k + 6)) (P (8 * k + 7))
def bZ (P : Nat → Bool) (k : Nat) : Int := (by8 P k : Nat)
theorem b8_lt : ∀ a b c d e f g h : Bool, b8 a b c d e f g h < 256 := by decide
theorem by8_lt (P : Nat → Bool) (k : Nat) : by8 P k < 256 := b8_lt _ _ _ _ _ _ _ _
theorem bZ_byt (P : Nat → Bool) : Byt (bZ P) := fun i => by have := by8_lt P i; unfold bZ; omega
def setB (P : Nat → Bool) (i : Nat) : Nat → Bool := fun j => if j = i then true else P j
theorem or0 : ∀ a b c d e f g h : Bool, b8 a b c d e f g h ||| 1 = b8 true b c d e f g h := by decide
theorem or1 : ∀ a b c d e f g h : Bool, b8 a b c d e f g h ||| 2 = b8 a true c d e f g h := by decide
theorem or2 : ∀ a b c d e f g h : Bool, b8 a b c d e f g h ||| 4 = b8 a b true d e f g h := by decide
theorem or3 : ∀ a b c d e f g h : Bool, b8 a b c d e f g h ||| 8 = b8 a b c true e f g h := by decide
theorem or4 : ∀ a b c d e f g h : Bool, b8 a b c d e f g h ||| 16 = b8 a b c d true f g h := by decide
theorem or5 : ∀ a b c d e f g h : Bool, b8 a b c d e f g h ||| 32 = b8 a b c d e true g h := by decide
theorem or6 : ∀ a b c d e f g h : Bool, b8 a b c d e f g h ||| 64 = b8 a b c d e f true h := by decide
theorem or7 : ∀ a b c d e f g h : Bool, b8 a b c d e f g h ||| 128 = b8 a b c d e f g true := by decide
theorem an0 : ∀ a b c d e f g h : Bool, (b8 a b c d e f g h &&& 1) = 1 * a.toNat := by decide
theorem an1 : ∀ a b c d e f g h : Bool, (b8 a b c d e f g h &&& 2) = 2 * b.toNat := by decide
theorem an2 : ∀ a b c d e f g h : Bool, (b8 a b c d e f g h &&& 4) = 4 * c.toNat := by decide
theorem an3 : ∀ a b c d e f g h : Bool, (b8 a b c d e f g h &&& 8) = 8 * d.toNat := by decide
theorem an4 : ∀ a b c d e f g h : Bool, (b8 a b c d e f g h &&& 16) = 16 * e.toNat := by decide
theorem an5 : ∀ a b c d e f g h : Bool, (b8 a b c d e f g h &&& 32) = 32 * f.toNat := by decide
theorem an6 : ∀ a b c d e f g h : Bool, (b8 a b c d e f g h &&& 64) = 64 * g.toNat := by decide
theorem an7 : ∀ a b c d e f g h : Bool, (b8 a b c d e f g h &&& 128) = 128 * h.toNat := by decide
theorem by8_or (P : Nat → Bool) (k j : Nat) (hj : j < 8) : by8 P k ||| 2 ^ j = by8 (setB P (8 * k + j)) k := by
  have hS : ∀ m, m < 8 → setB P (8 * k + j) (8 * k + m) = if m = j then true else P (8 * k + m) := fun m hm => by
    unfold setB
    by_cases e : m = j
    · rw [if_pos e, if_pos (by omega)]
    · rw [if_neg e, if_neg (by omega)]
  have h0 := hS 0 (by omega)
  rw [Nat.add_zero] at h0
  unfold by8
  rw [h0, hS 1 (by omega), hS 2 (by omega), hS 3 (by omega), hS 4 (by omega), hS 5 (by omega), hS 6 (by omega), hS 7 (by omega)]
  have : j = 0 ∨ j = 1 ∨ j = 2 ∨ j = 3 ∨ j = 4 ∨ j = 5 ∨ j = 6 ∨ j = 7 := by omega
  rcases this with rfl | rfl | rfl | rfl | rfl | rfl | rfl | rfl
  · exact or0 _ _ _ _ _ _ _ _
  · exact or1 _ _ _ _ _ _ _ _
  · exact or2 _ _ _ _ _ _ _ _
  · exact or3 _ _ _ _ _ _ _ _
  · exact or4 _ _ _ _ _ _ _ _
  · exact or5 _ _ _ _ _ _ _ _
  · exact or6 _ _ _ _ _ _ _ _
  · exact or7 _ _ _ _ _ _ _ _
theorem by8_and (P : Nat → Bool) (k j : Nat) (hj : j < 8) : by8 P k &&& 2 ^ j = 2 ^ j * (P (8 * k + j)).toNat := by
  unfold by8
  have : j = 0 ∨ j = 1 ∨ j = 2 ∨ j = 3 ∨ j = 4 ∨ j = 5 ∨ j = 6 ∨ j = 7 := by omega
  rcases this with rfl | rfl | rfl | rfl | rfl | rfl | rfl | rfl
  · exact an0 _ _ _ _ _ _ _ _
  · exact an1 _ _ _ _ _ _ _ _
  · exact an2 _ _ _ _ _ _ _ _
  · exact an3 _ _ _ _ _ _ _ _
  · exact an4 _ _ _ _ _ _ _ _
  · exact an5 _ _ _ _ _ _ _ _
  · exact an6 _ _ _ _ _ _ _ _
  · exact an7 _ _ _ _ _ _ _ _
theorem by8_other (P : Nat → Bool) {i k : Nat} (h : k ≠ i / 8) : by8 (setB P i) k = by8 P k := by
  unfold by8 setB
  rw [if_neg (by omega), if_neg (by omega), if_neg (by omega), if_neg (by omega), if_neg (by omega), if_neg (by omega), if_neg (by omega), if_neg (by omega)]
end Go.Proofs.YtnbmmhoofilmfaaDoor
