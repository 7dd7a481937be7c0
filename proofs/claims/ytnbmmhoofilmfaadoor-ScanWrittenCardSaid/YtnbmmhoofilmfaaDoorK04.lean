/- Texts of this claim, merged by a program (a claim may have 60 files): Eq, Open, Blk, PutsIf, Wz, U6p. -/
import Derived.Test.YtnbmmhoofilmfaaDoorK01
import Derived.ChangeKeysEq
import Derived.Laws.StructEq
import Derived.WalkKit
import Derived.ProofKit
import Derived.OpenShut
import Derived.ChangeOld
import Derived.Below
import Derived.Deep.MidRow
import Derived.Test.YtnbmmhoofilmfaaDoorK03
import Derived.Test.YtnbmmhoofilmfaaDoorK02
/- '==' of arrays of integers, over any program. -/
namespace Go.Proofs.YtnbmmhoofilmfaaDoor
open Go.RowKit
/-- n integers of a kind as values -/
def Ks (k : IntKind) (n : Nat) (z : Nat → Int) : List Value := (List.range n).map fun i => .int k (z i)
theorem Ks_length (k : IntKind) (n : Nat) (z : Nat → Int) : (Ks k n z).length = n := by simp [Ks]
theorem Ks_get (k : IntKind) (n : Nat) (z : Nat → Int) (i : Nat) (h : i < n) : (Ks k n z)[i]? = some (.int k (z i)) := by simp [Ks, h]
theorem Bs_eq (n : Nat) (z : Nat → Int) : Bs n z = Ks .u8 n z := rfl

theorem allRange (z y : Nat → Int) (n : Nat) : ((List.range n).all fun i => z i == y i) = eqB z y n := by
  rw [Bool.eq_iff_iff, eqB_iff, List.all_eq_true]
  simp
theorem run_equalIn_ints {P : Program} (w : World) (d : Nat) {t e : TypeId} {n : Nat} {i : TypeInfo} {k : IntKind} (hu : P.underlying t = some (.array n e)) (hi : P.info? e = some i) (he : P.underlying e = some (.int k)) (hce : P.cellsOf e = 1)
    (z y : Nat → Int) : (Op.equalIn (d + 2) t (.agg (Ks k n z).toArray) (.agg (Ks k n y).toArray)).run P w = .ok (eqB z y n) w := by
  rw [show d + 2 = (d + 1) + 1 from rfl, run_equalIn_array w (d + 1) _ _ hu hi, hce, ← allRange z y n]
  have hl : ∀ j ∈ List.range n, j < n := fun j hj => by simpa using hj
  generalize List.range n = l at hl ⊢
  induction l with
  | nil => simp [Op.eqItems]
  | cons j l ih =>
    have hj : j < n := hl j (by simp)
    have px : ∀ u : Nat → Int, (part e (Ks k n u).toArray (j * 1)).run P w = .ok (.int k (u j)) w := fun u => by
      simp [part, isAgg, run_underlying he, Ks_get k n u j hj]
    simp only [Op.eqItems, Sem.run_bind, px, Result.andThen_ok, run_equalIn_int w d e k k _ _ he, List.all_cons]
    cases hb : (z j == y j)
    · simp
    · simp only [Bool.true_and]
      simp only [Bool.not_true, Bool.false_eq_true, if_false]
      first | exact ih (fun j hj => hl j (by simp [hj])) | (simp; exact ih (fun j hj => hl j (by simp [hj])))
theorem run_eql_ints {P : Program} (w : World) {t e : TypeId} {n : Nat} {i : TypeInfo} {k : IntKind} (hu : P.underlying t = some (.array n e)) (hi : P.info? e = some i) (he : P.underlying e = some (.int k)) (hce : P.cellsOf e = 1)
    (z y : Nat → Int) : (binOp .eql t (.agg (Ks k n z).toArray) (.agg (Ks k n y).toArray)).run P w = .ok (.bool (eqB z y n)) w := by
  rw [run_eql_struct, show (10000 : Nat) = 9998 + 2 from rfl, run_equalIn_ints w 9998 hu hi he hce z y]; rfl
theorem run_neq_ints {P : Program} (w : World) {t e : TypeId} {n : Nat} {i : TypeInfo} {k : IntKind} (hu : P.underlying t = some (.array n e)) (hi : P.info? e = some i) (he : P.underlying e = some (.int k)) (hce : P.cellsOf e = 1)
    (z y : Nat → Int) : (binOp .neq t (.agg (Ks k n z).toArray) (.agg (Ks k n y).toArray)).run P w = .ok (.bool (!eqB z y n)) w := by
  rw [run_neq_struct, show (10000 : Nat) = 9998 + 2 from rfl, run_equalIn_ints w 9998 hu hi he hce z y]; rfl
end Go.Proofs.YtnbmmhoofilmfaaDoor

/- Arguments that are rows of integers (arrays, structs), opened: what a law's frame tells its walk. No program in sight. -/
namespace Go.Proofs.YtnbmmhoofilmfaaDoor
open Go.RowKit
set_option linter.unusedVariables false
variable {P : Program} {W : World} {base : Nat} {t : TypeId} {v : Value}

theorem int_of_cell {u : TypeId} {k : IntKind} {c : Value} (hu : P.underlying u = some (.int k)) (h : Cell.okWide P W .any base u c) : ∃ n, c = .int k n ∧ k.has n := by
  unfold Cell.okWide at h
  rw [hu] at h
  unfold Cell.ok at h
  rw [hu] at h
  cases c <;> simp at h ⊢
  obtain ⟨rfl, h⟩ := h
  exact ⟨_, ⟨rfl, rfl⟩, h⟩

/-- a row of integers of the kinds ks -/
theorem open_row (ks : List IntKind) (h : Value.okWide P W .any base t v) (hrow : ((P.underlying t).map (·.isRow)) = some true)
    (hts : (P.cellTypes P.depth t).map (fun ts => ts.map P.underlying) = some (ks.map fun k => some (.int k))) (hn : P.cellsOf t = ks.length) :
    ∃ z : Nat → Int, v = .agg ((List.range ks.length).map fun i => .int (ks.getD i .u8) (z i)).toArray ∧ (∀ i, i < ks.length → (ks.getD i .u8).has (z i)) ∧ ∀ i, ks.length ≤ i → z i = 0 := by
  have hv : ∃ cs, v = .agg cs ∧ cs.size = P.cellsOf t ∧ Row.okWide P W .any base t cs := by
    unfold Value.okWide at h
    cases hu : P.underlying t with
    | none => rw [hu] at hrow; cases hrow
    | some d => rw [hu] at hrow h; cases d <;> simp [TypeDesc.isRow] at hrow <;> exact h
  obtain ⟨cs, rfl, hs, ts, hct, _, hc⟩ := hv
  rw [hct, Option.map_some, Option.some.injEq] at hts
  have hl : ts.length = ks.length := by simpa using congrArg List.length hts
  have hcell : ∀ i, i < ks.length → ∃ n, cs[i]? = some (.int (ks.getD i .u8) n) ∧ (ks.getD i .u8).has n := by
    intro i hi
    obtain ⟨u, hu, ho⟩ := hc i (cs[i]'(by omega)) (by simp)
    rw [Nat.mod_eq_of_lt (by omega)] at hu
    have : (ts.map P.underlying)[i]? = some (some (.int (ks.getD i .u8))) := by rw [hts]; simp [hi]
    rw [List.getElem?_map, hu, Option.map_some, Option.some.injEq] at this
    obtain ⟨n, he, hh⟩ := int_of_cell this ho
    exact ⟨n, by rw [← he]; simp, hh⟩
  refine ⟨fun i => if h : i < ks.length then (hcell i h).choose else 0, ?_, fun i hi => by simp only [hi, dif_pos]; exact (hcell i hi).choose_spec.2, fun i hi => dif_neg (by omega)⟩
  congr 1
  apply Array.ext_getElem?
  intro i
  by_cases hi : i < ks.length
  · rw [(hcell i hi).choose_spec.1]; simp [hi]
  · simp [hi]; omega

theorem kHas {k : IntKind} {n : Int} (h : k.has n) : k.min ≤ n ∧ n ≤ k.max := h

/-- an integer -/
theorem open_i {k : IntKind} (hu : P.underlying t = some (.int k)) (h : Value.okWide P W .any base t v) : ∃ n, v = .int k n ∧ k.min ≤ n ∧ n ≤ k.max := by
  unfold Value.okWide at h
  rw [hu] at h
  exact int_of_cell hu h
theorem open_s (hu : P.underlying t = some .string) (h : Value.okWide P W .any base t v) : ∃ s : ByteArray, v = .string s ∧ (s.size : Int) ≤ IntKind.i64.max := by
  unfold Value.okWide at h
  rw [hu] at h
  unfold Cell.okWide at h
  rw [hu] at h
  unfold Cell.ok at h
  rw [hu] at h
  cases v <;> simp at h ⊢
  exact h
/-- an array of bytes -/
theorem open_bytes (n : Nat) (h : Value.okWide P W .any base t v) (hrow : ((P.underlying t).map (·.isRow)) = some true)
    (hts : (P.cellTypes P.depth t).map (fun ts => ts.map P.underlying) = some ((List.replicate n IntKind.u8).map fun k => some (.int k))) (hn : P.cellsOf t = n) :
    ∃ z : Nat → Int, v = .agg (Ks .u8 n z).toArray ∧ ∀ i, 0 ≤ z i ∧ z i < 256 := by
  obtain ⟨z, rfl, hz, h0⟩ := open_row (List.replicate n IntKind.u8) h hrow hts (by simpa using hn)
  simp only [List.length_replicate] at hz h0 ⊢
  refine ⟨z, ?_, ?_⟩
  · unfold Ks
    congr 2
    apply List.map_congr_left
    intro i hi
    rw [List.mem_range] at hi
    simp [List.getD, hi]
  · intro i
    by_cases hi : i < n
    · have := kHas (hz i hi)
      simp [List.getD, hi, IntKind.min, IntKind.max, IntKind.signed, IntKind.bits] at this
      omega
    · rw [h0 i (by omega)]; omega
end Go.Proofs.YtnbmmhoofilmfaaDoor

/- A block of bytes that fills a heap block: read, written, loaded whole. No program in sight. -/
namespace Go.Proofs.YtnbmmhoofilmfaaDoor
open Go.RowKit
set_option linter.unusedVariables false
/-- heap block g is n bytes z -/
def Blk (w : World) (g : Nat) (T : TypeId) (n : Nat) (z : Nat → Int) : Prop := w.heap[g]? = some (.cells (Ks .u8 n z).toArray T (0, 0))
theorem cell_of_heap {w : World} {g : Nat} {cs : Array Value} {t : TypeId} {fr : Nat × Nat} (h : w.heap[g]? = some (.cells cs t fr)) {i : Nat} {v : Value} (hi : cs[i]? = some v) : w.cell? ⟨g, i, none⟩ = some v := by
  simp only [World.cell?, h]; simpa using hi
theorem soft_of_heap {w : World} {g : Nat} {cs : Array Value} {t : TypeId} (h : w.heap[g]? = some (.cells cs t (0, 0))) (i : Nat) : w.frozen? ⟨g, i, none⟩ = false := by
  simp only [World.frozen?, h]; simp
theorem Blk.lt {w : World} {g : Nat} {T : TypeId} {n : Nat} {z : Nat → Int} (h : Blk w g T n z) : g < w.heap.size := (Array.getElem?_eq_some_iff.1 h).1
theorem Blk.seg {w : World} {g : Nat} {T : TypeId} {n : Nat} {z : Nat → Int} (h : Blk w g T n z) : Seg w g 0 n z := fun i hi =>
  cell_of_heap h (by rw [Nat.zero_add]; simpa using Ks_get .u8 n z i hi)
theorem Blk.soft {w : World} {g : Nat} {T : TypeId} {n : Nat} {z : Nat → Int} (h : Blk w g T n z) (off m : Nat) : Soft w g off m := fun i _ => soft_of_heap h _
theorem Blk.new (w : World) (T : TypeId) (n : Nat) (z : Nat → Int) : Blk (w.alloc (.cells (Ks .u8 n z).toArray T)) w.heap.size T n z := heap_alloc_new w _
theorem Blk.drewN {w : World} {g : Nat} {T : TypeId} {n : Nat} {z : Nat → Int} (h : Blk w g T n z) (m : Nat) : Blk (w.drewN m) g T n z := h
theorem Blk.congr {w : World} {g : Nat} {T : TypeId} {n : Nat} {z y : Nat → Int} (h : Blk w g T n z) (e : ∀ i, i < n → z i = y i) : Blk w g T n y := by
  unfold Blk
  have : Ks .u8 n y = Ks .u8 n z := by unfold Ks; apply List.map_congr_left; intro i hi; rw [e i (by simpa using hi)]
  rw [this]; exact h
/-- a block whose cells are known -/
theorem Blk.of_cells {w : World} {g : Nat} {T : TypeId} {n : Nat} {z : Nat → Int} {c : Array Value} (h : w.heap[g]? = some (.cells c T (0, 0))) (hc : c.size = n) (hs : Seg w g 0 n z) : Blk w g T n z := by
  unfold Blk
  rw [h]
  congr 2
  apply Array.ext'
  apply List.ext_getElem?
  intro i
  by_cases hi : i < n
  · have := hs i hi
    simp only [World.cell?, h, Nat.zero_add] at this
    have h2 := Ks_get .u8 n z i hi
    simp at this ⊢
    rw [this, ← h2]
  · rw [List.getElem?_eq_none (by simp; omega), List.getElem?_eq_none (by simp [Ks_length]; omega)]
theorem Blk.puts {w w' : World} {g : Nat} {T : TypeId} {n lo m : Nat} {z f : Nat → Int} (h : Blk w g T n z) (hp : Puts g lo m f w w') : Blk w' g T n (over z lo m f) := by
  obtain ⟨c', hc, hh⟩ := hp.only.shape _ _ _ h
  exact Blk.of_cells hh (by rw [hc]; simp [Ks_length]) (hp.seg h.seg (by omega))
theorem Blk.setCell {w : World} {g : Nat} {T : TypeId} {n : Nat} {z : Nat → Int} (h : Blk w g T n z) (i : Nat) (v : Int) (hi : i < n) : Blk (w.setCell ⟨g, i, none⟩ (.int .u8 v)) g T n (over z i 1 (fun _ => v)) := by
  have hp : Puts g i 1 (fun _ => v) w (w.setCell ⟨g, i + 0, none⟩ (.int .u8 v)) := (Puts.nil g i (fun _ => v) w).snoc (u := .int .u8 (z i)) (by have := h.seg i hi; simpa using this) rfl
  exact h.puts hp
theorem Blk.below {w w' : World} {g : Nat} {T : TypeId} {n : Nat} {z : Nat → Int} (h : Blk w g T n z) {B : Nat} (hb : Below B w w') (hg : g < B) : Blk w' g T n z := (hb.block g hg).trans h
theorem Blk.only {w w' : World} {g : Nat} {T : TypeId} {n : Nat} {z : Nat → Int} (h : Blk w g T n z) {b : Nat} (hb : Only b w w') (hg : g ≠ b) : Blk w' g T n z := (hb.block g hg).trans h
theorem Blk.alloc {w : World} {g : Nat} {T : TypeId} {n : Nat} {z : Nat → Int} (h : Blk w g T n z) (o : Obj) : Blk (w.alloc o) g T n z := (Below.heap_alloc w o g h.lt).trans h
theorem heap_alloc_keep {w : World} {g : Nat} {x : Obj} (h : w.heap[g]? = some x) (o : Obj) : (w.alloc o).heap[g]? = some x := (Below.heap_alloc w o g (Array.getElem?_eq_some_iff.1 h).1).trans h
theorem Ks_size (k : IntKind) (n : Nat) (z : Nat → Int) : (Ks k n z).toArray.size = n := by simp [Ks]
theorem Ks_one (k : IntKind) (n : Nat) (z : Nat → Int) : (Ks k n z).toArray.all (·.oneCell') = true := by
  rw [Array.all_eq_true]
  intro i hi
  simp [Ks]
  rfl
theorem Ks_congr {k : IntKind} {n : Nat} {z y : Nat → Int} (e : ∀ i, i < n → z i = y i) : Ks k n z = Ks k n y := by
  unfold Ks; apply List.map_congr_left; intro i hi; rw [e i (by simpa using hi)]
/-- two blocks that are the same -/
theorem eqB_refl (z : Nat → Int) (n : Nat) : eqB z z n = true := (eqB_iff z z n).2 fun _ _ => rfl
end Go.Proofs.YtnbmmhoofilmfaaDoor

/- What a put leaves, of any rows. -/
namespace Go.Proofs.YtnbmmhoofilmfaaDoor
open Go.RowKit
theorem PutsIf.row {c : Bool} {a : Option Addr} {at' : Int} {n : Nat} {f : Nat → Int} {w w' : World} (h : PutsIf c a at' n f w w') {m : Nat} {z : Nat → Int} (hs : Row w a m z) :
    Row w' a m (if c then over z at'.toNat n f else z) := by
  rcases hs with h0 | ⟨b, off, rfl, hs⟩
  · exact .inl h0
  · exact .inr ⟨b, off, rfl, h.seg hs⟩
theorem PutsIf.soft {c : Bool} {a : Option Addr} {at' : Int} {n : Nat} {f : Nat → Int} {w w' : World} (h : PutsIf c a at' n f w w') {x : Option Addr} {m : Nat} (hs : SoftRow w x m) : SoftRow w' x m := by
  intro b off he
  cases c with
  | true => obtain ⟨b', off', _, hp⟩ := h; exact hp.soft (hs b off he)
  | false => obtain ⟨m', rfl⟩ := h; exact hs b off he
theorem PutsIf.below {c : Bool} {a : Option Addr} {at' : Int} {n : Nat} {f : Nat → Int} {w w' : World} (h : PutsIf c a at' n f w w') {B : Nat} (hB : ∀ x, a = some x → B ≤ x.block) : Below B w w' := by
  cases c with
  | true => obtain ⟨b', off', he, hp⟩ := h; exact hp.only.below (hB _ he)
  | false => obtain ⟨m', rfl⟩ := h; exact bel_drewN (Below.refl _ _) _
theorem PutsIf.other {c : Bool} {a : Option Addr} {at' : Int} {n : Nat} {f : Nat → Int} {w w' : World} (h : PutsIf c a at' n f w w') {x : Option Addr} {m : Nat} {z : Nat → Int} (hs : Row w x m z)
    (hne : ∀ p q, a = some p → x = some q → q.block ≠ p.block) : Row w' x m z := by
  cases c with
  | true =>
    obtain ⟨b', off', he, hp⟩ := h
    exact hp.only.row (fun q hq => hne _ q he hq) hs
  | false => obtain ⟨m', rfl⟩ := h; exact hs
theorem Mine.soft {w : World} {base : Nat} {e : TypeId} {sa : Option Addr} {n cap : Nat} {z : Nat → Int} (hm : Mine w base e sa n cap z) : SoftRow w sa n := by
  intro b off he
  rcases hm.parts with ⟨h0, _⟩ | ⟨g, rfl, hg1, hgl, hc1, hs2, hf2⟩
  · rw [h0] at he; cases he
  · cases he; exact fun i hi => hf2 i (by omega)
end Go.Proofs.YtnbmmhoofilmfaaDoor

/- Blocks as words of four bytes, plainly. -/
namespace Go.Proofs.YtnbmmhoofilmfaaDoor
open Go.RowKit
set_option linter.unusedVariables false
/-- the bytes of words -/
def wz (l : Nat → Int) (i : Nat) : Int := byteOf (l (i / 4)) (i % 4)
/-- the words of bytes -/
def wd (z : Nat → Int) (k : Nat) : Int := g32 z (4 * k)
/-- all are words -/
def Wds (l : Nat → Int) : Prop := ∀ k, 0 ≤ l k ∧ l k < 4294967296
theorem wz_byt (l : Nat → Int) : Byt (wz l) := fun i => byteOf_bd _ _
theorem wd_wds {z : Nat → Int} (hz : Byt z) : Wds (wd z) := fun k => g32_bd hz _
theorem wz_wd {z : Nat → Int} (hz : Byt z) (i : Nat) : wz (wd z) i = z i := by
  unfold wz wd
  rw [byteOf_g32 z hz _ _ (by omega)]
  congr 1; omega
theorem g32_wz {l : Nat → Int} (k : Nat) (hl : 0 ≤ l k ∧ l k < 4294967296) : g32 (wz l) (4 * k) = l k := by
  unfold g32 wz
  rw [show 4 * k / 4 = k by omega, show (4 * k + 1) / 4 = k by omega, show (4 * k + 2) / 4 = k by omega, show (4 * k + 3) / 4 = k by omega, show 4 * k % 4 = 0 by omega, show (4 * k + 1) % 4 = 1 by omega, show (4 * k + 2) % 4 = 2 by omega, show (4 * k + 3) % 4 = 3 by omega]
  exact byteOf_sum4 _ hl.1 hl.2
theorem wd_wz {l : Nat → Int} (hl : Wds l) (k : Nat) : wd (wz l) k = l k := g32_wz k (hl k)
theorem byteOf_0 (j : Nat) : byteOf 0 j = 0 := by unfold byteOf; simp
/-- a word written -/
def upd (l : Nat → Int) (k : Nat) (v : Int) : Nat → Int := fun j => if j = k then v else l j
theorem wz_put (l : Nat → Int) (k : Nat) (v : Int) (i : Nat) : over (wz l) (4 * k) 4 (byteOf v) i = wz (upd l k v) i := by
  unfold wz upd
  by_cases h : 4 * k ≤ i ∧ i < 4 * k + 4
  · rw [over_in _ _ _ _ _ h, if_pos (by omega)]; congr 1; omega
  · rw [over_out _ _ _ _ _ (by omega), if_neg (by omega)]
theorem wz_congr {l m : Nat → Int} (n : Nat) (h : ∀ k, k < n → l k = m k) (i : Nat) (hi : i < 4 * n) : wz l i = wz m i := by
  unfold wz; rw [h _ (by omega)]
theorem wz_zero (i : Nat) : wz (fun _ => 0) i = 0 := byteOf_0 _
/-- are two blocks the same? -/
theorem eqB_wz {l m : Nat → Int} (hl : Wds l) (hm : Wds m) (n : Nat) : eqB (wz l) (wz m) (4 * n) = eqB l m n := by
  rw [Bool.eq_iff_iff, eqB_iff, eqB_iff]
  constructor
  · intro h k hk
    rw [← wd_wz hl k, ← wd_wz hm k]
    unfold wd g32
    rw [h _ (by omega), h _ (by omega), h _ (by omega), h _ (by omega)]
  · intro h i hi
    exact wz_congr n h i hi
theorem allZ_wd {z : Nat → Int} (hz : Byt z) (k n : Nat) : allZ (fun i => z (4 * k + i)) (4 * n) = allZ (fun j => wd z (k + j)) n := by
  rw [Bool.eq_iff_iff, allZ_iff, allZ_iff]
  constructor
  · intro h j hj
    have h0 := h (4 * j) (by omega); have h1 := h (4 * j + 1) (by omega); have h2 := h (4 * j + 2) (by omega); have h3 := h (4 * j + 3) (by omega)
    unfold wd g32
    rw [show 4 * (k + j) = 4 * k + 4 * j by omega]
    simp only [Nat.add_assoc] at *
    omega
  · intro h i hi
    have := h (i / 4) (by omega)
    have e := wz_wd hz (4 * k + i)
    unfold wz at e
    rw [← e, show (4 * k + i) / 4 = k + i / 4 by omega, this]
    exact byteOf_0 _
/-- keys rise -/
def riseB (key : Nat → Int) : Nat → Bool
  | 0 => true
  | i + 1 => riseB key i && (i == 0 || decide (key (i - 1) < key i))
theorem riseB_succ (key : Nat → Int) (i : Nat) : riseB key (i + 1) = (riseB key i && (i == 0 || decide (key (i - 1) < key i))) := rfl
theorem riseB_iff (key : Nat → Int) (n : Nat) : riseB key n = true ↔ ∀ i, 0 < i → i < n → key (i - 1) < key i := by
  induction n with
  | zero => simp [riseB]
  | succ n ih =>
    rw [riseB_succ, Bool.and_eq_true, ih, Bool.or_eq_true, beq_iff_eq, decide_eq_true_eq]
    constructor
    · rintro ⟨h, g⟩ i h0 hi
      by_cases e : i = n
      · subst e
        rcases g with g | g
        · omega
        · exact g
      · exact h i h0 (by omega)
    · intro h
      refine ⟨fun i h0 hi => h i h0 (by omega), ?_⟩
      by_cases e : n = 0
      · exact .inl e
      · exact .inr (h n (by omega) (by omega))
theorem riseB_no {key : Nat → Int} {n i : Nat} (h0 : 0 < i) (hi : i < n) (h : ¬ key (i - 1) < key i) : riseB key n = false := by
  cases e : riseB key n with
  | false => rfl
  | true => exact absurd ((riseB_iff key n).1 e i h0 hi) h
theorem riseB_congr {k1 k2 : Nat → Int} {n : Nat} (h : ∀ i, i < n → k1 i = k2 i) : riseB k1 n = riseB k2 n := by
  rw [Bool.eq_iff_iff, riseB_iff, riseB_iff]
  exact ⟨fun g i h0 hi => by rw [← h _ (by omega), ← h _ hi]; exact g i h0 hi, fun g i h0 hi => by rw [h _ (by omega), h _ hi]; exact g i h0 hi⟩
/-- a journal block's words: its kind, its number, the number behind, the rows -/
def jw (kind seq first : Int) (r : Nat → Int) (k : Nat) : Int := if k = 0 then 1280199249 else if k = 1 then kind else if k = 2 then seq else if k = 3 then first else r (k - 4)
theorem jw_wds {kind seq first : Int} {r : Nat → Int} (h1 : 0 ≤ kind ∧ kind < 4294967296) (h2 : 0 ≤ seq ∧ seq < 4294967296) (h3 : 0 ≤ first ∧ first < 4294967296) (hr : Wds r) : Wds (jw kind seq first r) := by
  intro k; unfold jw
  split
  · omega
  · split
    · exact h1
    · split
      · exact h2
      · split
        · exact h3
        · exact hr _
def seqB (s : Int) : Bool := decide (1 ≤ s ∧ s ≤ 2147483648)
/-- a block of noughts -/
def nz : Nat → Int := fun _ => 0
end Go.Proofs.YtnbmmhoofilmfaaDoor

/- Blocks as rows of 128 halves (16 bits each), the superblock's and the descriptors' blocks: plain words. No program in sight. -/
namespace Go.Proofs.YtnbmmhoofilmfaaDoor
set_option linter.unusedVariables false

/-- the bytes of a row of halves -/
def hz (l : Nat → Int) (i : Nat) : Int := byteOf (l (i / 2)) (i % 2)
/-- the half at place k -/
def hd (z : Nat → Int) (k : Nat) : Int := g16 z (2 * k)
def Hvs (l : Nat → Int) : Prop := ∀ k, 0 ≤ l k ∧ l k < 65536
theorem hz_byt (l : Nat → Int) : Byt (hz l) := fun i => byteOf_bd _ _
theorem hd_hvs {z : Nat → Int} (h : Byt z) : Hvs (hd z) := fun k => g16_bd h _
theorem hz_hd {z : Nat → Int} (h : Byt z) (i : Nat) : hz (hd z) i = z i := by
  unfold hz hd
  rw [byteOf_g16 z h _ _ (Nat.mod_lt _ (by omega)), Nat.div_add_mod]
theorem g16_hz {l : Nat → Int} (k : Nat) (hl : 0 ≤ l k ∧ l k < 65536) : g16 (hz l) (2 * k) = l k := by
  unfold g16 hz
  rw [show 2 * k / 2 = k by omega, show (2 * k + 1) / 2 = k by omega, show 2 * k % 2 = 0 by omega, show (2 * k + 1) % 2 = 1 by omega]
  exact byteOf_sum2 _ hl.1 hl.2
theorem hd_hz {l : Nat → Int} (hl : Hvs l) (k : Nat) : hd (hz l) k = l k := g16_hz k (hl k)
theorem hz_put (l : Nat → Int) (k : Nat) (v : Int) (i : Nat) : over (hz l) (2 * k) 2 (byteOf v) i = hz (upd l k v) i := by
  unfold over hz upd
  by_cases h : 2 * k ≤ i ∧ i < 2 * k + 2
  · rw [if_pos h, if_pos (show i / 2 = k by omega)]; congr 1; omega
  · rw [if_neg h, if_neg (show ¬ i / 2 = k by omega)]
theorem byteOf_lo (v : Int) (i : Nat) (hi : i < 2) : byteOf (v % 65536) i = byteOf v i := by
  unfold byteOf
  have : i = 0 ∨ i = 1 := by omega
  rcases this with rfl | rfl
  · simp <;> omega
  · simp <;> omega
theorem byteOf_hi (v : Int) (i : Nat) : byteOf (v / 65536) i = byteOf v (i + 2) := by
  rw [show i + 2 = (i + 1) + 1 by omega, byteOf_succ, byteOf_succ]
  congr 1; omega
/-- a number of 32 bits at an even place -/
def upd2 (l : Nat → Int) (k : Nat) (v : Int) : Nat → Int := upd (upd l k (v % 65536)) (k + 1) (v / 65536)
theorem hz_put4 (l : Nat → Int) (k : Nat) (v : Int) (i : Nat) : over (hz l) (2 * k) 4 (byteOf v) i = hz (upd2 l k v) i := by
  unfold over hz upd2 upd
  by_cases h : 2 * k ≤ i ∧ i < 2 * k + 4
  · rw [if_pos h]
    by_cases h2 : i < 2 * k + 2
    · rw [if_neg (show ¬ i / 2 = k + 1 by omega), if_pos (show i / 2 = k by omega), byteOf_lo _ _ (Nat.mod_lt _ (by omega))]; congr 1; omega
    · rw [if_pos (show i / 2 = k + 1 by omega), byteOf_hi]; congr 1; omega
  · rw [if_neg h, if_neg (show ¬ i / 2 = k + 1 by omega), if_neg (show ¬ i / 2 = k by omega)]
theorem hz_congr {l m : Nat → Int} (n : Nat) (h : ∀ k, k < n → l k = m k) (i : Nat) (hi : i < 2 * n) : hz l i = hz m i := by
  unfold hz; rw [h (i / 2) (by omega)]
theorem hz_zero (i : Nat) : hz (fun _ => 0) i = 0 := byteOf_0 _
theorem g32_hz {l : Nat → Int} (hl : Hvs l) (k : Nat) : g32 (hz l) (2 * k) = l k + 65536 * l (k + 1) := by
  rw [g32_halves, g16_hz k (hl k), show 2 * k + 2 = 2 * (k + 1) by omega, g16_hz (k + 1) (hl _)]
theorem upd_hvs {l : Nat → Int} (hl : Hvs l) (k : Nat) {v : Int} (hv : 0 ≤ v ∧ v < 65536) : Hvs (upd l k v) := by
  intro j; unfold upd; split
  · exact hv
  · exact hl j
theorem upd2_hvs {l : Nat → Int} (hl : Hvs l) (k : Nat) {v : Int} (hv : 0 ≤ v ∧ v < 4294967296) : Hvs (upd2 l k v) := upd_hvs (upd_hvs hl _ (by omega)) _ (by omega)
theorem eqB_hz {l m : Nat → Int} (hl : Hvs l) (hm : Hvs m) (n : Nat) : eqB (hz l) (hz m) (2 * n) = eqB l m n := by
  rw [Bool.eq_iff_iff, eqB_iff, eqB_iff]
  constructor
  · intro h k hk
    have h0 := h (2 * k) (by omega)
    have h1 := h (2 * k + 1) (by omega)
    rw [← g16_hz k (hl k), ← g16_hz k (hm k)]
    unfold g16; rw [h0, h1]
  · intro h i hi
    exact hz_congr n h i hi
theorem allZ_hd {z : Nat → Int} (hzb : Byt z) (k n : Nat) : allZ (fun i => z (2 * k + i)) (2 * n) = allZ (fun j => hd z (k + j)) n := by
  rw [Bool.eq_iff_iff, allZ_iff, allZ_iff]
  constructor
  · intro h j hj
    have h0 := h (2 * j) (by omega)
    have h1 := h (2 * j + 1) (by omega)
    show g16 z (2 * (k + j)) = 0
    unfold g16
    rw [show 2 * (k + j) = 2 * k + 2 * j by omega, h0, Nat.add_assoc, h1]; rfl
  · intro h i hi
    have hj : g16 z (2 * (k + i / 2)) = 0 := h (i / 2) (by omega)
    have b0 := hzb (2 * (k + i / 2))
    have b1 := hzb (2 * (k + i / 2) + 1)
    unfold g16 at hj
    have : i = 2 * (i / 2) ∨ i = 2 * (i / 2) + 1 := by omega
    rcases this with e | e
    · rw [show 2 * k + i = 2 * (k + i / 2) by omega]; omega
    · rw [show 2 * k + i = 2 * (k + i / 2) + 1 by omega]; omega
/-- a block with its sum -/
def sealZ (z : Nat → Int) : Nat → Int := over z 252 4 (byteOf (crcZ z 252))
/-- the sum is right -/
def sumB (z : Nat → Int) : Bool := g32 z 252 == crcZ z 252
theorem sealZ_byt {z : Nat → Int} (h : Byt z) : Byt (sealZ z) := byt_over h (byt_byteOf _) _ _
theorem sealZ_low (z : Nat → Int) (i : Nat) (hi : i < 252) : sealZ z i = z i := over_out _ _ _ _ _ (.inl hi)
theorem sealZ_congr {z y : Nat → Int} (h : ∀ i, i < 252 → z i = y i) (i : Nat) (hi : i < 256) : sealZ z i = sealZ y i := by
  unfold sealZ over
  rw [crcZ_congr h]
  by_cases hc : 252 ≤ i ∧ i < 252 + 4
  · rw [if_pos hc, if_pos hc]
  · rw [if_neg hc, if_neg hc]; exact h i (by omega)
theorem crc_seal (z : Nat → Int) : crcZ (sealZ z) 252 = crcZ z 252 := crcZ_congr fun i hi => sealZ_low z i hi
theorem sumB_seal (z : Nat → Int) : sumB (sealZ z) = true := by
  unfold sumB
  rw [crc_seal]
  unfold sealZ
  rw [g32_over _ _ _ (crcZ_bd _ _).1 (crcZ_bd _ _).2]
  simp
/-- a block whose sum is right is one that was sealed -/
theorem seal_of_sum {z : Nat → Int} (hz' : Byt z) (h : sumB z = true) (i : Nat) (hi : i < 256) : sealZ z i = z i := by
  unfold sumB at h
  rw [beq_iff_eq] at h
  unfold sealZ over
  by_cases hc : 252 ≤ i ∧ i < 252 + 4
  · rw [if_pos hc, ← h, byteOf_g32 z hz' 252 (i - 252) (by omega), Nat.add_sub_cancel' hc.1]
  · rw [if_neg hc]
/-- one byte otherwise: the sum is wrong -/
theorem sum_one {z y : Nat → Int} (hz' : Byt z) (hy : Byt y) (hs : sumB z = true) {j : Nat} (hj : j < 256) (hne : y j ≠ z j) (heq : ∀ i, i < 256 → i ≠ j → y i = z i) : sumB y = false := by
  cases h : sumB y with
  | false => rfl
  | true =>
    exfalso
    have e1 := seal_of_sum hz' hs
    have e2 := seal_of_sum hy h
    by_cases hj2 : j < 252
    · have hc := crcZ_one hy hz' hj2 hne fun i hi hij => heq i (by omega) hij
      unfold sumB at hs h
      rw [beq_iff_eq] at hs h
      apply hc
      rw [← hs, ← h]
      unfold g32
      rw [heq 252 (by omega) (by omega), heq 253 (by omega) (by omega), heq 254 (by omega) (by omega), heq 255 (by omega) (by omega)]
    · have hc : crcZ y 252 = crcZ z 252 := crcZ_congr fun i hi => heq i (by omega) (by omega)
      apply hne
      rw [← e1 j hj, ← e2 j hj]
      unfold sealZ over
      rw [if_pos (by omega), if_pos (by omega), hc]
end Go.Proofs.YtnbmmhoofilmfaaDoor
