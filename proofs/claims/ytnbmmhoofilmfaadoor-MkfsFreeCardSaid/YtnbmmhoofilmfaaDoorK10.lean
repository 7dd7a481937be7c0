/- Texts of this claim, merged by a program (a claim may have 60 files): Rw, RwA, RangeK. -/
import Derived.Test.YtnbmmhoofilmfaaDoorK09
import Derived.Test.YtnbmmhoofilmfaaDoorK06
import Derived.Test.YtnbmmhoofilmfaaDoorK08
import Derived.Deep.OwnRows
import Derived.Deep.MidRow
import Derived.Test.YtnbmmhoofilmfaaDoorK05
/- Rows of structs in memory of one's own: the cells of n elements f 0, f 1, .., each of m cells. No program in sight. -/
namespace Go.Proofs.YtnbmmhoofilmfaaDoor
open Go.RowKit
set_option linter.unusedVariables false

/-- the cells of n elements -/
def Cs (f : Nat → List Value) : Nat → List Value
  | 0 => []
  | k + 1 => Cs f k ++ f k
theorem Cs_succ (f : Nat → List Value) (n : Nat) : Cs f (n + 1) = Cs f n ++ f n := rfl
theorem Cs_length {f : Nat → List Value} {m : Nat} (hf : ∀ i, (f i).length = m) (n : Nat) : (Cs f n).length = n * m := by
  induction n with
  | zero => simp [Cs]
  | succ n ih => rw [Cs, List.length_append, ih, hf, Nat.succ_mul]
theorem Cs_get {f : Nat → List Value} {m : Nat} (hf : ∀ i, (f i).length = m) {n i j : Nat} (hi : i < n) (hj : j < m) : (Cs f n)[i * m + j]? = (f i)[j]? := by
  induction n with
  | zero => omega
  | succ n ih =>
    rw [Cs]
    by_cases h : i < n
    · rw [List.getElem?_append_left, ih h]
      rw [Cs_length hf]
      have : (i + 1) * m ≤ n * m := Nat.mul_le_mul_right m h
      rw [Nat.succ_mul] at this
      omega
    · obtain rfl : i = n := by omega
      rw [List.getElem?_append_right (by rw [Cs_length hf]; omega), Cs_length hf]
      congr 1; omega
theorem Cs_congr {f g : Nat → List Value} {n : Nat} (h : ∀ i, i < n → f i = g i) : Cs f n = Cs g n := by
  induction n with
  | zero => rfl
  | succ n ih => rw [Cs, Cs, ih fun i hi => h i (by omega), h n (by omega)]
theorem Cs_cat (f : Nat → List Value) (k m : Nat) : Cs f k ++ Cs (fun i => f (k + i)) m = Cs f (k + m) := by
  induction m with
  | zero => simp [Cs]
  | succ m ih => show _ ++ (_ ++ _) = Cs f (k + m) ++ _; rw [← List.append_assoc, ih]; rfl
/-- n elements stand at a place -/
def RSeg (w : World) (b off m n : Nat) (f : Nat → List Value) : Prop := ∀ i, i < n → ∀ j v, (f i)[j]? = some v → w.cell? ⟨b, off + i * m + j, none⟩ = some v
def RRow (w : World) (a : Option Addr) (m n : Nat) (f : Nat → List Value) : Prop := n = 0 ∨ ∃ b off, a = some ⟨b, off, none⟩ ∧ RSeg w b off m n f
theorem RSeg.range {w : World} {b off m n : Nat} {f : Nat → List Value} (h : RSeg w b off m n f) (i : Nat) (hi : i < n) : w.rangeAt b (off + i * m) (f i) := fun j v hv => h i hi j v hv
theorem RSeg.below {w w' : World} {b off m n : Nat} {f : Nat → List Value} (h : RSeg w b off m n f) {B : Nat} (hb : Below B w w') (hB : b < B) : RSeg w' b off m n f :=
  fun i hi j v hv => (hb.cell (p := ⟨b, off + i * m + j, none⟩) hB).trans (h i hi j v hv)
theorem RSeg.lt {w : World} {b off m n : Nat} {f : Nat → List Value} (h : RSeg w b off m n f) (hn : 0 < n) (hf : f 0 ≠ []) : b < w.heap.size := by
  cases e : f 0 with
  | nil => exact absurd e hf
  | cons x xs => exact World.block_lt_of_cell? w _ (h 0 hn 0 x (by rw [e]; rfl))
theorem RRow.below {w w' : World} {a : Option Addr} {m n : Nat} {f : Nat → List Value} (h : RRow w a m n f) (hf : f 0 ≠ []) (hb : Below w.heap.size w w') : RRow w' a m n f := by
  by_cases h0 : n = 0
  · exact .inl h0
  rcases h with h | ⟨b, off, rfl, h⟩
  · exact .inl h
  · exact .inr ⟨b, off, rfl, h.below hb (h.lt (by omega) hf)⟩
/-- a slice of n elements in memory of one's own -/
def RMine (w : World) (base : Nat) (e : TypeId) (m : Nat) (v : Value) (n : Nat) (f : Nat → List Value) : Prop := w.ownsRow base e m v n (Cs f n)
section
variable {w w' : World} {base : Nat} {e : TypeId} {m : Nat} {v : Value} {n : Nat} {f : Nat → List Value}
theorem RMine.nil (w : World) (base : Nat) (e : TypeId) (m : Nat) (f : Nat → List Value) : RMine w base e m (.slice none 0 0) 0 f := World.ownsRow_nil w base e m
theorem RMine.below (h : RMine w base e m v n f) (hb : Below w.heap.size w w') : RMine w' base e m v n f := World.ownsRow.kept h (grown_below (row := none) hb) (Classical.em _)
theorem RMine.drew (h : RMine w base e m v n f) : RMine w.drew base e m v n f := h
theorem RMine.alloc (h : RMine w base e m v n f) (o : Obj) : RMine (w.alloc o) base e m v n f := World.ownsRow.alloc h o
theorem RMine.kept {row : Option Nat} (h : RMine w base e m v n f) (hg : w.grownBy w' row) (hne : v.ownBlock = none ∨ v.ownBlock ≠ row) : RMine w' base e m v n f := World.ownsRow.kept h hg hne
theorem RMine.low {base' : Nat} (h : RMine w base e m v n f) (hb : base' ≤ base) : RMine w base' e m v n f := by
  refine ⟨h.1, ?_⟩
  rcases h.2 with h' | ⟨g', cap', cur, hv, hbb, hr⟩
  · exact .inl h'
  · exact .inr ⟨g', cap', cur, hv, by omega, hr⟩
theorem RMine.form (h : RMine w base e m v n f) : ∃ a cap, v = .slice a n cap := by
  rcases h.2 with ⟨rfl, rfl⟩ | ⟨g, cap, cur, rfl, _⟩
  · exact ⟨none, 0, rfl⟩
  · exact ⟨_, cap, rfl⟩
theorem RMine.form' (h : RMine w base e m v n f) (hn : 0 < n) : ∃ g cap, v = .slice (some ⟨g, 0, none⟩) n cap ∧ base ≤ g ∧ g < w.heap.size ∧ n ≤ cap ∧ cap ≤ maxLen := by
  rcases h.2 with ⟨_, h0⟩ | ⟨g, cap, cur, hv, hb, hg, hn, hc, _⟩
  · omega
  · exact ⟨g, cap, hv, hb, (Array.getElem?_eq_some_iff.1 hg).1, hn, hc⟩
theorem RMine.congr {g : Nat → List Value} (h : RMine w base e m v n f) (he : ∀ i, i < n → f i = g i) : RMine w base e m v n g := by
  unfold RMine; rw [← Cs_congr he]; exact h
theorem RMine.row {a : Option Addr} {cap : Nat} (h : RMine w base e m (.slice a n cap) n f) (hf : ∀ i, (f i).length = m) : RRow w a m n f := by
  rcases h.2 with ⟨hv, h0⟩ | ⟨g, cap', cur, hv, hb, hg, hn, hc, hs, ht⟩
  · exact .inl h0
  · injection hv with h1 h2 h3
    subst h1
    refine .inr ⟨g, 0, rfl, fun i hi j v hj => ?_⟩
    have hjm : j < m := by have := (List.getElem?_eq_some_iff.1 hj).1; rwa [hf] at this
    rw [← Cs_get hf hi hjm, ← ht] at hj
    have hlt := (List.getElem?_eq_some_iff.1 hj).1
    rw [List.getElem?_take_of_lt (by rw [List.length_take] at hlt; omega)] at hj
    rw [Nat.zero_add]
    exact cell_of_heap hg (by simpa using hj)
theorem RMine.seg {g cap : Nat} (h : RMine w base e m (.slice (some ⟨g, 0, none⟩) n cap) n f) (hf : ∀ i, (f i).length = m) : RSeg w g 0 m n f := by
  rcases h.row hf with h0 | ⟨b, off, he, hs⟩
  · intro i hi; omega
  · injection he with he; injection he with h1 h2; subst h1 h2; exact hs
/-- an element, or some, are appended -/
theorem RMine.append {k : Nat} {news : List Value} (h : w.ownsRow base e m v (n + k) (Cs f n ++ news)) (hk : news = Cs (fun i => f (n + i)) k) : RMine w base e m v (n + k) f := by
  unfold RMine; rw [← Cs_cat, ← hk]; exact h
end
end Go.Proofs.YtnbmmhoofilmfaaDoor

/- Rows of structs made at once and stored element by element. No program in sight. -/
namespace Go.Proofs.YtnbmmhoofilmfaaDoor
open Go.RowKit
set_option linter.unusedVariables false

/-- heap block g is a row of n elements of m cells each -/
structure RArr (W : World) (g : Nat) (T : TypeId) (m n : Nat) (f : Nat → List Value) : Prop where
  blk : ∃ cs, W.heap[g]? = some (.cells cs T (0, 0)) ∧ cs.size = n * m
  seg : RSeg W g 0 m n f
section
variable {W W' : World} {g : Nat} {T : TypeId} {m n : Nat} {f : Nat → List Value}
theorem RArr.lt (h : RArr W g T m n f) : g < W.heap.size := by obtain ⟨cs, h, _⟩ := h.blk; exact (Array.getElem?_eq_some_iff.1 h).1
theorem RArr.of_block (h : RArr W g T m n f) (e : W'.heap[g]? = W.heap[g]?) : RArr W' g T m n f :=
  ⟨by obtain ⟨cs, h1, h2⟩ := h.blk; exact ⟨cs, e.trans h1, h2⟩, fun i hi j v hv => (World.cell?_of_block (w := W) e).trans (h.seg i hi j v hv)⟩
theorem RArr.below (h : RArr W g T m n f) (hb : Below W.heap.size W W') : RArr W' g T m n f := h.of_block (hb.block g h.lt)
theorem RArr.grown (h : RArr W g T m n f) {row : Option Nat} (hb : W.grownBy W' row) (hg : some g ≠ row) : RArr W' g T m n f := h.of_block (hb.block g h.lt hg)
theorem RArr.only (h : RArr W g T m n f) {b : Nat} (hb : Only b W W') (hg : g ≠ b) : RArr W' g T m n f := h.of_block (hb.block g hg)
theorem RArr.alloc (h : RArr W g T m n f) (o : Obj) : RArr (W.alloc o) g T m n f := h.below ((Below.refl _ _).alloc (Nat.le_refl _) o)
theorem RArr.congr {f' : Nat → List Value} (h : RArr W g T m n f) (e : ∀ i, i < n → f i = f' i) : RArr W g T m n f' := ⟨h.blk, fun i hi j v hv => h.seg i hi j v (by rw [e i hi]; exact hv)⟩
theorem RArr.there (h : RArr W g T m n f) {k : Nat} (hk : k < n) : W.there g (k * m) m := fun j hj => by
  obtain ⟨cs, h1, h2⟩ := h.blk
  have hlt : k * m + j < cs.size := by
    rw [h2]
    have : (k + 1) * m ≤ n * m := Nat.mul_le_mul_right m hk
    rw [Nat.succ_mul] at this
    omega
  exact ⟨by rw [cell_of_heap h1 (Array.getElem?_eq_getElem hlt)]; rfl, soft_of_heap h1 _⟩
/-- an element is stored -/
theorem RArr.set (h : RArr W g T m n f) {k : Nat} (hk : k < n) {vs : List Value} (hv : vs.length = m) (hf : ∀ i, (f i).length = m) : RArr (W.setCells g (k * m) vs) g T m n (fun j => if j = k then vs else f j) ∧ Only g W (W.setCells g (k * m) vs) := by
  have ho := only_setCells g vs (k * m) W
  have hth := h.there hk
  obtain ⟨cs, h1, h2⟩ := h.blk
  obtain ⟨c', hc1, hc2⟩ := ho.shape _ _ _ h1
  refine ⟨⟨⟨c', hc2, by rw [hc1, h2]⟩, fun i hi j v hj => ?_⟩, ho⟩
  rw [Nat.zero_add]
  by_cases e : i = k
  · subst e
    rw [if_pos rfl] at hj
    exact World.rangeAt_setCells_same W g (i * m) vs (by rw [hv]; exact hth) j v hj
  · rw [if_neg e] at hj
    have hr : W.rangeAt g (i * m) (f i) := by have := h.seg.range i hi; rwa [Nat.zero_add] at this
    refine World.rangeAt_setCells_apart hr g (k * m) vs ?_ j v hj
    rw [hf, hv]
    rcases Nat.lt_or_gt_of_ne e with h' | h'
    · have : (i + 1) * m ≤ k * m := Nat.mul_le_mul_right m h'
      rw [Nat.succ_mul] at this; omega
    · have : (k + 1) * m ≤ i * m := Nat.mul_le_mul_right m h'
      rw [Nat.succ_mul] at this; omega
/-- it is a slice of one's own -/
theorem RArr.mine (h : RArr W g T m n f) (hf : ∀ i, (f i).length = m) {base : Nat} (hb : base ≤ g) (hn : n ≤ maxLen) : RMine W base T m (.slice (some ⟨g, 0, none⟩) n n) n f := by
  obtain ⟨cs, h1, h2⟩ := h.blk
  refine ⟨Cs_length hf n, .inr ⟨g, n, cs, rfl, hb, h1, Nat.le_refl _, hn, h2, ?_⟩⟩
  rw [List.take_of_length_le (by rw [Array.length_toList, h2]; exact Nat.le_refl _)]
  apply List.ext_getElem?
  intro p
  by_cases hp : p < n * m
  · have hm : 0 < m := by
      rcases Nat.eq_zero_or_pos m with e | e
      · rw [e, Nat.mul_zero] at hp; omega
      · exact e
    have hq : p / m < n := (Nat.div_lt_iff_lt_mul hm).2 hp
    have hr : p % m < m := Nat.mod_lt _ hm
    have he : p / m * m + p % m = p := by rw [Nat.mul_comm]; exact Nat.div_add_mod p m
    obtain ⟨v, hv⟩ : ∃ v, (f (p / m))[p % m]? = some v := ⟨_, List.getElem?_eq_getElem (by rw [hf]; exact hr)⟩
    have h3 := h.seg (p / m) hq (p % m) v hv
    rw [Nat.zero_add, he] at h3
    have h4 := Cs_get hf hq hr
    rw [he] at h4
    rw [h4, hv, Array.getElem?_toList, Array.getElem?_eq_getElem (by rw [h2]; exact hp)]
    have h5 := cell_of_heap h1 (Array.getElem?_eq_getElem (show p < cs.size by rw [h2]; exact hp))
    rw [h3] at h5
    exact h5.symm
  · rw [List.getElem?_eq_none (by rw [Array.length_toList, h2]; omega), List.getElem?_eq_none (by rw [Cs_length hf]; omega)]
/-- what make lays -/
theorem RArr.made (w : World) (z : Array Value) (hz : z.size = m) (hm : 0 < m) (n : Nat) (T : TypeId) : RArr (w.alloc (.cells (madeCells z (n * m)) T)) w.heap.size T m n (fun _ => z.toList) :=
  ⟨⟨_, heap_alloc_new w _, size_madeCells _ _⟩, fun i hi j v hj => by
    rw [Nat.zero_add]
    have hj' : j < m := by have := (List.getElem?_eq_some_iff.1 hj).1; rw [Array.length_toList, hz] at this; exact this
    have hlt : i * m + j < n * m := by
      have : (i + 1) * m ≤ n * m := Nat.mul_le_mul_right m hi
      rw [Nat.succ_mul] at this; omega
    refine cell_of_heap (heap_alloc_new w _) ?_
    have hmod : (i * m + j) % m = j := by rw [Nat.mul_comm, Nat.mul_add_mod, Nat.mod_eq_of_lt hj']
    have hz' : z[j]? = some v := by rw [← hj, Array.getElem?_toList]
    simp only [madeCells, Array.getElem?_map, Array.getElem?_range, hlt, if_true, Option.map_some, hz, hmod]
    rw [getElem!_def, hz']⟩
theorem run_mkrow {P : Program} (t e : TypeId) (z : Value) (m bytes : Nat) (ht : P.underlying t = some (.slice e)) (hinfo : (P.info? e).map (fun i => (i.zero, i.size, i.bytes)) = some (some z, m, bytes))
    (kl kc : IntKind) (n : Nat) (hbytes : bytes * n ≤ 281474976710656) (h63 : n ≤ 9223372036854775807) (w : World) :
    (Instr.makeSlice t (.int kl (n : Int)) (.int kc (n : Int))).run P w = .ok (.slice (some ⟨w.heap.size, 0, none⟩) n n) (w.alloc (.cells (madeCells z.cells (n * m)) e)) := by
  obtain ⟨i, hi, hzz⟩ := Option.map_eq_some_iff.1 hinfo
  simp only [Prod.mk.injEq] at hzz
  obtain ⟨hz, hs, hb⟩ := hzz
  have hb' : (i.bytes : Int) * (n : Int) ≤ 281474976710656 := by
    have h : ((i.bytes * n : Nat) : Int) ≤ 281474976710656 := by rw [hb]; omega
    rwa [Int.natCast_mul] at h
  have hr := run_make (P := P) w t e i z ht hi hz kl kc n n (by omega) (Int.le_refl _) hb' (by omega)
  simp only [Int.toNat_natCast, hs] at hr
  exact hr
end
end Go.Proofs.YtnbmmhoofilmfaaDoor

/- As XRange: a range over a function whose iterator turns blocks of its own: each round leaves what the iterator needs as it was (Need k), and the iterator itself goes on to Need (k + 1). No program in sight. -/
namespace Go.Proofs.YtnbmmhoofilmfaaDoor
open Go.RowKit
set_option linter.unusedVariables false
variable {F : Fence} {n : Nat} {P : Program}

/-- An iterator hands over N values, the k-th encs k. own: blocks that it turns itself. Need k: what it wants of memory, k rounds being over. -/
def IterK (F : Fence) (n : Nat) (P : Program) (g : Nat) (lb : Array Value) (encs : Nat → Array Value) (N : Nat) (own : Nat → Prop) (Need : Nat → World → Prop) : Prop :=
  ∀ (l : Nat) (J Jx : Nat → World → Prop) (W : World),
    (∀ k A B, J k A → Turns own A B → J k B) → (∀ k A B, Jx k A → Turns own A B → Jx k B) →
    (∀ k A, k < N → J k A → Need k A → YieldAt F (n - 1) P l (encs k) A fun e B => (e = .returned (.bool true) ∧ J (k + 1) B ∧ Need k B) ∨ (e = .returned (.bool false) ∧ Jx k B)) →
    J 0 W → Need 0 W →
    CallsIn F n P g (#[.func (.yield l) #[] #[]] ++ lb) W fun e B => (∃ v, e = .returned v) ∧ (J N B ∨ ∃ k, k < N ∧ Jx k B)

/-- how the body of round k may be left -/
def roundK (B : Nat) (J : Nat → World → Prop) (Jx : Code → Nat → World → Prop) (Need : Nat → World → Prop) (k : Nat) (W : World) : Exit → Act → World → Prop
  | .normal, _, W' => KeepsFrom B W W' ∧ J (k + 1) W' ∧ Need k W'
  | .ret, _, W' => KeepsFrom B W W' ∧ Jx .ret k W'
  | .exit id, _, W' => KeepsFrom B W W' ∧ Jx (.exit id) k W'
  | .goto t, _, W' => KeepsFrom B W W' ∧ Jx (.goto t) k W'
  | .panic _, _, _ => False
  | .outgrown, _, _ => False

/-- X speaks of the blocks below B alone, but for lb -/
def LocalX (B lb : Nat) (X : World → Prop) : Prop := ∀ A C : World, X A → C.os = A.os → C.tape = A.tape → C.output = A.output → A.heap.size ≤ C.heap.size → (∀ k, k < B → k ≠ lb → k < A.heap.size → C.heap[k]? = A.heap[k]?) → X C
theorem LocalX.loc {B lb : Nat} {X : World → Prop} (h : LocalX B lb X) : LocalP B X := fun A C hs hg => h A C hs hg.os hg.tape hg.output hg.size (fun k hk _ hl => hg.block k hk hl)
theorem LocalX.turns {B lb : Nat} {X : World → Prop} (h : LocalX B lb X) {A C : World} (hs : X A) (ht : Turns (fun r => r = lb) A C) : X C := by
  obtain ⟨row, hg, hr⟩ := ht
  exact h A C hs hg.os hg.tape hg.output hg.size (fun k hk hne hl => hg.block k hl (fun e => hne (hr k e.symm)))
theorem LocalX.and {B lb : Nat} {X Y : World → Prop} (h : LocalX B lb X) (k : LocalX B lb Y) : LocalX B lb (fun W => X W ∧ Y W) := fun A C hs e1 e2 e3 e4 e5 => ⟨h A C hs.1 e1 e2 e3 e4 e5, k A C hs.2 e1 e2 e3 e4 e5⟩
theorem LocalX.pure (B lb : Nat) (p : Prop) : LocalX B lb (fun _ => p) := fun _ _ h _ _ _ _ _ => h
theorem LocalX.heap {B lb b : Nat} (o : Obj) (hb : b < B) (hl : b ≠ lb) : LocalX B lb (fun W => W.heap[b]? = some o) := fun A C hs _ _ _ _ e5 => (e5 b hb hl (Array.getElem?_eq_some_iff.1 hs).1).trans hs
theorem LocalX.cell {B lb : Nat} (p : Addr) (v : Value) (hb : p.block < B) (hl : p.block ≠ lb) : LocalX B lb (fun W => W.cell? p = some v) := fun A C hs _ _ _ _ e5 =>
  (World.cell?_of_block (w := A) (e5 p.block hb hl (World.block_lt_of_cell? A _ hs))).trans hs
theorem LocalX.below {B lb n : Nat} (w : World) (hn : n ≤ B) (hw : n ≤ w.heap.size) (hl : n ≤ lb) : LocalX B lb (fun W => Below n w W) := fun A C hs e1 e2 e3 e4 e5 =>
  ⟨e1.trans hs.os, e2.trans hs.tape, e3.trans hs.output, Nat.le_trans hs.size e4, fun k hk => (e5 k (by omega) (by omega) (by have := hs.size; omega)).trans (hs.block k hk)⟩
theorem LocalX.rrow {B lb : Nat} {a : Option Addr} {m n : Nat} {f : Nat → List Value} (hb : ∀ b off, a = some ⟨b, off, none⟩ → b < B ∧ b ≠ lb) : LocalX B lb (fun W => RRow W a m n f) := fun A C hs e1 e2 e3 e4 e5 => by
  rcases hs with h0 | ⟨b, off, rfl, hs⟩
  · exact .inl h0
  · obtain ⟨h1, h2⟩ := hb b off rfl
    exact .inr ⟨b, off, rfl, fun i hi j v hj => LocalX.cell ⟨b, off + i * m + j, none⟩ v h1 h2 A C (hs i hi j v hj) e1 e2 e3 e4 e5⟩
theorem LocalX.owns {B lb : Nat} {base : Nat} {e : TypeId} {size q n cap : Nat} {xs : List Value} (hb : q < B) (hl : q ≠ lb) : LocalX B lb (fun W => W.ownsRow base e size (.slice (some ⟨q, 0, none⟩) n cap) n xs) := fun A C hs _ _ _ _ e5 => by
  refine ⟨hs.1, ?_⟩
  rcases hs.2 with ⟨hv, _⟩ | ⟨g, cap', cur, hv, hbg, hg, h⟩
  · cases hv
  · cases hv
    exact .inr ⟨q, cap, cur, rfl, hbg, (e5 q hb hl (Array.getElem?_eq_some_iff.1 hg).1).trans hg, h⟩
end Go.Proofs.YtnbmmhoofilmfaaDoor
