/- Rows of structs in memory of one's own: the cells of n elements f 0, f 1, .., each of m cells. No program in sight. -/
import Derived.Test.YtbbcckopkbiojaaAt
import Derived.Test.YtbbcckopkbiojaaClear
import Derived.Test.YtbbcckopkbiojaaMove
namespace Go.Proofs.Ytbbcckopkbiojaa
open Go.RowKit
set_option linter.unusedVariables false

/-- the cells of n elements -/
def Cs (f : Nat → List Value) : Nat → List Value
  | 0 => []
  | k + 1 => Cs f k ++ f k
theorem Cs_succ (f : Nat → List Value) (n : Nat) : Cs f (n + 1) = Cs f n ++ f n := rfl
theorem Cs_length {f : Nat → List Value} {m : Nat} (hf : ∀ i, (f i).length = m) (n : Nat) : (Cs f n).length = n * m := by
  induction n with
  | zero => simp [Cs]
  | succ n ih => rw [Cs, List.length_append, ih, hf, Nat.succ_mul]
theorem Cs_get {f : Nat → List Value} {m : Nat} (hf : ∀ i, (f i).length = m) {n i j : Nat} (hi : i < n) (hj : j < m) : (Cs f n)[i * m + j]? = (f i)[j]? := by
  induction n with
  | zero => omega
  | succ n ih =>
    rw [Cs]
    by_cases h : i < n
    · rw [List.getElem?_append_left, ih h]
      rw [Cs_length hf]
      have : (i + 1) * m ≤ n * m := Nat.mul_le_mul_right m h
      rw [Nat.succ_mul] at this
      omega
    · obtain rfl : i = n := by omega
      rw [List.getElem?_append_right (by rw [Cs_length hf]; omega), Cs_length hf]
      congr 1; omega
theorem Cs_congr {f g : Nat → List Value} {n : Nat} (h : ∀ i, i < n → f i = g i) : Cs f n = Cs g n := by
  induction n with
  | zero => rfl
  | succ n ih => rw [Cs, Cs, ih fun i hi => h i (by omega), h n (by omega)]
theorem Cs_one {f : Nat → List Value} (hf : ∀ i, ∀ v ∈ f i, v.oneCell' = true) (n : Nat) : ∀ v ∈ Cs f n, v.oneCell' = true := by
  induction n with
  | zero => intro v hv; cases hv
  | succ n ih =>
    intro v hv
    rw [Cs] at hv
    rcases List.mem_append.1 hv with h | h
    · exact ih v h
    · exact hf n v h
theorem Cs_cat (f : Nat → List Value) (k m : Nat) : Cs f k ++ Cs (fun i => f (k + i)) m = Cs f (k + m) := by
  induction m with
  | zero => simp [Cs]
  | succ m ih => show _ ++ (_ ++ _) = Cs f (k + m) ++ _; rw [← List.append_assoc, ih]; rfl
theorem Cs_two (f : Nat → List Value) (k : Nat) : Cs f k ++ (f k ++ f (k + 1)) = Cs f (k + 2) := by rw [← List.append_assoc]; rfl

/-- n elements stand at a place -/
def RSeg (w : World) (b off m n : Nat) (f : Nat → List Value) : Prop := ∀ i, i < n → ∀ j v, (f i)[j]? = some v → w.cell? ⟨b, off + i * m + j, none⟩ = some v
def RRow (w : World) (a : Option Addr) (m n : Nat) (f : Nat → List Value) : Prop := n = 0 ∨ ∃ b off, a = some ⟨b, off, none⟩ ∧ RSeg w b off m n f
theorem RSeg.range {w : World} {b off m n : Nat} {f : Nat → List Value} (h : RSeg w b off m n f) (i : Nat) (hi : i < n) : w.rangeAt b (off + i * m) (f i) := fun j v hv => h i hi j v hv
theorem RSeg.below {w w' : World} {b off m n : Nat} {f : Nat → List Value} (h : RSeg w b off m n f) {B : Nat} (hb : Below B w w') (hB : b < B) : RSeg w' b off m n f :=
  fun i hi j v hv => (hb.cell (p := ⟨b, off + i * m + j, none⟩) hB).trans (h i hi j v hv)
theorem RSeg.lt {w : World} {b off m n : Nat} {f : Nat → List Value} (h : RSeg w b off m n f) (hn : 0 < n) (hf : f 0 ≠ []) : b < w.heap.size := by
  cases e : f 0 with
  | nil => exact absurd e hf
  | cons x xs => exact World.block_lt_of_cell? w _ (h 0 hn 0 x (by rw [e]; rfl))
theorem RRow.below {w w' : World} {a : Option Addr} {m n : Nat} {f : Nat → List Value} (h : RRow w a m n f) (hf : f 0 ≠ []) (hb : Below w.heap.size w w') : RRow w' a m n f := by
  by_cases h0 : n = 0
  · exact .inl h0
  rcases h with h | ⟨b, off, rfl, h⟩
  · exact .inl h
  · exact .inr ⟨b, off, rfl, h.below hb (h.lt (by omega) hf)⟩
/-- a slice of n elements in memory of one's own -/
def RMine (w : World) (base : Nat) (e : TypeId) (m : Nat) (v : Value) (n : Nat) (f : Nat → List Value) : Prop := w.ownsRow base e m v n (Cs f n)
section
variable {w w' : World} {base : Nat} {e : TypeId} {m : Nat} {v : Value} {n : Nat} {f : Nat → List Value}
theorem RMine.nil (w : World) (base : Nat) (e : TypeId) (m : Nat) (f : Nat → List Value) : RMine w base e m (.slice none 0 0) 0 f := World.ownsRow_nil w base e m
theorem RMine.below (h : RMine w base e m v n f) (hb : Below w.heap.size w w') : RMine w' base e m v n f := World.ownsRow.kept h (grown_below (row := none) hb) (Classical.em _)
theorem RMine.drew (h : RMine w base e m v n f) : RMine w.drew base e m v n f := h
theorem RMine.alloc (h : RMine w base e m v n f) (o : Obj) : RMine (w.alloc o) base e m v n f := World.ownsRow.alloc h o
theorem RMine.kept {row : Option Nat} (h : RMine w base e m v n f) (hg : w.grownBy w' row) (hne : v.ownBlock = none ∨ v.ownBlock ≠ row) : RMine w' base e m v n f := World.ownsRow.kept h hg hne
theorem RMine.low {base' : Nat} (h : RMine w base e m v n f) (hb : base' ≤ base) : RMine w base' e m v n f := by
  refine ⟨h.1, ?_⟩
  rcases h.2 with h' | ⟨g', cap', cur, hv, hbb, hr⟩
  · exact .inl h'
  · exact .inr ⟨g', cap', cur, hv, by omega, hr⟩
theorem RMine.form (h : RMine w base e m v n f) : ∃ a cap, v = .slice a n cap := by
  rcases h.2 with ⟨rfl, rfl⟩ | ⟨g, cap, cur, rfl, _⟩
  · exact ⟨none, 0, rfl⟩
  · exact ⟨_, cap, rfl⟩
theorem RMine.form' (h : RMine w base e m v n f) (hn : 0 < n) : ∃ g cap, v = .slice (some ⟨g, 0, none⟩) n cap ∧ base ≤ g ∧ g < w.heap.size ∧ n ≤ cap ∧ cap ≤ maxLen := by
  rcases h.2 with ⟨_, h0⟩ | ⟨g, cap, cur, hv, hb, hg, hn, hc, _⟩
  · omega
  · exact ⟨g, cap, hv, hb, (Array.getElem?_eq_some_iff.1 hg).1, hn, hc⟩
theorem RMine.congr {g : Nat → List Value} (h : RMine w base e m v n f) (he : ∀ i, i < n → f i = g i) : RMine w base e m v n g := by
  unfold RMine; rw [← Cs_congr he]; exact h
theorem RMine.row {a : Option Addr} {cap : Nat} (h : RMine w base e m (.slice a n cap) n f) (hf : ∀ i, (f i).length = m) : RRow w a m n f := by
  rcases h.2 with ⟨hv, h0⟩ | ⟨g, cap', cur, hv, hb, hg, hn, hc, hs, ht⟩
  · exact .inl h0
  · injection hv with h1 h2 h3
    subst h1
    refine .inr ⟨g, 0, rfl, fun i hi j v hj => ?_⟩
    have hjm : j < m := by have := (List.getElem?_eq_some_iff.1 hj).1; rwa [hf] at this
    rw [← Cs_get hf hi hjm, ← ht] at hj
    have hlt := (List.getElem?_eq_some_iff.1 hj).1
    rw [List.getElem?_take_of_lt (by rw [List.length_take] at hlt; omega)] at hj
    rw [Nat.zero_add]
    exact cell_of_heap hg (by simpa using hj)
theorem RMine.seg {g cap : Nat} (h : RMine w base e m (.slice (some ⟨g, 0, none⟩) n cap) n f) (hf : ∀ i, (f i).length = m) : RSeg w g 0 m n f := by
  rcases h.row hf with h0 | ⟨b, off, he, hs⟩
  · intro i hi; omega
  · injection he with he; injection he with h1 h2; subst h1 h2; exact hs
/-- an element, or some, are appended -/
theorem RMine.append {k : Nat} {news : List Value} (h : w.ownsRow base e m v (n + k) (Cs f n ++ news)) (hk : news = Cs (fun i => f (n + i)) k) : RMine w base e m v (n + k) f := by
  unfold RMine; rw [← Cs_cat, ← hk]; exact h
end
/-- cells of a new block, as append wants them -/
theorem cells_news (w : World) (vs : List Value) (T : TypeId) : ∀ (j : Nat) (u : Value), vs[j]? = some u → (w.alloc (.cells vs.toArray T)).cell? ((⟨w.heap.size, 0, none⟩ : Addr).add j) = some u := by
  intro j u hj
  rw [addr_add, Nat.zero_add]
  exact cell_of_heap (heap_alloc_new w _) (by simpa using hj)
end Go.Proofs.Ytbbcckopkbiojaa
