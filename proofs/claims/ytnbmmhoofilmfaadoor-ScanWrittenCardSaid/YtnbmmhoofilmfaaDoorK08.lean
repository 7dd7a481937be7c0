/- Texts of this claim, merged by a program (a claim may have 60 files): At, Rw, AtIn, Range4, RangeV, RangeV4, CopyL. -/
import Derived.Test.YtnbmmhoofilmfaaDoorK05
import Derived.Test.YtnbmmhoofilmfaaDoorK03
import Derived.Test.YtnbmmhoofilmfaaDoorK07
import Derived.OwnWalkIn
import Derived.TacticsInMore
import Derived.Laws.AppendOwnNone
/- A struct in a heap block: read, stored. -/
namespace Go.Proofs.YtnbmmhoofilmfaaDoor
open Go.RowKit
set_option linter.unusedVariables false

/-- heap block g is this row of cells -/
def At (w : World) (g : Nat) (T : TypeId) (cs : Array Value) : Prop := w.heap[g]? = some (.cells cs T (0, 0))
theorem At.lt {w : World} {g : Nat} {T : TypeId} {cs : Array Value} (h : At w g T cs) : g < w.heap.size := (Array.getElem?_eq_some_iff.1 h).1
theorem At.new (w : World) (T : TypeId) (cs : Array Value) : At (w.alloc (.cells cs T)) w.heap.size T cs := heap_alloc_new w _
theorem At.alloc {w : World} {g : Nat} {T : TypeId} {cs : Array Value} (h : At w g T cs) (o : Obj) : At (w.alloc o) g T cs := heap_alloc_keep h o
theorem At.below {w w' : World} {g : Nat} {T : TypeId} {cs : Array Value} (h : At w g T cs) {B : Nat} (hb : Below B w w') (hg : g < B) : At w' g T cs := (hb.block g hg).trans h
theorem At.only {w w' : World} {g : Nat} {T : TypeId} {cs : Array Value} (h : At w g T cs) {b : Nat} (hb : Only b w w') (hg : g ≠ b) : At w' g T cs := (hb.block g hg).trans h
theorem At.cell {w : World} {g : Nat} {T : TypeId} {cs : Array Value} (h : At w g T cs) {i : Nat} {v : Value} (hi : cs[i]? = some v) : w.cell? ⟨g, i, none⟩ = some v := cell_of_heap h hi
theorem At.range {w : World} {g : Nat} {T : TypeId} {cs : Array Value} (h : At w g T cs) : w.rangeAt g 0 cs.toList := by
  intro j v hj
  rw [Nat.zero_add]
  exact cell_of_heap h (by simpa using hj)
/-- a struct stored whole -/
theorem wp_storeAt {P : Program} {w : World} {ops : Array Oper} {rest : List Oper} {o : Oper} {a : Act} {Q : Exit → Act → World → Prop} (hgd : o.guard = none) (T : TypeId) (p q : Operand) (ho : o.op = .store T p q)
    (g : Nat) (cs old : Array Value) (hx : a.eval p = .pointer (some ⟨g, 0, none⟩)) (hy : a.eval q = .agg cs) (hI : At w g T old) (hi : (P.info? T).map (·.size) = some cs.size) (hs : old.size = cs.size) (h1 : cs.all (·.oneCell') = true)
    (h : ∀ w', At w' g T cs → Only g w w' → wpList P ops Q rest (a.put o.dst undef) w') : wpList P ops Q (o :: rest) a w :=
  wpList_store_row hgd T p q ho g cs hx hy T _ hI hi hs h1 (h _ (setRow_heap w g _ cs _ _ hI) (only_setRow w g _ hI hs.symm))
theorem wp_loadAtG {P : Program} {w : World} {ops : Array Oper} {rest : List Oper} {o : Oper} {a : Act} {Q : Exit → Act → World → Prop} (hw : Region.wanted o (yielded ops a.tmps) = true) (T : TypeId) (p : Operand) (ho : o.op = .load T p)
    (g : Nat) (cs : Array Value) (d : TypeDesc) (hx : a.eval p = .pointer (some ⟨g, 0, none⟩)) (hI : At w g T cs) (hu : P.underlying T = some d) (hd : (match d with | .struct _ | .array _ _ => true | _ => false) = true) (hi : (P.info? T).map (·.size) = some cs.size)
    (h : wpList P ops Q rest (a.put o.dst (.agg cs)) w) : wpList P ops Q (o :: rest) a w :=
  BigFrame.wpList_want hw fun _ hK => wp_load_row T p ho g hx T cs (0, 0) d hI hu hd hi (hK _ _ h)
theorem wp_loadBlkG {w : World} {ops : Array Oper} {rest : List Oper} {o : Oper} {a : Act} {Q : Exit → Act → World → Prop} (hw : Region.wanted o (yielded ops a.tmps) = true) (p : Operand) (ho : o.op = .load 32 p)
    (g : Nat) (z : Nat → Int) (hx : a.eval p = .pointer (some ⟨g, 0, none⟩)) (hB : Blk w g 32 256 z)
    (h : wpList Tryd.prog ops Q rest (a.put o.dst (bval z)) w) : wpList Tryd.prog ops Q (o :: rest) a w :=
  BigFrame.wpList_want hw fun _ hK => wp_load_row 32 p ho g hx 32 (Ks .u8 256 z).toArray (0, 0) _ hB Tryd.underlying32 rfl (info_block' _) (hK _ _ h)
end Go.Proofs.YtnbmmhoofilmfaaDoor

/- Rows of structs in memory of one's own: the cells of n elements f 0, f 1, .., each of m cells. No program in sight. -/
namespace Go.Proofs.YtnbmmhoofilmfaaDoor
open Go.RowKit
set_option linter.unusedVariables false

/-- the cells of n elements -/
def Cs (f : Nat → List Value) : Nat → List Value
  | 0 => []
  | k + 1 => Cs f k ++ f k
theorem Cs_succ (f : Nat → List Value) (n : Nat) : Cs f (n + 1) = Cs f n ++ f n := rfl
theorem Cs_length {f : Nat → List Value} {m : Nat} (hf : ∀ i, (f i).length = m) (n : Nat) : (Cs f n).length = n * m := by
  induction n with
  | zero => simp [Cs]
  | succ n ih => rw [Cs, List.length_append, ih, hf, Nat.succ_mul]
theorem Cs_get {f : Nat → List Value} {m : Nat} (hf : ∀ i, (f i).length = m) {n i j : Nat} (hi : i < n) (hj : j < m) : (Cs f n)[i * m + j]? = (f i)[j]? := by
  induction n with
  | zero => omega
  | succ n ih =>
    rw [Cs]
    by_cases h : i < n
    · rw [List.getElem?_append_left, ih h]
      rw [Cs_length hf]
      have : (i + 1) * m ≤ n * m := Nat.mul_le_mul_right m h
      rw [Nat.succ_mul] at this
      omega
    · obtain rfl : i = n := by omega
      rw [List.getElem?_append_right (by rw [Cs_length hf]; omega), Cs_length hf]
      congr 1; omega
theorem Cs_congr {f g : Nat → List Value} {n : Nat} (h : ∀ i, i < n → f i = g i) : Cs f n = Cs g n := by
  induction n with
  | zero => rfl
  | succ n ih => rw [Cs, Cs, ih fun i hi => h i (by omega), h n (by omega)]
theorem Cs_one {f : Nat → List Value} (hf : ∀ i, ∀ v ∈ f i, v.oneCell' = true) (n : Nat) : ∀ v ∈ Cs f n, v.oneCell' = true := by
  induction n with
  | zero => intro v hv; cases hv
  | succ n ih =>
    intro v hv
    rw [Cs] at hv
    rcases List.mem_append.1 hv with h | h
    · exact ih v h
    · exact hf n v h
theorem Cs_cat (f : Nat → List Value) (k m : Nat) : Cs f k ++ Cs (fun i => f (k + i)) m = Cs f (k + m) := by
  induction m with
  | zero => simp [Cs]
  | succ m ih => show _ ++ (_ ++ _) = Cs f (k + m) ++ _; rw [← List.append_assoc, ih]; rfl
theorem Cs_two (f : Nat → List Value) (k : Nat) : Cs f k ++ (f k ++ f (k + 1)) = Cs f (k + 2) := by rw [← List.append_assoc]; rfl

/-- n elements stand at a place -/
def RSeg (w : World) (b off m n : Nat) (f : Nat → List Value) : Prop := ∀ i, i < n → ∀ j v, (f i)[j]? = some v → w.cell? ⟨b, off + i * m + j, none⟩ = some v
def RRow (w : World) (a : Option Addr) (m n : Nat) (f : Nat → List Value) : Prop := n = 0 ∨ ∃ b off, a = some ⟨b, off, none⟩ ∧ RSeg w b off m n f
theorem RSeg.range {w : World} {b off m n : Nat} {f : Nat → List Value} (h : RSeg w b off m n f) (i : Nat) (hi : i < n) : w.rangeAt b (off + i * m) (f i) := fun j v hv => h i hi j v hv
theorem RSeg.below {w w' : World} {b off m n : Nat} {f : Nat → List Value} (h : RSeg w b off m n f) {B : Nat} (hb : Below B w w') (hB : b < B) : RSeg w' b off m n f :=
  fun i hi j v hv => (hb.cell (p := ⟨b, off + i * m + j, none⟩) hB).trans (h i hi j v hv)
theorem RSeg.lt {w : World} {b off m n : Nat} {f : Nat → List Value} (h : RSeg w b off m n f) (hn : 0 < n) (hf : f 0 ≠ []) : b < w.heap.size := by
  cases e : f 0 with
  | nil => exact absurd e hf
  | cons x xs => exact World.block_lt_of_cell? w _ (h 0 hn 0 x (by rw [e]; rfl))
theorem RRow.below {w w' : World} {a : Option Addr} {m n : Nat} {f : Nat → List Value} (h : RRow w a m n f) (hf : f 0 ≠ []) (hb : Below w.heap.size w w') : RRow w' a m n f := by
  by_cases h0 : n = 0
  · exact .inl h0
  rcases h with h | ⟨b, off, rfl, h⟩
  · exact .inl h
  · exact .inr ⟨b, off, rfl, h.below hb (h.lt (by omega) hf)⟩
/-- a slice of n elements in memory of one's own -/
def RMine (w : World) (base : Nat) (e : TypeId) (m : Nat) (v : Value) (n : Nat) (f : Nat → List Value) : Prop := w.ownsRow base e m v n (Cs f n)
section
variable {w w' : World} {base : Nat} {e : TypeId} {m : Nat} {v : Value} {n : Nat} {f : Nat → List Value}
theorem RMine.nil (w : World) (base : Nat) (e : TypeId) (m : Nat) (f : Nat → List Value) : RMine w base e m (.slice none 0 0) 0 f := World.ownsRow_nil w base e m
theorem RMine.below (h : RMine w base e m v n f) (hb : Below w.heap.size w w') : RMine w' base e m v n f := World.ownsRow.kept h (grown_below (row := none) hb) (Classical.em _)
theorem RMine.drew (h : RMine w base e m v n f) : RMine w.drew base e m v n f := h
theorem RMine.alloc (h : RMine w base e m v n f) (o : Obj) : RMine (w.alloc o) base e m v n f := World.ownsRow.alloc h o
theorem RMine.kept {row : Option Nat} (h : RMine w base e m v n f) (hg : w.grownBy w' row) (hne : v.ownBlock = none ∨ v.ownBlock ≠ row) : RMine w' base e m v n f := World.ownsRow.kept h hg hne
theorem RMine.low {base' : Nat} (h : RMine w base e m v n f) (hb : base' ≤ base) : RMine w base' e m v n f := by
  refine ⟨h.1, ?_⟩
  rcases h.2 with h' | ⟨g', cap', cur, hv, hbb, hr⟩
  · exact .inl h'
  · exact .inr ⟨g', cap', cur, hv, by omega, hr⟩
theorem RMine.form (h : RMine w base e m v n f) : ∃ a cap, v = .slice a n cap := by
  rcases h.2 with ⟨rfl, rfl⟩ | ⟨g, cap, cur, rfl, _⟩
  · exact ⟨none, 0, rfl⟩
  · exact ⟨_, cap, rfl⟩
theorem RMine.form' (h : RMine w base e m v n f) (hn : 0 < n) : ∃ g cap, v = .slice (some ⟨g, 0, none⟩) n cap ∧ base ≤ g ∧ g < w.heap.size ∧ n ≤ cap ∧ cap ≤ maxLen := by
  rcases h.2 with ⟨_, h0⟩ | ⟨g, cap, cur, hv, hb, hg, hn, hc, _⟩
  · omega
  · exact ⟨g, cap, hv, hb, (Array.getElem?_eq_some_iff.1 hg).1, hn, hc⟩
theorem RMine.congr {g : Nat → List Value} (h : RMine w base e m v n f) (he : ∀ i, i < n → f i = g i) : RMine w base e m v n g := by
  unfold RMine; rw [← Cs_congr he]; exact h
theorem RMine.row {a : Option Addr} {cap : Nat} (h : RMine w base e m (.slice a n cap) n f) (hf : ∀ i, (f i).length = m) : RRow w a m n f := by
  rcases h.2 with ⟨hv, h0⟩ | ⟨g, cap', cur, hv, hb, hg, hn, hc, hs, ht⟩
  · exact .inl h0
  · injection hv with h1 h2 h3
    subst h1
    refine .inr ⟨g, 0, rfl, fun i hi j v hj => ?_⟩
    have hjm : j < m := by have := (List.getElem?_eq_some_iff.1 hj).1; rwa [hf] at this
    rw [← Cs_get hf hi hjm, ← ht] at hj
    have hlt := (List.getElem?_eq_some_iff.1 hj).1
    rw [List.getElem?_take_of_lt (by rw [List.length_take] at hlt; omega)] at hj
    rw [Nat.zero_add]
    exact cell_of_heap hg (by simpa using hj)
theorem RMine.seg {g cap : Nat} (h : RMine w base e m (.slice (some ⟨g, 0, none⟩) n cap) n f) (hf : ∀ i, (f i).length = m) : RSeg w g 0 m n f := by
  rcases h.row hf with h0 | ⟨b, off, he, hs⟩
  · intro i hi; omega
  · injection he with he; injection he with h1 h2; subst h1 h2; exact hs
/-- an element, or some, are appended -/
theorem RMine.append {k : Nat} {news : List Value} (h : w.ownsRow base e m v (n + k) (Cs f n ++ news)) (hk : news = Cs (fun i => f (n + i)) k) : RMine w base e m v (n + k) f := by
  unfold RMine; rw [← Cs_cat, ← hk]; exact h
end
/-- cells of a new block, as append wants them -/
theorem cells_news (w : World) (vs : List Value) (T : TypeId) : ∀ (j : Nat) (u : Value), vs[j]? = some u → (w.alloc (.cells vs.toArray T)).cell? ((⟨w.heap.size, 0, none⟩ : Addr).add j) = some u := by
  intro j u hj
  rw [addr_add, Nat.zero_add]
  exact cell_of_heap (heap_alloc_new w _) (by simpa using hj)
end Go.Proofs.YtnbmmhoofilmfaaDoor

/- Structs loaded and stored whole, in a walk within a fence (an iterator's body, a loop's body). -/
namespace Go.Proofs.YtnbmmhoofilmfaaDoor
open Go.RowKit
set_option linter.unusedVariables false
section
variable {P : Program} {F : Fence} {nF : Nat} {ops : Array Oper} {rest : List Oper} {o : Oper} {a : Act} {w : World} {Q : Exit → Act → World → Prop}
theorem wpListIn_value (hw : Region.wanted o (yielded ops a.tmps) = true) (hc : ∀ c, o.op ≠ .call c) (hd : ∀ c, o.op ≠ .defer c) {v : Value} {w' : World} (hr : (execOp a.eval o).run P w = .ok (.value v) w')
    (h : wpListIn F nF P ops Q rest (a.put o.dst v) w') : wpListIn F nF P ops Q (o :: rest) a w := by
  refine wpListIn_step fun K hK => ?_
  simp only [hw, if_true]
  unfold Oper.wpIn
  refine ⟨?_, ?_⟩
  · intro f hf
    unfold Oper.about at hf
    split at hf
    · rename_i c ho; exact absurd ho (hc c)
    · cases hf
  · rw [Oper.semAt_plain F _ _ hd, hr]
    exact hK _ _ h
theorem wpListIn_skipped (hw : Region.wanted o (yielded ops a.tmps) = true) (hc : ∀ c, o.op ≠ .call c) (hd : ∀ c, o.op ≠ .defer c) {w' : World} (hr : (execOp a.eval o).run P w = .ok .skip w')
    (h : wpListIn F nF P ops Q rest (a.put o.dst undef) w') : wpListIn F nF P ops Q (o :: rest) a w := by
  refine wpListIn_step fun K hK => ?_
  simp only [hw, if_true]
  unfold Oper.wpIn
  refine ⟨?_, ?_⟩
  · intro f hf
    unfold Oper.about at hf
    split at hf
    · rename_i c ho; exact absurd ho (hc c)
    · cases hf
  · rw [Oper.semAt_plain F _ _ hd, hr]
    exact hK _ _ h
theorem wpIn_loadAt (hw : Region.wanted o (yielded ops a.tmps) = true) (T : TypeId) (p : Operand) (ho : o.op = .load T p)
    (g : Nat) (cs : Array Value) (d : TypeDesc) (hx : a.eval p = .pointer (some ⟨g, 0, none⟩)) (hI : At w g T cs) (hu : P.underlying T = some d) (hd : (match d with | .struct _ | .array _ _ => true | _ => false) = true) (hi : (P.info? T).map (·.size) = some cs.size)
    (h : wpListIn F nF P ops Q rest (a.put o.dst (.agg cs)) w) : wpListIn F nF P ops Q (o :: rest) a w := by
  refine wpListIn_value hw (by rw [ho]; intro c h; cases h) (by rw [ho]; intro c h; cases h) ?_ h
  unfold execOp
  simp only [ho, hx, Instr.loadAt, Instr.sureAddr, Sem.run_bind, Sem.run_pure, Result.andThen_ok, run_loadVar_row w g T T cs (0, 0) d hI hu hd hi]
theorem wpIn_load_mid (hw : Region.wanted o (yielded ops a.tmps) = true) (T : TypeId) (p : Operand) (ho : o.op = .load T p)
    (b off : Nat) (hx : a.eval p = .pointer (some ⟨b, off, none⟩)) (cs : List Value) (d : TypeDesc) (hc : w.rangeAt b off cs) (hu : P.underlying T = some d) (hd : d.isRow = true) (hi : (P.info? T).map (·.size) = some cs.length)
    (h : wpListIn F nF P ops Q rest (a.put o.dst (.agg cs.toArray)) w) : wpListIn F nF P ops Q (o :: rest) a w := by
  refine wpListIn_value hw (by rw [ho]; intro c h; cases h) (by rw [ho]; intro c h; cases h) ?_ h
  unfold execOp
  simp only [ho, hx, Instr.loadAt, Instr.sureAddr, Sem.run_bind, Sem.run_pure, Result.andThen_ok, run_loadVar_mid w b off T cs d hc hu hd hi]
theorem wpIn_storeAt (hw : Region.wanted o (yielded ops a.tmps) = true) (T : TypeId) (p q : Operand) (ho : o.op = .store T p q)
    (g : Nat) (cs old : Array Value) (hx : a.eval p = .pointer (some ⟨g, 0, none⟩)) (hy : a.eval q = .agg cs) (hI : At w g T old) (hi : (P.info? T).map (·.size) = some cs.size) (hs : old.size = cs.size) (h1 : cs.all (·.oneCell') = true)
    (h : ∀ w', At w' g T cs → Only g w w' → wpListIn F nF P ops Q rest (a.put o.dst undef) w') : wpListIn F nF P ops Q (o :: rest) a w := by
  refine wpListIn_skipped hw (by rw [ho]; intro c h; cases h) (by rw [ho]; intro c h; cases h) (w' := w.setRow g cs) ?_ (h _ (setRow_heap w g _ cs _ _ hI) (only_setRow w g _ hI hs.symm))
  unfold execOp
  simp only [ho, hx, hy, Instr.storeAt, Instr.sureAddr, Sem.run_bind, Sem.run_pure, Result.andThen_ok, run_storeVar_row w g T T old cs hI hi hs h1]
end
end Go.Proofs.YtnbmmhoofilmfaaDoor

/- A range over a function whose values are structs, which the assignment puts into a new block. No program in sight. -/
namespace Go.Proofs.YtnbmmhoofilmfaaDoor
open Go.RowKit
variable {P : Program}
theorem LocalP.bel {B : Nat} {X : World → Prop} (h : LocalP B X) {W W' : World} (hs : X W) (hb : Below W.heap.size W W') : X W' := h W W' hs ⟨hb.os, hb.tape, hb.output, hb.size, fun k _ hl => hb.block k hl⟩
theorem LocalP.at {B b : Nat} (t : TypeId) (cs : Array Value) (hb : b < B) : LocalP B (fun W => At W b t cs) := fun _ _ hs hg => (hg.block b hb (At.lt hs)).trans hs
theorem wp_rangeIx4 {g : Operand} {ps : Array Tmp} {asg bdy : Code} {Q : Exit → Act → World → Prop} {a : Act} {w : World} {gf : Nat} {lb : Array Value}
    (hg : a.eval g = .func (.func gf) #[] lb) (eg : ∀ args w, (callFunc gf args).run P w = .ok (.enter gf args) w)
    {encs : Nat → Array Value} {N : Nat} {Need : Nat → World → Prop} (hit : IterIx Fence.wide 4 P gf lb encs N (fun _ => False) Need) (hps : ∀ k, (encs k).size = ps.size)
    (T : TypeId) (cs : Nat → Array Value)
    (J : Nat → World → Prop) (Jx : Code → Nat → World → Prop)
    (hJ : ∀ k, LocalP w.heap.size (J k)) (hJx : ∀ c k, LocalP w.heap.size (Jx c k)) (hN : ∀ k, LocalP w.heap.size (Need k)) (h0 : J 0 w) (hn0 : Need 0 w) (A1 : Nat → Nat → Act)
    (assign : ∀ (l k : Nat) (W : World) (K : Act → World → Prop), k < N → (∀ p W', p = W.heap.size → Below W.heap.size W W' → At W' p T (cs k) → K (A1 k p) W') →
      asg.wpIn (Fence.wide.inRound l) 3 P (Exit.then K (fun _ _ _ => False)) { tmps := (ps.zip (encs k)).foldl (fun t (p, v) => t.setIfInBounds p v) a.tmps, defers := [] } W)
    (body : ∀ (l k p : Nat) (W : World), k < N → J k W → Need k W → At W p T (cs k) → bdy.wpIn (Fence.wide.inRound l) 3 P (roundIx w.heap.size J Jx Need k W) (A1 k p) W)
    (done : ∀ (D : Nat) (W : World), w.heap.size ≤ D → J N W → W.heap[D]? = some (.deferred (some [])) → Q .normal { a with defers := { target := .collected D, args := #[] } :: a.defers } W)
    (stop : ∀ (D : Nat) (c : Code) (k : Nat) (W : World), w.heap.size ≤ D → k < N → Jx c k W → W.heap[D]? = some (.deferred (some [])) → c.wp P Q { a with defers := { target := .collected D, args := #[] } :: a.defers } W) :
    (Code.rangeFunc g ps asg bdy).wp P Q a w := by
  refine (wpIn_wide (n := 5)).1 ?_
  exact wpIn_rangeIx rfl (by decide) hg trivial eg hit (fun r h => h.elim) hps J Jx (fun k a' W => ∃ p, a' = A1 k p ∧ At W p T (cs k))
    (LocalP.own hJ) (fun c => LocalP.own (hJx c)) (LocalP.own hN)
    (fun a' k W W' row hs hgr hr => by
      obtain ⟨p, he, hA⟩ := hs
      refine ⟨p, he, (hgr.block p hA.lt (fun e => ?_)).trans hA⟩
      obtain ⟨_, o, ho, hc⟩ := hr p e.symm
      have : some (Obj.cells (cs k) T (0, 0)) = some o := hA.symm.trans ho
      injection this with this
      subst this
      cases hc)
    (fun k A C hs ht => (hJ k).turns hs ht) (fun c k A C hs ht => (hJx c k).turns hs ht) h0 hn0
    (fun l k W K hk hj hn hK => assign l k W K hk (fun p W' _ hb hA => hK _ _ (Below.keeps hb) ((hJ k).bel hj hb) ((hN k).bel hn hb) ⟨p, rfl, hA⟩))
    (fun l k a' W hk hj hn ha => by obtain ⟨p, rfl, hA⟩ := ha; exact body l k p W hk hj hn hA)
    done (fun D c k W h1 h2 h3 h4 => wpIn_wide.2 (stop D c k W h1 h2 h3 h4))
end Go.Proofs.YtnbmmhoofilmfaaDoor

/- As XRange: a range over a function whose k-th value is known by a law alone (it may hold addresses of memory that the iterator has made): Val k vs W. No program in sight. -/
namespace Go.Proofs.YtnbmmhoofilmfaaDoor
open Go.RowKit
set_option linter.unusedVariables false
variable {F : Fence} {n : Nat} {P : Program}

/-- An iterator hands over N values, the k-th one meets Val k. Need: what it wants of memory. -/
def IterV (F : Fence) (n : Nat) (P : Program) (g : Nat) (lb : Array Value) (Val : Nat → Array Value → World → Prop) (N : Nat) (own : Nat → Prop) (Need : Nat → World → Prop) : Prop :=
  ∀ (l : Nat) (J Jx : Nat → World → Prop) (W : World),
    (∀ k A B, J k A → Turns own A B → J k B) → (∀ k A B, Jx k A → Turns own A B → Jx k B) →
    (∀ k vs A, k < N → J k A → Need k A → Val k vs A → YieldAt F (n - 1) P l vs A fun e B => (e = .returned (.bool true) ∧ J (k + 1) B ∧ Need k B) ∨ (e = .returned (.bool false) ∧ Jx k B)) →
    J 0 W → Need 0 W →
    CallsIn F n P g (#[.func (.yield l) #[] #[]] ++ lb) W fun e B => (∃ v, e = .returned v) ∧ (J N B ∨ ∃ k, k < N ∧ Jx k B)

/-- how the body of round k may be left -/
def roundV (B : Nat) (J : Nat → World → Prop) (Jx : Code → Nat → World → Prop) (Need : Nat → World → Prop) (k : Nat) (W : World) : Exit → Act → World → Prop
  | .normal, _, W' => KeepsFrom B W W' ∧ J (k + 1) W' ∧ Need k W'
  | .ret, _, W' => KeepsFrom B W W' ∧ Jx .ret k W'
  | .exit id, _, W' => KeepsFrom B W W' ∧ Jx (.exit id) k W'
  | .goto t, _, W' => KeepsFrom B W W' ∧ Jx (.goto t) k W'
  | .panic _, _, _ => False
  | .outgrown, _, _ => False

theorem wpIn_rangeV {g : Operand} {ps : Array Tmp} {assign body : Code} {Q : Exit → Act → World → Prop} {a : Act} {w : World}
    (hro : F.round = none) (h1 : 1 ≤ n) {gf : Nat} {lb : Array Value} (hg : a.eval g = .func (.func gf) #[] lb) (hFg : F.fn gf) (eg : ∀ args w, (callFunc gf args).run P w = .ok (.enter gf args) w)
    {Val : Nat → Array Value → World → Prop} {N : Nat} {own : Nat → Prop} {Need : Nat → World → Prop} (hit : IterV F (n - 1) P gf lb Val N own Need)
    (hown : ∀ r, own r → r < w.heap.size) (hps : ∀ k vs W, Val k vs W → vs.size = ps.size)
    (J : Nat → World → Prop) (Jx : Code → Nat → World → Prop) (Ax : Nat → Act → World → Prop)
    (hJ : OwnFrom w.heap.size J) (hJx : ∀ c, OwnFrom w.heap.size (Jx c)) (hN : OwnFrom w.heap.size Need) (hAx : ∀ a', OwnFrom w.heap.size (fun k W => Ax k a' W))
    (hJo : ∀ k A B, J k A → Turns own A B → J k B) (hJxo : ∀ c k A B, Jx c k A → Turns own A B → Jx c k B)
    (h0 : J 0 w) (hn0 : Need 0 w)
    (hassign : ∀ (l k : Nat) (vs : Array Value) (W : World) (K : Act → World → Prop), k < N → J k W → Need k W → Val k vs W →
      (∀ a' W', KeepsFrom w.heap.size W W' → J k W' → Need k W' → Ax k a' W' → K a' W') →
      assign.wpIn (F.inRound l) (n - 1 - 1) P (Exit.then K (fun _ _ _ => False)) { tmps := (ps.zip vs).foldl (fun t (p, v) => t.setIfInBounds p v) a.tmps, defers := [] } W)
    (hbody : ∀ (l k : Nat) (a' : Act) (W : World), k < N → J k W → Need k W → Ax k a' W → body.wpIn (F.inRound l) (n - 1 - 1) P (roundV w.heap.size J Jx Need k W) a' W)
    (hdone : ∀ (D : Nat) (W : World), w.heap.size ≤ D → J N W → W.heap[D]? = some (.deferred (some [])) → Q .normal { a with defers := { target := .collected D, args := #[] } :: a.defers } W)
    (hstop : ∀ (D : Nat) (c : Code) (k : Nat) (W : World), w.heap.size ≤ D → k < N → Jx c k W → W.heap[D]? = some (.deferred (some [])) → c.wpIn F n P Q { a with defers := { target := .collected D, args := #[] } :: a.defers } W) :
    (Code.rangeFunc g ps assign body).wpIn F n P Q a w := by
  refine wpIn_rangeFunc ?_
  intro fn hfn
  rw [hro]
  -- the record of the loop, by its state and its pending jump
  generalize hrc : (fun (st : LoopState) (pe : Option Code) => ({ state := st, pending := pe, fn := fn, tmps := a.tmps, params := ps, assign := assign, body := body, defers := w.heap.size } : Loop)) = rc
  have hrcs : ∀ st pe, rc st pe = { state := st, pending := pe, fn := fn, tmps := a.tmps, params := ps, assign := assign, body := body, defers := w.heap.size } := fun st pe => by rw [← hrc]
  clear hrc
  let W1 := (w.alloc (.deferred (some []))).alloc (.loop (rc .ready none))
  have hL1 : W1.heap[w.heap.size + 1]? = some (.loop (rc .ready none)) := by
    have := World.alloc_heap_new (w.alloc (.deferred (some []))) (.loop (rc .ready none)); rwa [World.size_alloc] at this
  have hK1 : W1.heap[w.heap.size]? = some (.deferred (some [])) := (Below.heap_alloc _ _ _ (by simp)).trans (World.alloc_heap_new w _)
  have grow1 : w.grownBy W1 none := ⟨rfl, rfl, rfl, by simp [W1]; omega, fun k hk _ => by
    show ((w.alloc _).alloc _).heap[k]? = _
    rw [Below.heap_alloc _ _ _ (by simp; omega), Below.heap_alloc _ _ _ hk]⟩
  have keep : ∀ {X : Nat → World → Prop}, OwnFrom w.heap.size X → ∀ k, X k w → X k W1 := fun h k hx => h k w W1 none hx grow1 (fun r e => by cases e)
  -- the two facts of book-keeping abide what the iterator turns
  have book : ∀ {A B : World} {k : Nat} {o : Obj}, Turns own A B → w.heap.size ≤ k → A.heap[k]? = some o → B.heap[k]? = some o := by
    rintro A B k o ⟨row, hgr, hr⟩ hk ho
    refine (hgr.block k (Array.getElem?_eq_some_iff.1 ho).1 (fun e => ?_)).trans ho
    have := hown k (hr k e.symm)
    omega
  refine ⟨w.heap.size + 1, [{ target := .collected w.heap.size, args := #[] }], W1, { target := .fn (.func gf) lb, args := #[.func (.yield (w.heap.size + 1)) #[] #[]] }, W1, gf,
    #[.func (.yield (w.heap.size + 1)) #[] #[]] ++ lb, W1, ?_, ?_, ?_, ?_, fun _ => h1, ?_⟩
  · show _ = Result.ok (_, _) ((w.alloc (.deferred (some []))).alloc (.loop (rc .ready none)))
    rw [hrcs]; exact run_enterLoop_outer _ _ _ _ _
  · simp only [resolve, hg]
    simp [go_sem]
  · intro f' hf'; simp [Target.leads] at hf'; subst hf'; exact hFg
  · simp [invoke, go_sem, eg]
  refine (hit (w.heap.size + 1)
    (fun k W => J k W ∧ W.heap[w.heap.size + 1]? = some (.loop (rc .ready none)) ∧ W.heap[w.heap.size]? = some (.deferred (some [])))
    (fun k W => ∃ c, Jx c k W ∧ W.heap[w.heap.size + 1]? = some (.loop (rc .done (some c))) ∧ W.heap[w.heap.size]? = some (.deferred (some [])))
    W1
    (fun k A B hs ht => ⟨hJo k A B hs.1 ht, book ht (by omega) hs.2.1, book ht (Nat.le_refl _) hs.2.2⟩)
    (fun k A B hs ht => by
      obtain ⟨c, hc, hl, hk⟩ := hs
      exact ⟨c, hJxo c k A B hc ht, book ht (by omega) hl, book ht (Nat.le_refl _) hk⟩)
    ?_ ⟨keep hJ 0 h0, hL1, hK1⟩ (keep hN 0 hn0)).mono ?_
  · -- one round
    rintro k vs W hkN ⟨hj, hl, hd⟩ hnd hval
    have hy := run_yield (P := P) (args := vs) hl (by rw [hrcs]; exact hps k vs W hval)
    rw [hrcs] at hy
    refine ⟨fn, _, assign, body, hy, roundIn_of_wpIn hfn (hassign _ k vs W _ hkN hj hnd hval ?_)⟩
    intro a' V hkf hjV hndV hax
    have hlV := hkf.same _ _ (by omega) hl rfl
    have hdV := hkf.same _ _ (Nat.le_refl _) hd rfl
    have hltV : w.heap.size + 1 < V.heap.size := (Array.getElem?_eq_some_iff.1 hlV).1
    refine ⟨_, run_beginRound hlV (by rw [hrcs]), ?_⟩
    generalize hbz : ({ rc .ready none with state := .busy } : Loop) = bz
    have hl2 : (V.putObj (w.heap.size + 1) (.loop bz)).heap[w.heap.size + 1]? = some (.loop bz) := World.putObj_heap_same hltV
    have hd2 : (V.putObj (w.heap.size + 1) (.loop bz)).heap[w.heap.size]? = some (.deferred (some [])) := (World.putObj_heap_other (by omega)).trans hdV
    refine wpIn_mono (hbody _ k a' _ hkN (hJ.putObj _ hjV (by omega) hlV rfl) (hN.putObj _ hndV (by omega) hlV rfl) ((hAx a').putObj _ hax (by omega) hlV rfl)) ?_
    have fin : ∀ (jump : Option Code) (U : World), KeepsFrom w.heap.size (V.putObj (w.heap.size + 1) (.loop bz)) U →
        (Instr.endRound (w.heap.size + 1) jump).run P U = .ok (.bool jump.isNone) (U.putObj (w.heap.size + 1) (.loop (rc (if jump.isNone then .ready else .done) jump))) ∧
        U.heap[w.heap.size + 1]? = some (.loop bz) ∧
        (U.putObj (w.heap.size + 1) (.loop (rc (if jump.isNone then .ready else .done) jump))).heap[w.heap.size + 1]? = some (.loop (rc (if jump.isNone then .ready else .done) jump)) ∧
        (U.putObj (w.heap.size + 1) (.loop (rc (if jump.isNone then .ready else .done) jump))).heap[w.heap.size]? = some (.deferred (some [])) := by
      intro jump U hkU
      have hlU := hkU.same _ _ (by omega) hl2 rfl
      have he := run_endRound (P := P) jump hlU
      refine ⟨?_, hlU, World.putObj_heap_same (Array.getElem?_eq_some_iff.1 hlU).1, (World.putObj_heap_other (by omega)).trans (hkU.same _ _ (Nat.le_refl _) hd2 rfl)⟩
      rw [he, ← hbz, hrcs, hrcs]
    rintro e a3 U hp
    cases e with
    | normal =>
      obtain ⟨hkU, hjU, hndU⟩ := hp
      obtain ⟨hr, hlU, hl4, hd4⟩ := fin none U hkU
      exact ⟨_, _, hr, .inl ⟨rfl, ⟨hJ.putObj _ hjU (by omega) hlU rfl, hl4, hd4⟩, hN.putObj _ hndU (by omega) hlU rfl⟩⟩
    | ret =>
      obtain ⟨hkU, hjU⟩ := hp
      obtain ⟨hr, hlU, hl4, hd4⟩ := fin (some .ret) U hkU
      exact ⟨_, _, hr, .inr ⟨rfl, .ret, (hJx _).putObj _ hjU (by omega) hlU rfl, hl4, hd4⟩⟩
    | exit id =>
      obtain ⟨hkU, hjU⟩ := hp
      obtain ⟨hr, hlU, hl4, hd4⟩ := fin (some (.exit id)) U hkU
      exact ⟨_, _, hr, .inr ⟨rfl, .exit id, (hJx _).putObj _ hjU (by omega) hlU rfl, hl4, hd4⟩⟩
    | goto t =>
      obtain ⟨hkU, hjU⟩ := hp
      obtain ⟨hr, hlU, hl4, hd4⟩ := fin (some (.goto t)) U hkU
      exact ⟨_, _, hr, .inr ⟨rfl, .goto t, (hJx _).putObj _ hjU (by omega) hlU rfl, hl4, hd4⟩⟩
    | panic ch => exact hp.elim
    | outgrown => exact hp.elim
  · -- the iterator has returned
    rintro e W2 ⟨⟨v, rfl⟩, (⟨hj, hl, hd⟩ | ⟨k, hkN, c, hj, hl, hd⟩)⟩
    · exact ⟨none, _, by have := run_endLoop (P := P) hl (by rw [hrcs]; simp); rw [hrcs] at this; exact this, hdone _ _ (Nat.le_refl _) (hJ.putObj _ hj (by omega) hl rfl) ((World.putObj_heap_other (by omega)).trans hd)⟩
    · exact ⟨some c, _, by have := run_endLoop (P := P) hl (by rw [hrcs]; simp); rw [hrcs] at this; exact this, hstop _ c k _ (Nat.le_refl _) hkN ((hJx c).putObj _ hj (by omega) hl rfl) ((World.putObj_heap_other (by omega)).trans hd)⟩

/-- X stands whatever is new, or a block from B on that is no cells is turned -/
def Kept (B : Nat) (X : World → Prop) : Prop := ∀ W W' row, X W → W.grownBy W' row → (∀ r, row = some r → B ≤ r ∧ ∃ o : Obj, W.heap[r]? = some o ∧ o.isCells = false) → X W'
theorem Kept.from {B : Nat} {J : Nat → World → Prop} (h : ∀ k, Kept B (J k)) : OwnFrom B J := fun s W W' row hs hg hr => h s W W' row hs hg hr
theorem Kept.turns {B : Nat} {X : World → Prop} (h : Kept B X) {A C : World} (hs : X A) (ht : Turns (fun _ => False) A C) : X C := by
  obtain ⟨row, hg, hr⟩ := ht
  exact h A C row hs hg (fun r e => (hr r e).elim)
theorem Kept.and {B : Nat} {X Y : World → Prop} (h : Kept B X) (k : Kept B Y) : Kept B (fun W => X W ∧ Y W) := fun W W' row hs hg hr => ⟨h W W' row hs.1 hg hr, k W W' row hs.2 hg hr⟩
theorem Kept.pure (B : Nat) (p : Prop) : Kept B (fun _ => p) := fun _ _ _ h _ _ => h
theorem Kept.ex {B : Nat} {α : Type} {X : α → World → Prop} (h : ∀ x, Kept B (X x)) : Kept B (fun W => ∃ x, X x W) := fun W W' row hs hg hr => let ⟨x, hx⟩ := hs; ⟨x, h x W W' row hx hg hr⟩
theorem Kept.all {B : Nat} {α : Type} {X : α → World → Prop} (h : ∀ x, Kept B (X x)) : Kept B (fun W => ∀ x, X x W) := fun W W' row hs hg hr x => h x W W' row (hs x) hg hr
theorem Kept.imp {B : Nat} {p : Prop} {X : World → Prop} (h : Kept B X) : Kept B (fun W => p → X W) := fun W W' row hs hg hr hp => h W W' row (hs hp) hg hr
theorem Kept.ofLocal {B : Nat} {X : World → Prop} (h : LocalP B X) : Kept B X := fun W W' row hs hg hr => h W W' hs (Still.of_grown hg fun r e => (hr r e).1)
theorem Kept.cell (B : Nat) (p : Addr) (v : Value) : Kept B (fun W => W.cell? p = some v) := fun W W' row hs hg hr => by
  have hl := World.block_lt_of_cell? W _ hs
  refine (World.cell?_of_block (w := W) (hg.block p.block hl fun e => ?_)).trans hs
  obtain ⟨_, o, ho, hc⟩ := hr _ e.symm
  simp only [World.cell?, ho] at hs
  cases o with
  | cells c e f => cases hc
  | _ => cases hs
theorem Kept.own {B base : Nat} {e : TypeId} {size k : Nat} {v : Value} {xs : List Value} : Kept B (fun W => W.ownsRow base e size v k xs) := fun W W' row hs hg hr => by
  refine World.ownsRow.kept hs hg ?_
  cases row with
  | none => cases h1 : v.ownBlock with
    | none => exact .inl rfl
    | some g => exact .inr (fun e => by cases e)
  | some r =>
    obtain ⟨_, o, ho, hc⟩ := hr r rfl
    cases h1 : v.ownBlock with
    | none => exact .inl rfl
    | some g =>
      refine .inr fun e => ?_
      injection e with e
      subst e
      rcases hs.2 with ⟨hv, _⟩ | ⟨g', cap', cur, hv, hbg, hg', h⟩
      · subst hv; cases h1
      · subst hv
        have : g' = g := by simpa [Value.ownBlock] using h1
        subst this
        rw [ho] at hg'
        injection hg' with hg'
        subst hg'
        cases hc
end Go.Proofs.YtnbmmhoofilmfaaDoor

/- A range over a function whose values are structs that are known by a law alone; the assignment of each round puts the value into a new block. No program in sight. -/
namespace Go.Proofs.YtnbmmhoofilmfaaDoor
open Go.RowKit
set_option linter.unusedVariables false
variable {P : Program}
theorem Kept.at {B b : Nat} (T : TypeId) (cs : Array Value) : Kept B (fun W => At W b T cs) := fun W W' row hs hg hr => by
  refine (hg.block b hs.lt fun e => ?_).trans hs
  obtain ⟨_, o, ho, hc⟩ := hr b e.symm
  have : some (Obj.cells cs T (0, 0)) = some o := Eq.trans (Eq.symm hs) ho
  injection this with this
  subst this
  cases hc
theorem Kept.below {B n : Nat} (w : World) (hn : n ≤ B) (hw : n ≤ w.heap.size) : Kept B (fun W => Below n w W) := Kept.ofLocal (LocalP.below w hn hw)
theorem wp_rangeV4 {g : Operand} {ps : Array Tmp} {asg bdy : Code} {Q : Exit → Act → World → Prop} {a : Act} {w : World} {gf : Nat} {lb : Array Value}
    (hg : a.eval g = .func (.func gf) #[] lb) (eg : ∀ args w, (callFunc gf args).run P w = .ok (.enter gf args) w)
    {V : Nat → Array Value → World → Prop} {N : Nat} {Need : Nat → World → Prop} (hit : IterV Fence.wide 4 P gf lb (fun k vs W => ∃ cs, vs = #[.agg cs] ∧ V k cs W) N (fun _ => False) Need) (hps : ps.size = 1)
    (T : TypeId) (J : Nat → World → Prop) (Jx : Code → Nat → World → Prop)
    (hJ : ∀ k, Kept w.heap.size (J k)) (hJx : ∀ c k, Kept w.heap.size (Jx c k)) (hN : ∀ k, Kept w.heap.size (Need k)) (hV : ∀ k cs, Kept w.heap.size (V k cs)) (h0 : J 0 w) (hn0 : Need 0 w) (A1 : Array Value → Nat → Act)
    (assign : ∀ (l k : Nat) (cs : Array Value) (W : World) (K : Act → World → Prop), k < N → V k cs W → (∀ p W', p = W.heap.size → Below W.heap.size W W' → At W' p T cs → K (A1 cs p) W') →
      asg.wpIn (Fence.wide.inRound l) 3 P (Exit.then K (fun _ _ _ => False)) { tmps := (ps.zip #[.agg cs]).foldl (fun t (p, v) => t.setIfInBounds p v) a.tmps, defers := [] } W)
    (body : ∀ (l k : Nat) (cs : Array Value) (p : Nat) (W : World), k < N → J k W → Need k W → V k cs W → At W p T cs → bdy.wpIn (Fence.wide.inRound l) 3 P (roundV w.heap.size J Jx Need k W) (A1 cs p) W)
    (done : ∀ (D : Nat) (W : World), w.heap.size ≤ D → J N W → W.heap[D]? = some (.deferred (some [])) → Q .normal { a with defers := { target := .collected D, args := #[] } :: a.defers } W)
    (stop : ∀ (D : Nat) (c : Code) (k : Nat) (W : World), w.heap.size ≤ D → k < N → Jx c k W → W.heap[D]? = some (.deferred (some [])) → c.wp P Q { a with defers := { target := .collected D, args := #[] } :: a.defers } W) :
    (Code.rangeFunc g ps asg bdy).wp P Q a w := by
  refine (wpIn_wide (n := 5)).1 ?_
  have up : ∀ {X : World → Prop}, Kept w.heap.size X → ∀ {W W' : World}, X W → Below W.heap.size W W' → X W' := fun h W W' hs hb => h W W' none hs ⟨hb.os, hb.tape, hb.output, hb.size, fun k hk _ => hb.block k hk⟩ (fun r e => by cases e)
  exact wpIn_rangeV rfl (by decide) hg trivial eg hit (fun r h => h.elim) (fun k vs W h => by obtain ⟨cs, rfl, _⟩ := h; rw [hps]; rfl) J Jx (fun k a' W => ∃ cs p, a' = A1 cs p ∧ V k cs W ∧ At W p T cs)
    (Kept.from hJ) (fun c => Kept.from (hJx c)) (Kept.from hN) (fun a' => Kept.from fun k => Kept.ex fun cs => Kept.ex fun p => (Kept.pure _ _).and ((hV k cs).and (Kept.at T cs)))
    (fun k A C hs ht => (hJ k).turns hs ht) (fun c k A C hs ht => (hJx c k).turns hs ht) h0 hn0
    (fun l k vs W K hk hj hn hval hK => by
      obtain ⟨cs, rfl, hv⟩ := hval
      exact assign l k cs W K hk hv fun p W' _ hb hA => hK _ _ (Below.keeps hb) (up (hJ k) hj hb) (up (hN k) hn hb) ⟨cs, p, rfl, up (hV k cs) hv hb, hA⟩)
    (fun l k a' W hk hj hn ha => by obtain ⟨cs, p, rfl, hv, hA⟩ := ha; exact body l k cs p W hk hj hn hv hA)
    done (fun D c k W h1 h2 h3 h4 => wpIn_wide.2 (stop D c k W h1 h2 h3 h4))
end Go.Proofs.YtnbmmhoofilmfaaDoor

/- A copy of a row: 'append([]T{}, l...)', l nil or not. No program in sight. -/
namespace Go.Proofs.YtnbmmhoofilmfaaDoor
open Go.RowKit
set_option linter.unusedVariables false

theorem own_nil (w : World) (e : TypeId) (size base : Nat) (hb : base ≤ w.heap.size) : (w.alloc (.cells #[] e)).ownsRow base e size (.slice (some ⟨w.heap.size, 0, none⟩) 0 0) 0 [] :=
  ⟨by simp, .inr ⟨_, 0, #[], rfl, hb, heap_alloc_new w _, by omega, by unfold maxLen; omega, by simp, by simp⟩⟩
theorem wpList_copy {P : Program} {w : World} {ops : Array Oper} {rest : List Oper} {o : Oper} {a : Act} {Q : Exit → Act → World → Prop} (hgd : o.guard = none) (s x : Operand) (t : TypeId)
    (ho : o.op = .call { callee := .builtin .append, args := #[s, x], argTypes := #[t, t] })
    (base : Nat) (e : TypeId) (i : TypeInfo) (z : Value) (size bytes : Nat) (ht : P.underlying t = some (.slice e)) (hi : P.info? e = some i) (hz : i.zero = some z)
    (hsize : i.size = size) (hby : i.bytes = bytes) (hzs : z.cells.size = size) (hsz : 0 < size) (g : Nat) (hs : a.eval s = .slice (some ⟨g, 0, none⟩) 0 0) (hown : w.ownsRow base e size (.slice (some ⟨g, 0, none⟩) 0 0) 0 [])
    (xa : Option Addr) (n c : Nat) (news : List Value) (hx : a.eval x = .slice xa n c) (hc : xa = none → n = 0 ∧ c = 0) (hl : news.length = n * size)
    (hnews : ∀ ad, xa = some ad → ∀ j u, news[j]? = some u → w.cell? (ad.add j) = some u) (h1 : ∀ u ∈ news, u.oneCell' = true) (h63 : n ≤ maxLen) (hbytes : n * bytes ≤ 140737488355328) (hbase : base ≤ w.heap.size)
    (h : ∀ v' w', w'.ownsRow base e size v' n news → w.grownBy w' (some g) → wpList P ops Q rest (a.put o.dst v') w') : wpList P ops Q (o :: rest) a w := by
  cases xa with
  | some ad =>
    refine wpList_append_own w hgd s x t ho base e i z size bytes ht hi hz hsize hby hzs hsz _ 0 [] hs hown ad n c news hx hl (hnews ad rfl) h1 (by omega) (by rw [Nat.zero_add]; exact hbytes) hbase (fun v' w' h2 h3 _ => h v' w' ?_ h3)
    rw [Nat.zero_add, List.nil_append] at h2; exact h2
  | none =>
    obtain ⟨rfl, rfl⟩ := hc rfl
    have : news = [] := by simpa using hl
    subst this
    exact wpList_append_own_none hgd s x t ho base e i size ht hi _ 0 [] hs hown hx (h _ _ hown ⟨rfl, rfl, rfl, Nat.le_refl _, fun _ _ _ => rfl⟩)
end Go.Proofs.YtnbmmhoofilmfaaDoor
