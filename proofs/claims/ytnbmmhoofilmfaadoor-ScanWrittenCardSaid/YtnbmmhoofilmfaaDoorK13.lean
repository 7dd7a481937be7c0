/- Texts of this claim, merged by a program (a claim may have 60 files): RwA, AtM, AtN, RangeK, CopyB. -/
import Derived.Test.YtnbmmhoofilmfaaDoorK08
import Derived.Test.YtnbmmhoofilmfaaDoorK03
import Derived.Deep.OwnRows
import Derived.Deep.MidRow
import Derived.Laws.CopyRow
import Derived.Deep.RegionLaw
/- Rows of structs made at once and stored element by element. No program in sight. -/
namespace Go.Proofs.YtnbmmhoofilmfaaDoor
open Go.RowKit
set_option linter.unusedVariables false

/-- heap block g is a row of n elements of m cells each -/
structure RArr (W : World) (g : Nat) (T : TypeId) (m n : Nat) (f : Nat → List Value) : Prop where
  blk : ∃ cs, W.heap[g]? = some (.cells cs T (0, 0)) ∧ cs.size = n * m
  seg : RSeg W g 0 m n f
section
variable {W W' : World} {g : Nat} {T : TypeId} {m n : Nat} {f : Nat → List Value}
theorem RArr.lt (h : RArr W g T m n f) : g < W.heap.size := by obtain ⟨cs, h, _⟩ := h.blk; exact (Array.getElem?_eq_some_iff.1 h).1
theorem RArr.of_block (h : RArr W g T m n f) (e : W'.heap[g]? = W.heap[g]?) : RArr W' g T m n f :=
  ⟨by obtain ⟨cs, h1, h2⟩ := h.blk; exact ⟨cs, e.trans h1, h2⟩, fun i hi j v hv => (World.cell?_of_block (w := W) e).trans (h.seg i hi j v hv)⟩
theorem RArr.below (h : RArr W g T m n f) (hb : Below W.heap.size W W') : RArr W' g T m n f := h.of_block (hb.block g h.lt)
theorem RArr.grown (h : RArr W g T m n f) {row : Option Nat} (hb : W.grownBy W' row) (hg : some g ≠ row) : RArr W' g T m n f := h.of_block (hb.block g h.lt hg)
theorem RArr.only (h : RArr W g T m n f) {b : Nat} (hb : Only b W W') (hg : g ≠ b) : RArr W' g T m n f := h.of_block (hb.block g hg)
theorem RArr.alloc (h : RArr W g T m n f) (o : Obj) : RArr (W.alloc o) g T m n f := h.below ((Below.refl _ _).alloc (Nat.le_refl _) o)
theorem RArr.congr {f' : Nat → List Value} (h : RArr W g T m n f) (e : ∀ i, i < n → f i = f' i) : RArr W g T m n f' := ⟨h.blk, fun i hi j v hv => h.seg i hi j v (by rw [e i hi]; exact hv)⟩
theorem RArr.there (h : RArr W g T m n f) {k : Nat} (hk : k < n) : W.there g (k * m) m := fun j hj => by
  obtain ⟨cs, h1, h2⟩ := h.blk
  have hlt : k * m + j < cs.size := by
    rw [h2]
    have : (k + 1) * m ≤ n * m := Nat.mul_le_mul_right m hk
    rw [Nat.succ_mul] at this
    omega
  exact ⟨by rw [cell_of_heap h1 (Array.getElem?_eq_getElem hlt)]; rfl, soft_of_heap h1 _⟩
/-- an element is stored -/
theorem RArr.set (h : RArr W g T m n f) {k : Nat} (hk : k < n) {vs : List Value} (hv : vs.length = m) (hf : ∀ i, (f i).length = m) : RArr (W.setCells g (k * m) vs) g T m n (fun j => if j = k then vs else f j) ∧ Only g W (W.setCells g (k * m) vs) := by
  have ho := only_setCells g vs (k * m) W
  have hth := h.there hk
  obtain ⟨cs, h1, h2⟩ := h.blk
  obtain ⟨c', hc1, hc2⟩ := ho.shape _ _ _ h1
  refine ⟨⟨⟨c', hc2, by rw [hc1, h2]⟩, fun i hi j v hj => ?_⟩, ho⟩
  rw [Nat.zero_add]
  by_cases e : i = k
  · subst e
    rw [if_pos rfl] at hj
    exact World.rangeAt_setCells_same W g (i * m) vs (by rw [hv]; exact hth) j v hj
  · rw [if_neg e] at hj
    have hr : W.rangeAt g (i * m) (f i) := by have := h.seg.range i hi; rwa [Nat.zero_add] at this
    refine World.rangeAt_setCells_apart hr g (k * m) vs ?_ j v hj
    rw [hf, hv]
    rcases Nat.lt_or_gt_of_ne e with h' | h'
    · have : (i + 1) * m ≤ k * m := Nat.mul_le_mul_right m h'
      rw [Nat.succ_mul] at this; omega
    · have : (k + 1) * m ≤ i * m := Nat.mul_le_mul_right m h'
      rw [Nat.succ_mul] at this; omega
/-- it is a slice of one's own -/
theorem RArr.mine (h : RArr W g T m n f) (hf : ∀ i, (f i).length = m) {base : Nat} (hb : base ≤ g) (hn : n ≤ maxLen) : RMine W base T m (.slice (some ⟨g, 0, none⟩) n n) n f := by
  obtain ⟨cs, h1, h2⟩ := h.blk
  refine ⟨Cs_length hf n, .inr ⟨g, n, cs, rfl, hb, h1, Nat.le_refl _, hn, h2, ?_⟩⟩
  rw [List.take_of_length_le (by rw [Array.length_toList, h2]; exact Nat.le_refl _)]
  apply List.ext_getElem?
  intro p
  by_cases hp : p < n * m
  · have hm : 0 < m := by
      rcases Nat.eq_zero_or_pos m with e | e
      · rw [e, Nat.mul_zero] at hp; omega
      · exact e
    have hq : p / m < n := (Nat.div_lt_iff_lt_mul hm).2 hp
    have hr : p % m < m := Nat.mod_lt _ hm
    have he : p / m * m + p % m = p := by rw [Nat.mul_comm]; exact Nat.div_add_mod p m
    obtain ⟨v, hv⟩ : ∃ v, (f (p / m))[p % m]? = some v := ⟨_, List.getElem?_eq_getElem (by rw [hf]; exact hr)⟩
    have h3 := h.seg (p / m) hq (p % m) v hv
    rw [Nat.zero_add, he] at h3
    have h4 := Cs_get hf hq hr
    rw [he] at h4
    rw [h4, hv, Array.getElem?_toList, Array.getElem?_eq_getElem (by rw [h2]; exact hp)]
    have h5 := cell_of_heap h1 (Array.getElem?_eq_getElem (show p < cs.size by rw [h2]; exact hp))
    rw [h3] at h5
    exact h5.symm
  · rw [List.getElem?_eq_none (by rw [Array.length_toList, h2]; omega), List.getElem?_eq_none (by rw [Cs_length hf]; omega)]
/-- what make lays -/
theorem RArr.made (w : World) (z : Array Value) (hz : z.size = m) (hm : 0 < m) (n : Nat) (T : TypeId) : RArr (w.alloc (.cells (madeCells z (n * m)) T)) w.heap.size T m n (fun _ => z.toList) :=
  ⟨⟨_, heap_alloc_new w _, size_madeCells _ _⟩, fun i hi j v hj => by
    rw [Nat.zero_add]
    have hj' : j < m := by have := (List.getElem?_eq_some_iff.1 hj).1; rw [Array.length_toList, hz] at this; exact this
    have hlt : i * m + j < n * m := by
      have : (i + 1) * m ≤ n * m := Nat.mul_le_mul_right m hi
      rw [Nat.succ_mul] at this; omega
    refine cell_of_heap (heap_alloc_new w _) ?_
    have hmod : (i * m + j) % m = j := by rw [Nat.mul_comm, Nat.mul_add_mod, Nat.mod_eq_of_lt hj']
    have hz' : z[j]? = some v := by rw [← hj, Array.getElem?_toList]
    simp only [madeCells, Array.getElem?_map, Array.getElem?_range, hlt, if_true, Option.map_some, hz, hmod]
    rw [getElem!_def, hz']⟩
theorem run_mkrow {P : Program} (t e : TypeId) (z : Value) (m bytes : Nat) (ht : P.underlying t = some (.slice e)) (hinfo : (P.info? e).map (fun i => (i.zero, i.size, i.bytes)) = some (some z, m, bytes))
    (kl kc : IntKind) (n : Nat) (hbytes : bytes * n ≤ 281474976710656) (h63 : n ≤ 9223372036854775807) (w : World) :
    (Instr.makeSlice t (.int kl (n : Int)) (.int kc (n : Int))).run P w = .ok (.slice (some ⟨w.heap.size, 0, none⟩) n n) (w.alloc (.cells (madeCells z.cells (n * m)) e)) := by
  obtain ⟨i, hi, hzz⟩ := Option.map_eq_some_iff.1 hinfo
  simp only [Prod.mk.injEq] at hzz
  obtain ⟨hz, hs, hb⟩ := hzz
  have hb' : (i.bytes : Int) * (n : Int) ≤ 281474976710656 := by
    have h : ((i.bytes * n : Nat) : Int) ≤ 281474976710656 := by rw [hb]; omega
    rwa [Int.natCast_mul] at h
  have hr := run_make (P := P) w t e i z ht hi hz kl kc n n (by omega) (Int.le_refl _) hb' (by omega)
  simp only [Int.toNat_natCast, hs] at hr
  exact hr
end
end Go.Proofs.YtnbmmhoofilmfaaDoor

/- Whole rows of cells loaded and stored in the midst of a heap block. No program in sight. -/
namespace Go.Proofs.YtnbmmhoofilmfaaDoor
open Go.RowKit
set_option linter.unusedVariables false
theorem wp_loadMid {P : Program} {w : World} {ops : Array Oper} {rest : List Oper} {o : Oper} {a : Act} {Q : Exit → Act → World → Prop} (hw : Region.wanted o (yielded ops a.tmps) = true) (T : TypeId) (p : Operand) (ho : o.op = .load T p)
    (g off : Nat) (cs : List Value) (d : TypeDesc) (hx : a.eval p = .pointer (some ⟨g, off, none⟩)) (hI : w.rangeAt g off cs) (hu : P.underlying T = some d) (hd : d.isRow = true) (hi : (P.info? T).map (·.size) = some cs.length)
    (h : wpList P ops Q rest (a.put o.dst (.agg cs.toArray)) w) : wpList P ops Q (o :: rest) a w :=
  BigFrame.wpList_want hw fun _ hK => wp_load_mid T p ho g off hx cs d hI hu hd hi (hK _ _ h)
end Go.Proofs.YtnbmmhoofilmfaaDoor

/- One cell of a row stored; what grows. No program in sight. -/
namespace Go.Proofs.YtnbmmhoofilmfaaDoor
open Go.RowKit
set_option linter.unusedVariables false
theorem RArr.cellset {W : World} {g : Nat} {T : TypeId} {m n : Nat} {f : Nat → List Value} (h : RArr W g T m n f) {k j : Nat} (hk : k < n) (hj : j < m) (hf : ∀ i, (f i).length = m) (v : Value) : RArr (W.setCell ⟨g, k * m + j, none⟩ v) g T m n (fun i => if i = k then (f i).set j v else f i) := by
  have ho := Only.setCell W ⟨g, k * m + j, none⟩ v
  obtain ⟨cs, h1, h2⟩ := h.blk
  obtain ⟨c', hc1, hc2⟩ := ho.shape _ _ _ h1
  refine ⟨⟨c', hc2, by rw [hc1, h2]⟩, fun i hi p u hp => ?_⟩
  rw [Nat.zero_add]
  obtain ⟨x, hx⟩ : ∃ x, W.cell? ⟨g, k * m + j, none⟩ = some x := by
    have := h.seg k hk j _ (List.getElem?_eq_getElem (by rw [hf]; exact hj))
    rw [Nat.zero_add] at this
    exact ⟨_, this⟩
  have hpm : p < m := by
    have := (List.getElem?_eq_some_iff.1 hp).1
    by_cases e : i = k
    · rw [if_pos e, List.length_set, hf] at this; exact this
    · rw [if_neg e, hf] at this; exact this
  by_cases e : i = k
  · subst e
    rw [if_pos rfl] at hp
    by_cases e2 : p = j
    · subst e2
      rw [List.getElem?_set_self (by rw [hf]; exact hpm)] at hp
      cases hp
      exact World.cell?_setCell_same _ _ _ hx
    · rw [List.getElem?_set_ne (fun h => e2 h.symm)] at hp
      rw [World.cell?_setCell_other _ _ _ _ (by intro h; injection h with _ h _; omega)]
      have := h.seg i hi p u hp
      rwa [Nat.zero_add] at this
  · rw [if_neg e] at hp
    have hne : k * m + j ≠ i * m + p := by
      rcases Nat.lt_or_gt_of_ne e with h' | h'
      · have : (i + 1) * m ≤ k * m := Nat.mul_le_mul_right m h'
        rw [Nat.succ_mul] at this; omega
      · have : (k + 1) * m ≤ i * m := Nat.mul_le_mul_right m h'
        rw [Nat.succ_mul] at this; omega
    rw [World.cell?_setCell_other _ _ _ _ (by intro h; injection h with _ h _; exact hne h)]
    have := h.seg i hi p u hp
    rwa [Nat.zero_add] at this
theorem Only.grown {b : Nat} {w w' : World} (h : Only b w w') : w.grownBy w' (some b) := ⟨h.os, h.tape, h.output, by rw [h.size]; exact Nat.le_refl _, fun k _ hk => h.block k (fun e => hk (by rw [e]))⟩
/-- a row stored in the midst of a block: the world behind it gets a name -/
theorem wp_storeMid {P : Program} {ops : Array Oper} {rest : List Oper} {op : Oper} {a : Act} {w : World} {Q : Exit → Act → World → Prop} (hgd : op.guard = none) (ty : TypeId) (x y : Operand) (ho : op.op = .store ty x y)
    (b o : Nat) (cs : List Value) (hx : a.eval x = .pointer (some ⟨b, o, none⟩)) (hy : a.eval y = .agg cs.toArray)
    (ht : w.there b o cs.length) (hi : (P.info? ty).map (·.size) = some cs.length) (h1 : ∀ v ∈ cs, v.oneCell' = true)
    (h : ∀ w', Hid (w' = w.setCells b o cs) → wpList P ops Q rest (a.put op.dst undef) w') : wpList P ops Q (op :: rest) a w :=
  wpList_store_mid hgd ty x y ho b o cs.toArray hx hy (by simpa using ht) (by simpa using hi) (by rw [List.all_toArray, List.all_eq_true]; exact h1) (h _ (Lib.hid rfl))
/-- a literal slice of one element -/
theorem wpList_slice1 {P : Program} {w : World} {ops : Array Oper} {rest : List Oper} {o : Oper} {a : Act} {Q : Exit → Act → World → Prop} (hgd : o.guard = none) (t : TypeId) (n i : Nat) (x : Operand) (ho : o.op = .buildSlice t n #[(i, x)])
    (u : Value) (hx : a.eval x = u) (v : Value) (w' : World) (hr : (Instr.buildSlice t n #[(i, u)]).run P w = .ok v w') (h : wpList P ops Q rest (a.put o.dst v) w') : wpList P ops Q (o :: rest) a w :=
  wpList_plain hgd fun _ hK => by
    unfold Oper.wp execOp
    subst hx
    simp only [ho, Sem.run_bind, List.map_toArray, List.map_cons, List.map_nil, hr, Result.andThen_ok, Sem.run_pure]
    exact hK _ _ h
end Go.Proofs.YtnbmmhoofilmfaaDoor

/- As XRange: a range over a function whose iterator turns blocks of its own: each round leaves what the iterator needs as it was (Need k), and the iterator itself goes on to Need (k + 1). No program in sight. -/
namespace Go.Proofs.YtnbmmhoofilmfaaDoor
open Go.RowKit
set_option linter.unusedVariables false
variable {F : Fence} {n : Nat} {P : Program}

/-- An iterator hands over N values, the k-th encs k. own: blocks that it turns itself. Need k: what it wants of memory, k rounds being over. -/
def IterK (F : Fence) (n : Nat) (P : Program) (g : Nat) (lb : Array Value) (encs : Nat → Array Value) (N : Nat) (own : Nat → Prop) (Need : Nat → World → Prop) : Prop :=
  ∀ (l : Nat) (J Jx : Nat → World → Prop) (W : World),
    (∀ k A B, J k A → Turns own A B → J k B) → (∀ k A B, Jx k A → Turns own A B → Jx k B) →
    (∀ k A, k < N → J k A → Need k A → YieldAt F (n - 1) P l (encs k) A fun e B => (e = .returned (.bool true) ∧ J (k + 1) B ∧ Need k B) ∨ (e = .returned (.bool false) ∧ Jx k B)) →
    J 0 W → Need 0 W →
    CallsIn F n P g (#[.func (.yield l) #[] #[]] ++ lb) W fun e B => (∃ v, e = .returned v) ∧ (J N B ∨ ∃ k, k < N ∧ Jx k B)

/-- how the body of round k may be left -/
def roundK (B : Nat) (J : Nat → World → Prop) (Jx : Code → Nat → World → Prop) (Need : Nat → World → Prop) (k : Nat) (W : World) : Exit → Act → World → Prop
  | .normal, _, W' => KeepsFrom B W W' ∧ J (k + 1) W' ∧ Need k W'
  | .ret, _, W' => KeepsFrom B W W' ∧ Jx .ret k W'
  | .exit id, _, W' => KeepsFrom B W W' ∧ Jx (.exit id) k W'
  | .goto t, _, W' => KeepsFrom B W W' ∧ Jx (.goto t) k W'
  | .panic _, _, _ => False
  | .outgrown, _, _ => False

theorem wpIn_rangeK {g : Operand} {ps : Array Tmp} {assign body : Code} {Q : Exit → Act → World → Prop} {a : Act} {w : World}
    (hro : F.round = none) (h1 : 1 ≤ n) {gf : Nat} {lb : Array Value} (hg : a.eval g = .func (.func gf) #[] lb) (hFg : F.fn gf) (eg : ∀ args w, (callFunc gf args).run P w = .ok (.enter gf args) w)
    {encs : Nat → Array Value} {N : Nat} {own : Nat → Prop} {Need : Nat → World → Prop} (hit : IterK F (n - 1) P gf lb encs N own Need)
    (hown : ∀ r, own r → r < w.heap.size) (hps : ∀ k, (encs k).size = ps.size)
    (J : Nat → World → Prop) (Jx : Code → Nat → World → Prop) (Ax : Nat → Act → World → Prop)
    (hJ : OwnFrom w.heap.size J) (hJx : ∀ c, OwnFrom w.heap.size (Jx c)) (hN : OwnFrom w.heap.size Need) (hAx : ∀ a', OwnFrom w.heap.size (fun k W => Ax k a' W))
    (hJo : ∀ k A B, J k A → Turns own A B → J k B) (hJxo : ∀ c k A B, Jx c k A → Turns own A B → Jx c k B)
    (h0 : J 0 w) (hn0 : Need 0 w)
    (hassign : ∀ (l k : Nat) (W : World) (K : Act → World → Prop), k < N → J k W → Need k W →
      (∀ a' W', KeepsFrom w.heap.size W W' → J k W' → Need k W' → Ax k a' W' → K a' W') →
      assign.wpIn (F.inRound l) (n - 1 - 1) P (Exit.then K (fun _ _ _ => False)) { tmps := (ps.zip (encs k)).foldl (fun t (p, v) => t.setIfInBounds p v) a.tmps, defers := [] } W)
    (hbody : ∀ (l k : Nat) (a' : Act) (W : World), k < N → J k W → Need k W → Ax k a' W → body.wpIn (F.inRound l) (n - 1 - 1) P (roundK w.heap.size J Jx Need k W) a' W)
    (hdone : ∀ (D : Nat) (W : World), w.heap.size ≤ D → J N W → W.heap[D]? = some (.deferred (some [])) → Q .normal { a with defers := { target := .collected D, args := #[] } :: a.defers } W)
    (hstop : ∀ (D : Nat) (c : Code) (k : Nat) (W : World), w.heap.size ≤ D → k < N → Jx c k W → W.heap[D]? = some (.deferred (some [])) → c.wpIn F n P Q { a with defers := { target := .collected D, args := #[] } :: a.defers } W) :
    (Code.rangeFunc g ps assign body).wpIn F n P Q a w := by
  refine wpIn_rangeFunc ?_
  intro fn hfn
  rw [hro]
  -- the record of the loop, by its state and its pending jump
  generalize hrc : (fun (st : LoopState) (pe : Option Code) => ({ state := st, pending := pe, fn := fn, tmps := a.tmps, params := ps, assign := assign, body := body, defers := w.heap.size } : Loop)) = rc
  have hrcs : ∀ st pe, rc st pe = { state := st, pending := pe, fn := fn, tmps := a.tmps, params := ps, assign := assign, body := body, defers := w.heap.size } := fun st pe => by rw [← hrc]
  clear hrc
  let W1 := (w.alloc (.deferred (some []))).alloc (.loop (rc .ready none))
  have hL1 : W1.heap[w.heap.size + 1]? = some (.loop (rc .ready none)) := by
    have := World.alloc_heap_new (w.alloc (.deferred (some []))) (.loop (rc .ready none)); rwa [World.size_alloc] at this
  have hK1 : W1.heap[w.heap.size]? = some (.deferred (some [])) := (Below.heap_alloc _ _ _ (by simp)).trans (World.alloc_heap_new w _)
  have grow1 : w.grownBy W1 none := ⟨rfl, rfl, rfl, by simp [W1]; omega, fun k hk _ => by
    show ((w.alloc _).alloc _).heap[k]? = _
    rw [Below.heap_alloc _ _ _ (by simp; omega), Below.heap_alloc _ _ _ hk]⟩
  have keep : ∀ {X : Nat → World → Prop}, OwnFrom w.heap.size X → ∀ k, X k w → X k W1 := fun h k hx => h k w W1 none hx grow1 (fun r e => by cases e)
  -- the two facts of book-keeping abide what the iterator turns
  have book : ∀ {A B : World} {k : Nat} {o : Obj}, Turns own A B → w.heap.size ≤ k → A.heap[k]? = some o → B.heap[k]? = some o := by
    rintro A B k o ⟨row, hgr, hr⟩ hk ho
    refine (hgr.block k (Array.getElem?_eq_some_iff.1 ho).1 (fun e => ?_)).trans ho
    have := hown k (hr k e.symm)
    omega
  refine ⟨w.heap.size + 1, [{ target := .collected w.heap.size, args := #[] }], W1, { target := .fn (.func gf) lb, args := #[.func (.yield (w.heap.size + 1)) #[] #[]] }, W1, gf,
    #[.func (.yield (w.heap.size + 1)) #[] #[]] ++ lb, W1, ?_, ?_, ?_, ?_, fun _ => h1, ?_⟩
  · show _ = Result.ok (_, _) ((w.alloc (.deferred (some []))).alloc (.loop (rc .ready none)))
    rw [hrcs]; exact run_enterLoop_outer _ _ _ _ _
  · simp only [resolve, hg]
    simp [go_sem]
  · intro f' hf'; simp [Target.leads] at hf'; subst hf'; exact hFg
  · simp [invoke, go_sem, eg]
  refine (hit (w.heap.size + 1)
    (fun k W => J k W ∧ W.heap[w.heap.size + 1]? = some (.loop (rc .ready none)) ∧ W.heap[w.heap.size]? = some (.deferred (some [])))
    (fun k W => ∃ c, Jx c k W ∧ W.heap[w.heap.size + 1]? = some (.loop (rc .done (some c))) ∧ W.heap[w.heap.size]? = some (.deferred (some [])))
    W1
    (fun k A B hs ht => ⟨hJo k A B hs.1 ht, book ht (by omega) hs.2.1, book ht (Nat.le_refl _) hs.2.2⟩)
    (fun k A B hs ht => by
      obtain ⟨c, hc, hl, hk⟩ := hs
      exact ⟨c, hJxo c k A B hc ht, book ht (by omega) hl, book ht (Nat.le_refl _) hk⟩)
    ?_ ⟨keep hJ 0 h0, hL1, hK1⟩ (keep hN 0 hn0)).mono ?_
  · -- one round
    rintro k W hkN ⟨hj, hl, hd⟩ hnd
    have hy := run_yield (P := P) (args := encs k) hl (by rw [hrcs]; exact hps k)
    rw [hrcs] at hy
    refine ⟨fn, _, assign, body, hy, roundIn_of_wpIn hfn (hassign _ k W _ hkN hj hnd ?_)⟩
    intro a' V hkf hjV hndV hax
    have hlV := hkf.same _ _ (by omega) hl rfl
    have hdV := hkf.same _ _ (Nat.le_refl _) hd rfl
    have hltV : w.heap.size + 1 < V.heap.size := (Array.getElem?_eq_some_iff.1 hlV).1
    refine ⟨_, run_beginRound hlV (by rw [hrcs]), ?_⟩
    generalize hbz : ({ rc .ready none with state := .busy } : Loop) = bz
    have hl2 : (V.putObj (w.heap.size + 1) (.loop bz)).heap[w.heap.size + 1]? = some (.loop bz) := World.putObj_heap_same hltV
    have hd2 : (V.putObj (w.heap.size + 1) (.loop bz)).heap[w.heap.size]? = some (.deferred (some [])) := (World.putObj_heap_other (by omega)).trans hdV
    refine wpIn_mono (hbody _ k a' _ hkN (hJ.putObj _ hjV (by omega) hlV rfl) (hN.putObj _ hndV (by omega) hlV rfl) ((hAx a').putObj _ hax (by omega) hlV rfl)) ?_
    have fin : ∀ (jump : Option Code) (U : World), KeepsFrom w.heap.size (V.putObj (w.heap.size + 1) (.loop bz)) U →
        (Instr.endRound (w.heap.size + 1) jump).run P U = .ok (.bool jump.isNone) (U.putObj (w.heap.size + 1) (.loop (rc (if jump.isNone then .ready else .done) jump))) ∧
        U.heap[w.heap.size + 1]? = some (.loop bz) ∧
        (U.putObj (w.heap.size + 1) (.loop (rc (if jump.isNone then .ready else .done) jump))).heap[w.heap.size + 1]? = some (.loop (rc (if jump.isNone then .ready else .done) jump)) ∧
        (U.putObj (w.heap.size + 1) (.loop (rc (if jump.isNone then .ready else .done) jump))).heap[w.heap.size]? = some (.deferred (some [])) := by
      intro jump U hkU
      have hlU := hkU.same _ _ (by omega) hl2 rfl
      have he := run_endRound (P := P) jump hlU
      refine ⟨?_, hlU, World.putObj_heap_same (Array.getElem?_eq_some_iff.1 hlU).1, (World.putObj_heap_other (by omega)).trans (hkU.same _ _ (Nat.le_refl _) hd2 rfl)⟩
      rw [he, ← hbz, hrcs, hrcs]
    rintro e a3 U hp
    cases e with
    | normal =>
      obtain ⟨hkU, hjU, hndU⟩ := hp
      obtain ⟨hr, hlU, hl4, hd4⟩ := fin none U hkU
      exact ⟨_, _, hr, .inl ⟨rfl, ⟨hJ.putObj _ hjU (by omega) hlU rfl, hl4, hd4⟩, hN.putObj _ hndU (by omega) hlU rfl⟩⟩
    | ret =>
      obtain ⟨hkU, hjU⟩ := hp
      obtain ⟨hr, hlU, hl4, hd4⟩ := fin (some .ret) U hkU
      exact ⟨_, _, hr, .inr ⟨rfl, .ret, (hJx _).putObj _ hjU (by omega) hlU rfl, hl4, hd4⟩⟩
    | exit id =>
      obtain ⟨hkU, hjU⟩ := hp
      obtain ⟨hr, hlU, hl4, hd4⟩ := fin (some (.exit id)) U hkU
      exact ⟨_, _, hr, .inr ⟨rfl, .exit id, (hJx _).putObj _ hjU (by omega) hlU rfl, hl4, hd4⟩⟩
    | goto t =>
      obtain ⟨hkU, hjU⟩ := hp
      obtain ⟨hr, hlU, hl4, hd4⟩ := fin (some (.goto t)) U hkU
      exact ⟨_, _, hr, .inr ⟨rfl, .goto t, (hJx _).putObj _ hjU (by omega) hlU rfl, hl4, hd4⟩⟩
    | panic ch => exact hp.elim
    | outgrown => exact hp.elim
  · -- the iterator has returned
    rintro e W2 ⟨⟨v, rfl⟩, (⟨hj, hl, hd⟩ | ⟨k, hkN, c, hj, hl, hd⟩)⟩
    · exact ⟨none, _, by have := run_endLoop (P := P) hl (by rw [hrcs]; simp); rw [hrcs] at this; exact this, hdone _ _ (Nat.le_refl _) (hJ.putObj _ hj (by omega) hl rfl) ((World.putObj_heap_other (by omega)).trans hd)⟩
    · exact ⟨some c, _, by have := run_endLoop (P := P) hl (by rw [hrcs]; simp); rw [hrcs] at this; exact this, hstop _ c k _ (Nat.le_refl _) hkN ((hJx c).putObj _ hj (by omega) hl rfl) ((World.putObj_heap_other (by omega)).trans hd)⟩

/-- X speaks of the blocks below B alone, but for lb -/
def LocalX (B lb : Nat) (X : World → Prop) : Prop := ∀ A C : World, X A → C.os = A.os → C.tape = A.tape → C.output = A.output → A.heap.size ≤ C.heap.size → (∀ k, k < B → k ≠ lb → k < A.heap.size → C.heap[k]? = A.heap[k]?) → X C
theorem LocalX.loc {B lb : Nat} {X : World → Prop} (h : LocalX B lb X) : LocalP B X := fun A C hs hg => h A C hs hg.os hg.tape hg.output hg.size (fun k hk _ hl => hg.block k hk hl)
theorem LocalX.turns {B lb : Nat} {X : World → Prop} (h : LocalX B lb X) {A C : World} (hs : X A) (ht : Turns (fun r => r = lb) A C) : X C := by
  obtain ⟨row, hg, hr⟩ := ht
  exact h A C hs hg.os hg.tape hg.output hg.size (fun k hk hne hl => hg.block k hl (fun e => hne (hr k e.symm)))
/-- **A range over a function in a plain walk.** -/
theorem wp_rangeK {g : Operand} {ps : Array Tmp} {asg bdy : Code} {Q : Exit → Act → World → Prop} {a : Act} {w : World} {gf : Nat} {lb : Array Value} (own : Nat)
    (hg : a.eval g = .func (.func gf) #[] lb) (eg : ∀ args w, (callFunc gf args).run P w = .ok (.enter gf args) w)
    {encs : Nat → Array Value} {N : Nat} {Need : Nat → World → Prop} (hit : IterK Fence.wide 4 P gf lb encs N (fun r => r = own) Need) (hps : ∀ k, (encs k).size = ps.size) (hown : own < w.heap.size)
    (J : Nat → World → Prop) (Jx : Code → Nat → World → Prop)
    (hJ : ∀ k, LocalX w.heap.size own (J k)) (hJx : ∀ c k, LocalX w.heap.size own (Jx c k)) (hN : ∀ k, LocalP w.heap.size (Need k)) (h0 : J 0 w) (hn0 : Need 0 w) (A1 : Nat → Act)
    (assign : ∀ (l k : Nat) (W : World) (K : Act → World → Prop), k < N → K (A1 k) W →
      asg.wpIn (Fence.wide.inRound l) 3 P (Exit.then K (fun _ _ _ => False)) { tmps := (ps.zip (encs k)).foldl (fun t (p, v) => t.setIfInBounds p v) a.tmps, defers := [] } W)
    (body : ∀ (l k : Nat) (W : World), k < N → J k W → Need k W → bdy.wpIn (Fence.wide.inRound l) 3 P (roundK w.heap.size J Jx Need k W) (A1 k) W)
    (done : ∀ (D : Nat) (W : World), w.heap.size ≤ D → J N W → W.heap[D]? = some (.deferred (some [])) → Q .normal { a with defers := { target := .collected D, args := #[] } :: a.defers } W)
    (stop : ∀ (D : Nat) (c : Code) (k : Nat) (W : World), w.heap.size ≤ D → k < N → Jx c k W → W.heap[D]? = some (.deferred (some [])) → c.wp P Q { a with defers := { target := .collected D, args := #[] } :: a.defers } W) :
    (Code.rangeFunc g ps asg bdy).wp P Q a w := by
  refine (wpIn_wide (n := 5)).1 ?_
  exact wpIn_rangeK rfl (by decide) hg trivial eg hit (fun r h => by rw [h]; exact hown) hps J Jx (fun k a' _ => a' = A1 k)
    (LocalP.own fun k => (hJ k).loc) (fun c => LocalP.own fun k => (hJx c k).loc) (LocalP.own hN) (fun a' => LocalP.own (fun k => LocalP.pure _ _))
    (fun k A C hs ht => (hJ k).turns hs ht) (fun c k A C hs ht => (hJx c k).turns hs ht) h0 hn0
    (fun l k W K hk hj hn hK => assign l k W K hk (hK _ _ (KeepsFrom.refl _ _) hj hn rfl))
    (fun l k a' W hk hj hn ha => by subst ha; exact body l k W hk hj hn)
    done (fun D c k W h1 h2 h3 h4 => wpIn_wide.2 (stop D c k W h1 h2 h3 h4))
theorem LocalX.and {B lb : Nat} {X Y : World → Prop} (h : LocalX B lb X) (k : LocalX B lb Y) : LocalX B lb (fun W => X W ∧ Y W) := fun A C hs e1 e2 e3 e4 e5 => ⟨h A C hs.1 e1 e2 e3 e4 e5, k A C hs.2 e1 e2 e3 e4 e5⟩
theorem LocalX.pure (B lb : Nat) (p : Prop) : LocalX B lb (fun _ => p) := fun _ _ h _ _ _ _ _ => h
theorem LocalX.heap {B lb b : Nat} (o : Obj) (hb : b < B) (hl : b ≠ lb) : LocalX B lb (fun W => W.heap[b]? = some o) := fun A C hs _ _ _ _ e5 => (e5 b hb hl (Array.getElem?_eq_some_iff.1 hs).1).trans hs
theorem LocalX.cell {B lb : Nat} (p : Addr) (v : Value) (hb : p.block < B) (hl : p.block ≠ lb) : LocalX B lb (fun W => W.cell? p = some v) := fun A C hs _ _ _ _ e5 =>
  (World.cell?_of_block (w := A) (e5 p.block hb hl (World.block_lt_of_cell? A _ hs))).trans hs
theorem LocalX.below {B lb n : Nat} (w : World) (hn : n ≤ B) (hw : n ≤ w.heap.size) (hl : n ≤ lb) : LocalX B lb (fun W => Below n w W) := fun A C hs e1 e2 e3 e4 e5 =>
  ⟨e1.trans hs.os, e2.trans hs.tape, e3.trans hs.output, Nat.le_trans hs.size e4, fun k hk => (e5 k (by omega) (by omega) (by have := hs.size; omega)).trans (hs.block k hk)⟩
theorem LocalX.rrow {B lb : Nat} {a : Option Addr} {m n : Nat} {f : Nat → List Value} (hb : ∀ b off, a = some ⟨b, off, none⟩ → b < B ∧ b ≠ lb) : LocalX B lb (fun W => RRow W a m n f) := fun A C hs e1 e2 e3 e4 e5 => by
  rcases hs with h0 | ⟨b, off, rfl, hs⟩
  · exact .inl h0
  · obtain ⟨h1, h2⟩ := hb b off rfl
    exact .inr ⟨b, off, rfl, fun i hi j v hj => LocalX.cell ⟨b, off + i * m + j, none⟩ v h1 h2 A C (hs i hi j v hj) e1 e2 e3 e4 e5⟩
theorem LocalX.owns {B lb : Nat} {base : Nat} {e : TypeId} {size q n cap : Nat} {xs : List Value} (hb : q < B) (hl : q ≠ lb) : LocalX B lb (fun W => W.ownsRow base e size (.slice (some ⟨q, 0, none⟩) n cap) n xs) := fun A C hs _ _ _ _ e5 => by
  refine ⟨hs.1, ?_⟩
  rcases hs.2 with ⟨hv, _⟩ | ⟨g, cap', cur, hv, hbg, hg, h⟩
  · cases hv
  · cases hv
    exact .inr ⟨q, cap, cur, rfl, hbg, (e5 q hb hl (Array.getElem?_eq_some_iff.1 hg).1).trans hg, h⟩
end Go.Proofs.YtnbmmhoofilmfaaDoor

/- 'copy(dst, src)' of elements of m cells each, dst in a row of one's own. No program in sight. -/
namespace Go.Proofs.YtnbmmhoofilmfaaDoor
open Go.RowKit
set_option linter.unusedVariables false

theorem run_copyM (P : Program) (w : World) (dT sT ty elem : TypeId) (m g o dLen dCap : Nat) (a : Addr) (sLen sCap : Nat) (cur : Array Value) (t : TypeId) (cs : List Value)
    (hu : P.underlying dT = some (.slice elem)) (hs : (P.info? elem).map (·.size) = some m)
    (hg : w.heap[g]? = some (.cells cur t (0, 0))) (hn : cs.length = Nat.min sLen dLen * m)
    (hsrc : ∀ j v, cs[j]? = some v → w.cell? (a.add j) = some v) (hfit : o + cs.length ≤ cur.size) (h1 : ∀ v ∈ cs, v.oneCell' = true) :
    (Builtin.copy_ #[dT, sT] ty #[.slice (some ⟨g, o, none⟩) dLen dCap, .slice (some a) sLen sCap]).run P w =
      .ok (goInt (Nat.min sLen dLen)) (w.setRow g (cur.toList.take o ++ cs ++ cur.toList.drop (o + cs.length)).toArray) := by
  have hl := run_loadCells_list (P := P) w a cs hsrc
  have hst := run_storeCells_at P g o t cs 0 cur w hg (by simpa using hfit) h1
  cases hq : P.info? elem with
  | none => simp [hq] at hs
  | some i =>
    have hi : i.size = m := by simpa [hq] using hs
    simp [Builtin.copy_, run_underlying hu, Builtin.lenOf, Builtin.firstCells, Go.sizeOf, typeInfo, hq, hi, ← hn, hl, hst]
theorem RArr.list {W : World} {g : Nat} {T : TypeId} {m n : Nat} {f : Nat → List Value} (h : RArr W g T m n f) (hf : ∀ i, (f i).length = m) : W.heap[g]? = some (.cells (Cs f n).toArray T (0, 0)) := by
  obtain ⟨cs, h1, h2⟩ := h.blk
  suffices he : cs.toList = Cs f n by rw [h1, ← he]
  apply List.ext_getElem?
  intro p
  by_cases hp : p < n * m
  · have hm : 0 < m := by
      rcases Nat.eq_zero_or_pos m with e | e
      · rw [e, Nat.mul_zero] at hp; omega
      · exact e
    have hq : p / m < n := (Nat.div_lt_iff_lt_mul hm).2 hp
    have hr : p % m < m := Nat.mod_lt _ hm
    have he : p / m * m + p % m = p := by rw [Nat.mul_comm]; exact Nat.div_add_mod p m
    obtain ⟨v, hv⟩ : ∃ v, (f (p / m))[p % m]? = some v := ⟨_, List.getElem?_eq_getElem (by rw [hf]; exact hr)⟩
    have h3 := h.seg (p / m) hq (p % m) v hv
    rw [Nat.zero_add, he] at h3
    have h4 := Cs_get hf hq hr
    rw [he] at h4
    rw [h4, hv, Array.getElem?_toList, Array.getElem?_eq_getElem (by rw [h2]; exact hp)]
    have h5 := cell_of_heap h1 (Array.getElem?_eq_getElem (show p < cs.size by rw [h2]; exact hp))
    rw [h3] at h5
    exact h5.symm
  · rw [List.getElem?_eq_none (by rw [Array.length_toList, h2]; omega), List.getElem?_eq_none (by rw [Cs_length hf]; omega)]
theorem RArr.of_list {W : World} {g : Nat} {T : TypeId} {m n : Nat} {f : Nat → List Value} (h : W.heap[g]? = some (.cells (Cs f n).toArray T (0, 0))) (hf : ∀ i, (f i).length = m) : RArr W g T m n f :=
  ⟨⟨_, h, by simp [Cs_length hf]⟩, fun i hi j v hv => by
    rw [Nat.zero_add]
    refine cell_of_heap h ?_
    have hj : j < m := by have := (List.getElem?_eq_some_iff.1 hv).1; rw [hf] at this; exact this
    rw [List.getElem?_toArray, Cs_get hf hi hj]
    exact hv⟩
theorem Cs_take (f : Nat → List Value) {m : Nat} (hf : ∀ i, (f i).length = m) {n k : Nat} (h : k ≤ n) : (Cs f n).take (k * m) = Cs f k := by
  obtain ⟨d, rfl⟩ : ∃ d, n = k + d := ⟨n - k, by omega⟩
  rw [← Cs_cat, List.take_append_of_le_length (by rw [Cs_length hf]; exact Nat.le_refl _), List.take_of_length_le (by rw [Cs_length hf]; exact Nat.le_refl _)]
theorem Cs_drop (f : Nat → List Value) {m : Nat} (hf : ∀ i, (f i).length = m) {n k : Nat} (h : k ≤ n) : (Cs f n).drop (k * m) = Cs (fun i => f (k + i)) (n - k) := by
  obtain ⟨d, rfl⟩ : ∃ d, n = k + d := ⟨n - k, by omega⟩
  rw [← Cs_cat, show k * m = (Cs f k).length by rw [Cs_length hf], List.drop_append_of_le_length (Nat.le_refl _), List.drop_length, List.nil_append, Nat.add_sub_cancel_left]
/-- f, with n elements of h from k on -/
def laid (f h : Nat → List Value) (k n : Nat) (i : Nat) : List Value := if k ≤ i ∧ i < k + n then h (i - k) else f i
theorem laid_len {f h : Nat → List Value} {m : Nat} (hf : ∀ i, (f i).length = m) (hh : ∀ i, (h i).length = m) (k n i : Nat) : (laid f h k n i).length = m := by unfold laid; split; exact hh _; exact hf _
theorem Cs_laid {f h : Nat → List Value} {m : Nat} (hf : ∀ i, (f i).length = m) (hh : ∀ i, (h i).length = m) {N k n : Nat} (hk : k + n ≤ N) :
    (Cs f N).take (k * m) ++ Cs h n ++ (Cs f N).drop (k * m + n * m) = Cs (laid f h k n) N := by
  rw [← Nat.add_mul, Cs_take f hf (by omega), Cs_drop f hf hk, show N = k + n + (N - (k + n)) by omega, ← Cs_cat (laid f h k n) (k + n), ← Cs_cat (laid f h k n) k]
  congr 1
  · congr 1
    · exact Cs_congr fun i hi => by unfold laid; rw [if_neg (by omega)]
    · exact Cs_congr fun i hi => by unfold laid; rw [if_pos (by omega), Nat.add_sub_cancel_left]
  · rw [show k + n + (N - (k + n)) - (k + n) = N - (k + n) by omega]
    exact Cs_congr fun i hi => by unfold laid; rw [if_neg (by omega)]
/-- **copy, one operation of a walk** -/
theorem wpList_copyM {P : Program} {w : World} {ops : Array Oper} {rest : List Oper} {o : Oper} {a : Act} {Q : Exit → Act → World → Prop} (hgd : o.guard = none) (d s : Operand) (dT sT : TypeId)
    (ho : o.op = .call { callee := .builtin .copy, args := #[d, s], argTypes := #[dT, sT] }) (elem : TypeId) (m : Nat) (hu : P.underlying dT = some (.slice elem)) (hsz : (P.info? elem).map (·.size) = some m)
    (g off dLen dCap : Nat) (ad : Addr) (sLen sCap : Nat) (hd : a.eval d = .slice (some ⟨g, off, none⟩) dLen dCap) (hs : a.eval s = .slice (some ad) sLen sCap)
    (N k n : Nat) (f h : Nat → List Value) (hR : RArr w g elem m N f) (hf : ∀ i, (f i).length = m) (hh : ∀ i, (h i).length = m) (h1 : ∀ i, ∀ v ∈ h i, v.oneCell' = true) (hn : n = Nat.min sLen dLen) (hS : RRow w (some ad) m n h) (hm : 0 < m)
    (hoff : 0 < n → off = k * m) (hk : k + n ≤ N) (hoff0 : off ≤ N * m)
    (H : ∀ w', RArr w' g elem m N (laid f h k n) → Only g w w' → wpList P ops Q rest (a.put o.dst (goInt n)) w') : wpList P ops Q (o :: rest) a w := by
  refine wpList_plain hgd fun K hK => ?_
  have hl := hR.list hf
  have hsrc : ∀ j v, (Cs h n)[j]? = some v → w.cell? (ad.add j) = some v := fun j v hj => by
    rcases hS with h0 | ⟨b, o', hbo, hsg⟩
    · subst h0; simp [Cs] at hj
    · injection hbo with hbo
      subst hbo
      have hlt : j < n * m := by have := (List.getElem?_eq_some_iff.1 hj).1; rwa [Cs_length hh] at this
      have hq : j / m < n := (Nat.div_lt_iff_lt_mul hm).2 hlt
      have hr : j % m < m := Nat.mod_lt _ hm
      have he : j / m * m + j % m = j := by rw [Nat.mul_comm]; exact Nat.div_add_mod j m
      have h4 := Cs_get hh hq hr
      rw [he, hj] at h4
      have h3 := hsg (j / m) hq (j % m) v h4.symm
      rw [Nat.add_assoc, he] at h3
      have : (⟨b, o', none⟩ : Addr).add j = ⟨b, o' + j, none⟩ := by unfold Addr.add; split <;> simp_all
      rw [this]; exact h3
  have hfit : off + (Cs h n).length ≤ (Cs f N).toArray.size := by
    rw [Cs_length hh, List.size_toArray, Cs_length hf]
    rcases Nat.eq_zero_or_pos n with e | e
    · subst e; omega
    · rw [hoff e, ← Nat.add_mul]; exact Nat.mul_le_mul_right m hk
  have hrun := run_copyM P w dT sT o.type elem m g off dLen dCap ad sLen sCap _ elem (Cs h n) hu hsz hl (by rw [Cs_length hh, hn]) hsrc hfit (Cs_one h1 n)
  unfold Oper.wp
  simp only [execOp, ho]
  simp [resolve, invoke, builtin, hd, hs, hrun, Result.andThen]
  refine hK _ _ ?_
  rw [← hn]
  have hcs : ((Cs f N).take off ++ Cs h n ++ (Cs f N).drop (off + (Cs h n).length)) = Cs (laid f h k n) N := by
    rw [Cs_length hh]
    rcases Nat.eq_zero_or_pos n with e | e
    · subst e
      simp only [Cs, Nat.zero_mul, Nat.add_zero, List.append_nil, List.take_append_drop]
      exact Cs_congr fun i hi => by unfold laid; rw [if_neg (by omega)]
    · rw [hoff e]; exact Cs_laid hf hh hk
  have hw := H (w.setRow g (Cs (laid f h k n) N).toArray) (RArr.of_list (setRow_heap w g _ _ elem _ hl) (laid_len hf hh k n)) (only_setRow w g _ hl (by rw [List.size_toArray, List.size_toArray, Cs_length hf, Cs_length (laid_len hf hh k n)]))
  rw [← List.append_assoc, hcs]
  exact hw
end Go.Proofs.YtnbmmhoofilmfaaDoor
