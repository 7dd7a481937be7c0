/- What pack.parse tells, plainly; its memory. -/
import Derived.Test.YthkalmdpbhjafaaDoorPk8
import Derived.Test.YthkalmdpbhjafaaDoorPk7
import Derived.Test.YthkalmdpbhjafaaDoorJb9
import Derived.Test.YthkalmdpbhjafaaDoorR9l
namespace Go.Proofs.YthkalmdpbhjafaaDoor
open Go.RowKit
set_option linter.unusedVariables false

/-- k copies more: from block u on, by the tags -/
def addC (t : Tr) (L : Nat → Nat → Int) (u k : Nat) (tb : Nat → Int) (te : Nat → Bool) : Tr :=
  ⟨t.s, t.n + k, fun i => if i < t.n then t.cb i else if i < t.n + k then tb (i - t.n) else 0,
    fun i => if i < t.n then t.cd i else if i < t.n + k then (if te (i - t.n) = true then unescZ (L (u + (i - t.n))) else L (u + (i - t.n))) else (fun _ => 0), t.m, t.rv⟩
/-- k revoked blocks more -/
def addR (t : Tr) (k : Nat) (m : Nat → Int) : Tr := ⟨t.s, t.n, t.cb, t.cd, t.m + k, fun i => if i < t.m then t.rv i else if i < t.m + k then m (i - t.m) else 0⟩
def tr0 (s : Int) : Tr := ⟨s, 0, fun _ => 0, fun _ _ => 0, 0, fun _ => 0⟩
/-- blocks read up to the first commit block -/
def prs (L : Nat → Nat → Int) (N : Nat) (s : Int) : Nat → Nat → Tr → Option (Tr × Nat)
  | 0, _, _ => none
  | f + 1, u, t =>
    if u < N then
      if seqOf (L u) = s then
        if kindOf (L u) = 1 then
          if descRd (L u) = true ∧ rowsN (L u) ≤ N - (u + 1) then prs L N s f (u + 1 + rowsN (L u)) (addC t L (u + 1) (rowsN (L u)) (descT (L u)) (descE (L u))) else none
        else if kindOf (L u) = 3 then
          if revRd (L u) = true then prs L N s f (u + 1) (addR t (rowsN (L u)) (revM (L u))) else none
        else if kindOf (L u) = 2 then some (t, u + 1) else none
      else none
    else none
theorem prs_fuel (L : Nat → Nat → Int) (N : Nat) (s : Int) : ∀ (f g u : Nat) (t : Tr), N - u ≤ f → N - u ≤ g → prs L N s f u t = prs L N s g u t
  | 0, 0, _, _, _, _ => rfl
  | 0, g + 1, u, t, h, _ => by unfold prs; rw [if_neg (by omega)]
  | f + 1, 0, u, t, _, h => by unfold prs; rw [if_neg (by omega)]
  | f + 1, g + 1, u, t, h1, h2 => by
    rw [prs, prs]
    by_cases hu : u < N
    · rw [if_pos hu, if_pos hu, prs_fuel L N s f g (u + 1 + rowsN (L u)) _ (by omega) (by omega), prs_fuel L N s f g (u + 1) _ (by omega) (by omega)]
    · rw [if_neg hu, if_neg hu]
/-- one step -/
theorem prs_step (L : Nat → Nat → Int) (N : Nat) (s : Int) (u : Nat) (t : Tr) (hu : u < N) : prs L N s (N - u) u t =
    if seqOf (L u) = s then
      if kindOf (L u) = 1 then
        if descRd (L u) = true ∧ rowsN (L u) ≤ N - (u + 1) then prs L N s (N - (u + 1 + rowsN (L u))) (u + 1 + rowsN (L u)) (addC t L (u + 1) (rowsN (L u)) (descT (L u)) (descE (L u))) else none
      else if kindOf (L u) = 3 then
        if revRd (L u) = true then prs L N s (N - (u + 1)) (u + 1) (addR t (rowsN (L u)) (revM (L u))) else none
      else if kindOf (L u) = 2 then some (t, u + 1) else none
    else none := by
  obtain ⟨f, hf⟩ : ∃ f, N - u = f + 1 := ⟨N - u - 1, by omega⟩
  rw [hf, prs, if_pos hu, prs_fuel L N s f (N - (u + 1 + rowsN (L u))) _ _ (by omega) (by omega), prs_fuel L N s f (N - (u + 1)) _ _ (by omega) (by omega)]
theorem prs_end (L : Nat → Nat → Int) (N : Nat) (s : Int) (u : Nat) (t : Tr) (hu : ¬ u < N) : prs L N s (N - u) u t = none := by
  rw [show N - u = 0 by omega]; rfl
theorem addC_zero_n (t : Tr) (L : Nat → Nat → Int) (u : Nat) (tb : Nat → Int) (te : Nat → Bool) : (addC t L u 0 tb te).n = t.n := rfl
/-- one copy more -/
theorem addC_at (t : Tr) (L : Nat → Nat → Int) (u j : Nat) (tb : Nat → Int) (te : Nat → Bool) :
    (addC t L u (j + 1) tb te).cb (t.n + j) = tb j ∧ (addC t L u (j + 1) tb te).cd (t.n + j) = (if te j then unescZ (L (u + j)) else L (u + j)) := by
  unfold addC
  refine ⟨?_, ?_⟩
  · show (if t.n + j < t.n then _ else if t.n + j < t.n + (j + 1) then tb (t.n + j - t.n) else 0) = _
    rw [if_neg (by omega), if_pos (by omega), Nat.add_sub_cancel_left]
  · show (if t.n + j < t.n then _ else if t.n + j < t.n + (j + 1) then _ else _) = _
    rw [if_neg (by omega), if_pos (by omega), Nat.add_sub_cancel_left]
theorem addC_low (t : Tr) (L : Nat → Nat → Int) (u j : Nat) (tb : Nat → Int) (te : Nat → Bool) {i : Nat} (hi : i < t.n + j) :
    (addC t L u (j + 1) tb te).cb i = (addC t L u j tb te).cb i ∧ (addC t L u (j + 1) tb te).cd i = (addC t L u j tb te).cd i := by
  unfold addC
  refine ⟨?_, ?_⟩
  · show (if i < t.n then _ else if i < t.n + (j + 1) then _ else 0) = (if i < t.n then _ else if i < t.n + j then _ else 0)
    by_cases h : i < t.n
    · rw [if_pos h, if_pos h]
    · rw [if_neg h, if_neg h, if_pos (by omega), if_pos hi]
  · show (if i < t.n then _ else if i < t.n + (j + 1) then _ else _) = (if i < t.n then _ else if i < t.n + j then _ else _)
    by_cases h : i < t.n
    · rw [if_pos h, if_pos h]
    · rw [if_neg h, if_neg h, if_pos (by omega), if_pos hi]
theorem addR_at (t : Tr) (j : Nat) (m : Nat → Int) : (addR t (j + 1) m).rv (t.m + j) = m j := by
  show (if t.m + j < t.m then _ else if t.m + j < t.m + (j + 1) then m (t.m + j - t.m) else 0) = _
  rw [if_neg (by omega), if_pos (by omega), Nat.add_sub_cancel_left]
theorem addR_low (t : Tr) (j : Nat) (m : Nat → Int) {i : Nat} (hi : i < t.m + j) : (addR t (j + 1) m).rv i = (addR t j m).rv i := by
  show (if i < t.m then _ else if i < t.m + (j + 1) then _ else 0) = (if i < t.m then _ else if i < t.m + j then _ else 0)
  by_cases h : i < t.m
  · rw [if_pos h, if_pos h]
  · rw [if_neg h, if_neg h, if_pos (by omega), if_pos hi]

/-- what the parser keeps in memory: the transaction's box and rows, the blocks -/
structure PrS (w : World) (la : Option Addr) (N : Nat) (L : Nat → Nat → Int) (n m : Nat) (s : Int) (cb : Nat → Int) (cd : Nat → Nat → Int) (rv : Nat → Int) (ca : Option Addr) (cc : Nat) (ra : Option Addr) (rc : Nat) (W : World) : Prop where
  b : At W w.heap.size 28 (tcells s ca n cc ra m rc)
  c : RMine W (w.heap.size + 1) 61 257 (.slice ca n cc) n (cpF cb cd)
  r : RMine W (w.heap.size + 1) 3 1 (.slice ra m rc) m (inF rv)
  l : RRow W la 256 N (bkF L)
  bel : Below w.heap.size w W
section
variable {w : World} {la : Option Addr} {N : Nat} {L : Nat → Nat → Int} {n m : Nat} {s : Int} {cb : Nat → Int} {cd : Nat → Nat → Int} {rv : Nat → Int} {ca : Option Addr} {cc : Nat} {ra : Option Addr} {rc : Nat} {W W' : World}
theorem PrS.below (h : PrS w la N L n m s cb cd rv ca cc ra rc W) (hb : Below W.heap.size W W') : PrS w la N L n m s cb cd rv ca cc ra rc W' :=
  ⟨h.b.below hb h.b.lt, h.c.below hb, h.r.below hb, h.l.below (by intro e; have := bkF_len L 0; rw [e] at this; cases this) hb, h.bel.trans (hb.mono h.bel.size)⟩
/-- a new block is turned -/
theorem PrS.fresh (h : PrS w la N L n m s cb cd rv ca cc ra rc W) {W0 : World} {p : Nat} (hb : Below W0.heap.size W0 W) (h0 : PrS w la N L n m s cb cd rv ca cc ra rc W0) (ho : Only p W W') (hp : W0.heap.size ≤ p) : PrS w la N L n m s cb cd rv ca cc ra rc W' :=
  h0.below (hb.trans (ho.below hp))
end
theorem own_ne {W : World} {base base' k k' size size' g : Nat} {e e' : TypeId} {v v' : Value} {xs xs' : List Value} (h : W.ownsRow base e size v k xs) (h' : W.ownsRow base' e' size' v' k' xs') (he : e ≠ e') (hg : v.ownBlock = some g) : v'.ownBlock ≠ some g := by
  intro hg'
  rcases h.2 with ⟨rfl, _⟩ | ⟨q, cap, cur, rfl, _, hh, _⟩
  · cases hg
  rcases h'.2 with ⟨rfl, _⟩ | ⟨q', cap', cur', rfl, _, hh', _⟩
  · cases hg'
  simp [Value.ownBlock] at hg hg'
  subst hg hg'
  rw [hh] at hh'
  injection hh' with hh'
  injection hh' with _ h2 _
  exact he h2
theorem AtGrown {W W1 : World} {g : Nat} {T : TypeId} {cs : Array Value} {row : Option Nat} (h : At W g T cs) (hg : W.grownBy W1 row) (hne : row ≠ some g) : At W1 g T cs := (hg.block _ h.lt (fun e => hne e.symm)).trans h
theorem RRowGrown {W W1 : World} {a : Option Addr} {m n : Nat} {f : Nat → List Value} {row : Option Nat} (hr : RRow W a m n f) (hg : W.grownBy W1 row) (hb : ∀ b off, a = some ⟨b, off, none⟩ → b < W.heap.size ∧ row ≠ some b) : RRow W1 a m n f := by
  rcases hr with hr | ⟨b, off, rfl, hr⟩
  · exact .inl hr
  · obtain ⟨h1, h2⟩ := hb b off rfl
    exact .inr ⟨b, off, rfl, fun i hi j v hj => (World.cell?_of_block (w := W) (hg.block b h1 (fun e => h2 e.symm))).trans (hr i hi j v hj)⟩
theorem At.setF {W : World} {g : Nat} {T : TypeId} {cs : Array Value} (h : At W g T cs) (i : Nat) (v : Value) : At (W.setCell ⟨g, i, none⟩ v) g T (cs.setIfInBounds i v) := by
  obtain ⟨hlt, hk⟩ := Array.getElem?_eq_some_iff.1 h
  show (W.heap.modify g _)[g]? = _
  rw [Array.getElem?_eq_getElem (by rw [Array.size_modify]; exact hlt), Array.getElem_modify_self, hk]
  rfl
/-- a copy is appended and the box says so -/
theorem PrS.addc {w : World} {la : Option Addr} {N : Nat} {L : Nat → Nat → Int} {n m : Nat} {s : Int} {cb cb' : Nat → Int} {cd cd' : Nat → Nat → Int} {rv : Nat → Int} {ca ca' : Option Addr} {cc cc' : Nat} {ra : Option Addr} {rc : Nat} {W W1 : World}
    (h : PrS w la N L n m s cb cd rv ca cc ra rc W) (hla : ∀ b off, la = some ⟨b, off, none⟩ → b < w.heap.size) (hg : W.grownBy W1 (Value.slice ca n cc).ownBlock) {x : Int} {z : Nat → Int}
    (ho : W1.ownsRow (w.heap.size + 1) 61 257 (.slice ca' (n + 1) cc') (n + 1) (Cs (cpF cb cd) n ++ cpc x z)) (e1 : ∀ i, i < n → cb' i = cb i ∧ cd' i = cd i) (e2 : cb' n = x ∧ cd' n = z) :
    PrS w la N L (n + 1) m s cb' cd' rv ca' cc' ra rc (W1.setCell ⟨w.heap.size, 1, none⟩ (.slice ca' (n + 1) cc')) := by
  have hq : ∀ q, (Value.slice ca n cc).ownBlock = some q → w.heap.size + 1 ≤ q := fun q hq => (World.ownsRow.lt h.c q hq).1
  have hs := Only.setCell W1 ⟨w.heap.size, 1, none⟩ (.slice ca' (n + 1) cc')
  have hc : RMine W1 (w.heap.size + 1) 61 257 (.slice ca' (n + 1) cc') (n + 1) (cpF cb' cd') := by
    unfold RMine
    rw [Cs_succ, Cs_congr (f := cpF cb' cd') (g := cpF cb cd) (n := n) (fun i hi => by unfold cpF; rw [(e1 i hi).1, (e1 i hi).2])]
    rw [show cpF cb' cd' n = cpc x z by unfold cpF; rw [e2.1, e2.2]]
    exact ho
  have hr : RMine W1 (w.heap.size + 1) 3 1 (.slice ra m rc) m (inF rv) := World.ownsRow.kept h.r hg (by
    cases e : (Value.slice ra m rc).ownBlock with
    | none => exact .inl rfl
    | some g => exact .inr (fun e2 => own_ne h.c h.r (by decide) e2.symm e))
  refine ⟨?_, own_only hc hs (fun e => ?_), own_only hr hs (fun e => ?_), ?_, ?_⟩
  · exact (AtGrown h.b hg (fun e => by have := hq _ e; omega)).setF 1 _
  · have := (World.ownsRow.lt hc _ e).1; change w.heap.size + 1 ≤ w.heap.size at this; omega
  · have := (World.ownsRow.lt hr _ e).1; change w.heap.size + 1 ≤ w.heap.size at this; omega
  · refine (RRowGrown h.l hg (fun b off e => ⟨by have := hla b off e; have := h.bel.size; omega, fun e2 => by have := hq _ e2; have := hla b off e; omega⟩)).only hs (fun b off e => by have := hla b off e; show b ≠ w.heap.size; omega)
  · exact (h.bel.grown hg h.bel.size (fun q e => by have := hq q e; omega)).trans (hs.below (Nat.le_refl _))
/-- a revoked block is appended and the box says so -/
theorem PrS.addr {w : World} {la : Option Addr} {N : Nat} {L : Nat → Nat → Int} {n m : Nat} {s : Int} {cb : Nat → Int} {cd : Nat → Nat → Int} {rv rv' : Nat → Int} {ca : Option Addr} {cc : Nat} {ra ra' : Option Addr} {rc rc' : Nat} {W W1 : World}
    (h : PrS w la N L n m s cb cd rv ca cc ra rc W) (hla : ∀ b off, la = some ⟨b, off, none⟩ → b < w.heap.size) (hg : W.grownBy W1 (Value.slice ra m rc).ownBlock) {x : Int}
    (ho : W1.ownsRow (w.heap.size + 1) 3 1 (.slice ra' (m + 1) rc') (m + 1) (Cs (inF rv) m ++ [.int .i64 x])) (e1 : ∀ i, i < m → rv' i = rv i) (e2 : rv' m = x) :
    PrS w la N L n (m + 1) s cb cd rv' ca cc ra' rc' (W1.setCell ⟨w.heap.size, 2, none⟩ (.slice ra' (m + 1) rc')) := by
  have hq : ∀ q, (Value.slice ra m rc).ownBlock = some q → w.heap.size + 1 ≤ q := fun q hq => (World.ownsRow.lt h.r q hq).1
  have hs := Only.setCell W1 ⟨w.heap.size, 2, none⟩ (.slice ra' (m + 1) rc')
  have hr : RMine W1 (w.heap.size + 1) 3 1 (.slice ra' (m + 1) rc') (m + 1) (inF rv') := by
    unfold RMine
    rw [Cs_succ, Cs_congr (f := inF rv') (g := inF rv) (n := m) (fun i hi => by unfold inF; rw [e1 i hi])]
    rw [show inF rv' m = [.int .i64 x] by unfold inF; rw [e2]]
    exact ho
  have hc : RMine W1 (w.heap.size + 1) 61 257 (.slice ca n cc) n (cpF cb cd) := World.ownsRow.kept h.c hg (by
    cases e : (Value.slice ca n cc).ownBlock with
    | none => exact .inl rfl
    | some g => exact .inr (fun e2 => own_ne h.r h.c (by decide) e2.symm e))
  refine ⟨?_, own_only hc hs (fun e => ?_), own_only hr hs (fun e => ?_), ?_, ?_⟩
  · exact (AtGrown h.b hg (fun e => by have := hq _ e; omega)).setF 2 _
  · have := (World.ownsRow.lt hc _ e).1; change w.heap.size + 1 ≤ w.heap.size at this; omega
  · have := (World.ownsRow.lt hr _ e).1; change w.heap.size + 1 ≤ w.heap.size at this; omega
  · refine (RRowGrown h.l hg (fun b off e => ⟨by have := hla b off e; have := h.bel.size; omega, fun e2 => by have := hq _ e2; have := hla b off e; omega⟩)).only hs (fun b off e => by have := hla b off e; show b ≠ w.heap.size; omega)
  · exact (h.bel.grown hg h.bel.size (fun q e => by have := hq q e; omega)).trans (hs.below (Nat.le_refl _))
theorem zero_trans (W : World) : (zeroValue 28).run Tryd.prog W = .ok (.agg (tcells 0 none 0 0 none 0 0)) W := by kernel_rfl
theorem info_trans (s : Int) (ca : Option Addr) (n cc : Nat) (ra : Option Addr) (m rc : Nat) : (Tryd.prog.info? 28).map (·.size) = some (tcells s ca n cc ra m rc).size := by kernel_rfl
theorem build_copy (b : Int) (z : Nat → Int) (w : World) : (Instr.build 61 #[(0, .int .i64 b), (1, bval z)]).run Tryd.prog w = .ok (.agg (cpc b z).toArray) w := by kernel_rfl
theorem run_copy1 (b : Int) (z : Nat → Int) (W : World) : (Instr.buildSlice 26 1 #[(0, .agg (cpc b z).toArray)]).run Tryd.prog W = .ok (.slice (some ⟨W.heap.size, 0, none⟩) 1 1) (W.alloc (.cells (cpc b z).toArray 61)) := by kernel_rfl
theorem run_int1 (b : Int) (W : World) : (Instr.buildSlice 24 1 #[(0, .int .i64 b)]).run Tryd.prog W = .ok (.slice (some ⟨W.heap.size, 0, none⟩) 1 1) (W.alloc (.cells #[.int .i64 b] 3)) := by kernel_rfl
theorem info_copy3 : (Tryd.prog.info? 61).map (fun i => (i.zero, i.size, i.bytes)) = some (some (.agg (cpc 0 fun _ => 0).toArray), 257, 264) := by kernel_rfl
theorem info_int3 : (Tryd.prog.info? 3).map (fun i => (i.zero, i.size, i.bytes)) = some (some (.int .i64 0), 1, 8) := by kernel_rfl
theorem info_copyP : ∃ i, Tryd.prog.info? 61 = some i ∧ i.zero = some (.agg (cpc 0 fun _ => 0).toArray) ∧ i.size = 257 ∧ i.bytes = 264 := by
  obtain ⟨i, hi, hz⟩ := Option.map_eq_some_iff.1 info_copy3
  simp only [Prod.mk.injEq] at hz
  exact ⟨i, hi, hz.1, hz.2.1, hz.2.2⟩
theorem info_intP : ∃ i, Tryd.prog.info? 3 = some i ∧ i.zero = some (.int .i64 0) ∧ i.size = 1 ∧ i.bytes = 8 := by
  obtain ⟨i, hi, hz⟩ := Option.map_eq_some_iff.1 info_int3
  simp only [Prod.mk.injEq] at hz
  exact ⟨i, hi, hz.1, hz.2.1, hz.2.2⟩
/-- a struct of two parts -/
theorem wpList_build2 {P : Program} {w : World} {ops : Array Oper} {rest : List Oper} {o : Oper} {a : Act} {Q : Exit → Act → World → Prop} (hgd : o.guard = none) (t : TypeId) (i j : Nat) (x y : Operand) (ho : o.op = .build t #[(i, x), (j, y)])
    (u v : Value) (hx : a.eval x = u) (hy : a.eval y = v) (z : Value) (hr : ∀ w, (Instr.build t #[(i, u), (j, v)]).run P w = .ok z w) (h : wpList P ops Q rest (a.put o.dst z) w) : wpList P ops Q (o :: rest) a w :=
  wpList_plain hgd fun _ hK => by
    unfold Oper.wp execOp
    subst hx hy
    simp only [ho, Sem.run_bind, List.map_toArray, List.map_cons, List.map_nil, hr, Result.andThen_ok, Sem.run_pure]
    exact hK _ _ h
theorem Cs_snoc' (f g : Nat → List Value) (n : Nat) (h : ∀ i, i < n → f i = g i) : Cs g n ++ f n = Cs f (n + 1) := by rw [Cs_succ, Cs_congr h]
end Go.Proofs.YthkalmdpbhjafaaDoor
