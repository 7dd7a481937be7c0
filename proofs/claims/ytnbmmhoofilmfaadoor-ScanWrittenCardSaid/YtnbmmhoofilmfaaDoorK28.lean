/- Texts of this claim, merged by a program (a claim may have 60 files): Bar2, MoveB, MoveBar, Pk15. -/
import Derived.Test.YtnbmmhoofilmfaaDoorK05
import Derived.Test.YtnbmmhoofilmfaaDoorK22
import Derived.Laws.Tables
import Derived.Test.YtnbmmhoofilmfaaDoorK27
import Derived.Test.YtnbmmhoofilmfaaDoorK08
/- As XBar, but an operation behind the bar may wait for those ahead of it through others. A drawn region in two phases: the first n operations in whatever order, each quiet in a class of worlds; the others wait for all that stand ahead of them, so they come one behind the other. No program in sight. -/
namespace Go.Proofs.YtnbmmhoofilmfaaDoor
open Go.RowKit
set_option linter.unusedVariables false

/-- from n on each operation waits for all ahead of it; ahead of n the guards stand ahead of n -/
def barB2 (md : Region.Mode) (n : Nat) (ops : Array Oper) : Bool :=
  (List.range ops.size).all fun j => match ops[j]? with
    | none => true
    | some o => if j < n then (match o.guard with | none => true | some (g, _) => decide (g < n)) else (List.range j).all fun i => Mv.reachB md ops ops.size j i

section
variable {P : Program} {md : Region.Mode} {ops : Array Oper}
theorem barB_wait2 {n : Nat} (h : barB2 md n ops = true) {j : Nat} {o : Oper} (hj : ops[j]? = some o) (hn : n ≤ j) {i : Nat} (hi : i < j) : Mv.reachB md ops ops.size j i = true := by
  unfold barB2 at h
  rw [List.all_eq_true] at h
  have h1 := h j (List.mem_range.2 (Array.getElem?_eq_some_iff.1 hj).1)
  simp only [hj, if_neg (show ¬ j < n by omega), List.all_eq_true] at h1
  exact h1 i (List.mem_range.2 hi)
theorem barB_guard2 {n : Nat} (h : barB2 md n ops = true) {j : Nat} {o : Oper} (hj : ops[j]? = some o) (hn : j < n) {g : Nat} {b : Bool} (hg : o.guard = some (g, b)) : g < n := by
  unfold barB2 at h
  rw [List.all_eq_true] at h
  have h1 := h j (List.mem_range.2 (Array.getElem?_eq_some_iff.1 hj).1)
  simp only [hj, if_pos hn, hg, decide_eq_true_eq] at h1
  exact h1

theorem bar_tail2 {n : Nat} (hb : barB2 md n ops = true) (hd : downB md ops = true) {Q : Exit → Act → World → Prop} : ∀ (l : List Oper) (k x : Nat) (listed : Array Bool) (a : Act) (w : World), n ≤ k → (∀ j, l[j]? = ops[k + j]?) → listed.size = ops.size →
    (∀ i, i < k → listed.getD i false = true) → (∀ i, k ≤ i → i < ops.size → listed.getD i true = false) → wpList P ops Q l a w → wpAny P md ops Q (l.length + x) listed a w
  | [], k, x, listed, a, w, hk, hl, hs, h1, h0, h => by
    have hsz : ops.size ≤ k := by have := (hl 0).symm; simp at this; omega
    have hr : Region.ready md ops listed = [] := by
      cases hr : Region.ready md ops listed with
      | nil => rfl
      | cons i r =>
        have hi : i ∈ Region.ready md ops listed := by rw [hr]; simp
        obtain ⟨hu, o, ho, _⟩ := mem_ready.1 hi
        have hlt := (Array.getElem?_eq_some_iff.1 ho).1
        have := h1 i (by omega)
        rw [Array.getD_eq_getD_getElem?, Array.getElem?_eq_getElem (by omega)] at hu this
        simp at hu this
        rw [this] at hu; cases hu
    cases x with
    | zero => exact ⟨hr, h⟩
    | succ x =>
      rw [show ([] : List Oper).length + (x + 1) = x + 1 by simp]
      exact ⟨fun _ => h, fun i hi => by rw [hr] at hi; cases hi⟩
  | o :: l, k, x, listed, a, w, hk, hl, hs, h1, h0, h => by
    have ho : ops[k]? = some o := by simpa using (hl 0).symm
    have hlt := (Array.getElem?_eq_some_iff.1 ho).1
    have hin : k ∈ Region.ready md ops listed := mem_ready.2 ⟨h0 k (Nat.le_refl _) hlt, o, ho, fun e he hbe => h1 _ (downB_spec hd ho he hbe)⟩
    rw [show (o :: l).length + x = (l.length + x) + 1 by simp; omega]
    refine ⟨fun hr => (by rw [hr] at hin; cases hin), fun i hi => ?_⟩
    obtain ⟨hu, oi, hoi, hall⟩ := mem_ready.1 hi
    have hilt := (Array.getElem?_eq_some_iff.1 hoi).1
    have hik : i = k := by
      rcases Nat.lt_trichotomy i k with hh | hh | hh
      · have := h1 i hh
        rw [Array.getD_eq_getD_getElem?, Array.getElem?_eq_getElem (by omega)] at hu this
        simp at hu this
        rw [this] at hu; cases hu
      · exact hh
      · have hcl : Mv.Cl md ops listed := fun j oj hj hlj e he hbe => by
          have hjk : j < k := by
            rcases Nat.lt_or_ge j k with h' | h'
            · exact h'
            · have h2 := h0 j h' (Array.getElem?_eq_some_iff.1 hj).1
              rw [Array.getD_eq_getD_getElem?, Array.getElem?_eq_getElem (by have := (Array.getElem?_eq_some_iff.1 hj).1; omega)] at h2 hlj
              simp at h2 hlj
              rw [h2] at hlj; cases hlj
          have := downB_spec hd hj he hbe
          exact h1 _ (by omega)
        have hx := hcl.reach hall hoi (barB_wait2 hb hoi (by omega) hh)
        have h2 := h0 k (Nat.le_refl _) hlt
        rw [Array.getD_eq_getD_getElem?, Array.getElem?_eq_getElem (by omega)] at hx h2
        simp at hx h2
        rw [hx] at h2; cases h2
    subst hik
    have key : wpOp P ops Q i (wpList P ops Q l) a w := by
      unfold wpOp
      simp only [ho]
      exact h
    refine wpOp_mono (fun a' w' h' => bar_tail2 hb hd l (i + 1) x _ a' w' (by omega) (fun j => by have := hl (j + 1); simpa [Nat.add_assoc, Nat.add_comm 1 j] using this) (by simpa using hs) (fun j hj => ?_) (fun j hj hjs => ?_) h') key
    · by_cases hji : j = i
      · subst hji; simp [Array.getD_eq_getD_getElem?, hs, hlt]
      · rw [Array.getD_eq_getD_getElem?, Array.getElem?_setIfInBounds_ne (Ne.symm hji), ← Array.getD_eq_getD_getElem?]; exact h1 j (by omega)
    · rw [Array.getD_eq_getD_getElem?, Array.getElem?_setIfInBounds_ne (by omega), ← Array.getD_eq_getD_getElem?]; exact h0 j (by omega) hjs

theorem bar_head2 {n : Nat} {ops1 : Array Oper} {l2 : List Oper} {C : World → Prop} (hb : barB2 md n ops = true) (hd : downB md ops = true) (hd1 : downB md ops1 = true) (hn1 : ops1.size = n) (h1 : ∀ i, i < n → ops1[i]? = ops[i]?) (hl : ∀ j, l2[j]? = ops[n + j]?)
    {Q : Exit → Act → World → Prop} {Q1 : Act → Prop} (hQ : ∀ a w, C w → Q1 a → wpList P ops Q l2 a w) : ∀ (fuel : Nat) (listed1 listed : Array Bool) (a : Act) (w : World), C w → Mv.Cl md ops listed → listed1.size = n → listed.size = ops.size →
      (∀ i, i < n → listed1[i]? = listed[i]?) → (∀ i, n ≤ i → i < ops.size → listed.getD i true = false) → wpAnyQ P md ops1 C Q1 fuel listed1 a → wpAny P md ops Q (l2.length + fuel) listed a w := by
  have hnn : n ≤ ops.size := by
    rcases Nat.lt_or_ge ops.size n with h | h
    · have := h1 ops.size h
      rw [Array.getElem?_eq_none (Nat.le_refl _), Array.getElem?_eq_none_iff] at this
      omega
    · exact h
  have done : ∀ (fuel : Nat) (listed1 listed : Array Bool) (a : Act) (w : World), C w → listed1.size = n → listed.size = ops.size → (∀ i, i < n → listed1[i]? = listed[i]?) → (∀ i, n ≤ i → i < ops.size → listed.getD i true = false) →
      Region.ready md ops1 listed1 = [] → Q1 a → wpAny P md ops Q (l2.length + fuel) listed a w := fun fuel listed1 listed a w hw hs1 hs hll h0 hr hq => by
    refine bar_tail2 hb hd l2 n fuel listed a w (Nat.le_refl _) hl hs (fun i hi => ?_) h0 (hQ a w hw hq)
    have := ready_nil hd1 (by omega) hr i (by omega)
    rw [Array.getD_eq_getD_getElem?, hll i hi, ← Array.getD_eq_getD_getElem?] at this
    exact this
  intro fuel
  induction fuel with
  | zero => intro listed1 listed a w hw hcl hs1 hs hll h0 h; exact done 0 listed1 listed a w hw hs1 hs hll h0 h.1 h.2
  | succ fuel ih =>
    intro listed1 listed a w hw hcl hs1 hs hll h0 h
    by_cases hr : Region.ready md ops1 listed1 = []
    · exact done _ listed1 listed a w hw hs1 hs hll h0 hr (h.1 hr)
    · obtain ⟨i0, hi0⟩ := List.exists_mem_of_ne_nil _ hr
      obtain ⟨hu0, o0, ho0, hall0⟩ := mem_ready.1 hi0
      have hi0n : i0 < n := by rw [← hn1]; exact (Array.getElem?_eq_some_iff.1 ho0).1
      have get : ∀ i, i < n → ∀ d, listed1.getD i d = listed.getD i d := fun i hi d => by rw [Array.getD_eq_getD_getElem?, Array.getD_eq_getD_getElem?, hll i hi]
      have up : i0 ∈ Region.ready md ops listed := mem_ready.2 ⟨by rw [← get i0 hi0n]; exact hu0, o0, by rw [← h1 i0 hi0n]; exact ho0, fun e he hbe => by
        have hlt := downB_spec hd1 ho0 he hbe
        rw [← get e.on (by omega)]; exact hall0 e he hbe⟩
      rw [show l2.length + (fuel + 1) = (l2.length + fuel) + 1 by omega]
      refine ⟨fun hrr => (by rw [hrr] at up; cases up), fun i hi => ?_⟩
      obtain ⟨hu, o, ho, hall⟩ := mem_ready.1 hi
      have hin : i < n := by
        rcases Nat.lt_or_ge i n with hh | hh
        · exact hh
        · have hx := hcl.reach hall ho (barB_wait2 hb ho hh (i := i0) (by omega))
          rw [← get i0 hi0n] at hx
          rw [Array.getD_eq_getD_getElem?, Array.getElem?_eq_getElem (by omega)] at hx hu0
          simp at hx hu0
          rw [hx] at hu0; cases hu0
      have ho1 : ops1[i]? = some o := by rw [h1 i hin]; exact ho
      have hi1 : i ∈ Region.ready md ops1 listed1 := mem_ready.2 ⟨by rw [get i hin]; exact hu, o, ho1, fun e he hbe => by
        have hlt := downB_spec hd1 ho1 he hbe
        rw [get e.on (by omega)]; exact hall e he hbe⟩
      have hq := h.2 i hi1
      have hwant : ∀ a : Act, Region.wanted o (yielded ops1 a.tmps) = Region.wanted o (yielded ops a.tmps) := fun a => by
        unfold Region.wanted
        cases hg : o.guard with
        | none => rfl
        | some p =>
          obtain ⟨g, b⟩ := p
          have := barB_guard2 hb ho hin hg
          simp only [yielded, h1 g this]
      have hq' : qOp P ops C i (wpAnyQ P md ops1 C Q1 fuel (listed1.setIfInBounds i true)) a := by
        unfold qOp at hq ⊢
        simp only [ho1] at hq
        simp only [ho]
        rw [← hwant]
        exact hq
      refine wpOp_of_qOp hw (fun a' w' hw' h' => ih (listed1.setIfInBounds i true) (listed.setIfInBounds i true) a' w' hw' (hcl.next hi) (by simpa using hs1) (by simpa using hs) (fun j hj => ?_) (fun j hj hjs => ?_) h') hq'
      · by_cases hji : i = j
        · subst hji; simp [hs1, hs, hj, show i < ops.size by omega]
        · rw [Array.getElem?_setIfInBounds_ne hji, Array.getElem?_setIfInBounds_ne hji]; exact hll j hj
      · rw [Array.getD_eq_getD_getElem?, Array.getElem?_setIfInBounds_ne (by omega), ← Array.getD_eq_getD_getElem?]; exact h0 j hj hjs

/-- **A drawn region in two phases.** -/
theorem wp_region_bar2 (S : World → Prop) (n : Nat) {id : Nat} {Q : Exit → Act → World → Prop} {a : Act} {w : World} {L : List Oper} (hm : P.follows .mixedOrders = true) (hB : Region.lexB .any (L.take n).toArray = true)
    (hb : barB2 .any n L.toArray = true) (hd : downB .any L.toArray = true) (hd1 : downB .any (L.take n).toArray = true) (hn : n ≤ L.length) (hS : S { w with drawn := w.drawn + 1 })
    (h : Nonempty (InW S) → wpQuiet P (L.take n).toArray (fun w' => ∃ s : InW S, w' = s.W) (fun a' => ∀ w', InS S w' → wpList P L.toArray Q (L.drop n) a' w') (L.take n) a) : (Code.region id L.toArray true).wp P Q a w := by
  have hC : ∃ s : InW S, { w with drawn := w.drawn + 1 } = s.W := ⟨⟨_, hS⟩, rfl⟩
  simp only [Region.lexB, Bool.and_eq_true] at hB
  have hq := wpAnyQ_lex (C := fun w' => ∃ s : InW S, w' = s.W) (md := .any) hB.1 (L.take n) 0 (Array.replicate n false) a (by simp) (by have := hB.2; simpa [Nat.min_eq_left hn] using this) (h ⟨⟨_, hS⟩⟩)
  have hlen : (L.take n).length = n := by simp [Nat.min_eq_left hn]
  rw [hlen] at hq
  have := bar_head2 (P := P) (md := .any) (ops := L.toArray) (ops1 := (L.take n).toArray) (l2 := L.drop n) (n := n) (C := fun w' => ∃ s : InW S, w' = s.W) hb hd hd1 (by simp [Nat.min_eq_left hn]) (fun i hi => by simp [hi]) (fun j => by simp)
    (Q := Q) (Q1 := fun a' => ∀ w', InS S w' → wpList P L.toArray Q (L.drop n) a' w') (fun a w hw h => h w hw) n (Array.replicate n false) (Array.replicate L.length false) a { w with drawn := w.drawn + 1 } hC (fun j oj hj hl e he hbe => by
      rcases Nat.lt_or_ge j L.length with h' | h'
      · simp [h'] at hl
      · simp [h'] at hl) (by simp) (by simp)
    (fun i hi => by simp [hi, show i < L.length by omega]) (fun i hi hs => by simp at hs; simp [hs]) hq
  rw [show (L.drop n).length + n = L.length by simp; omega] at this
  refine wp_region_any hm ?_
  simpa using this
end
end Go.Proofs.YtnbmmhoofilmfaaDoor

/- A whole row stored in a drawn region that moves (for XMove, XMove2). No program in sight. -/
namespace Go.Proofs.YtnbmmhoofilmfaaDoor.Mv
open Go.RowKit Go.Proofs.YtnbmmhoofilmfaaDoor
set_option linter.unusedVariables false
section
variable {P : Program} {ops : Array Oper} {σ : Type} {C : σ → World → Prop}
theorem lin_storeRow {Q : σ → Act → Prop} {s : σ} {o : Oper} {rest : List Oper} {a : Act} (hw : Region.wanted o (yielded ops a.tmps) = true) (ty : TypeId) (x y : Operand) (ho : o.op = .store ty x y)
    (g : Nat) (cells : Array Value) (t : TypeId) (hx : a.eval x = .pointer (some ⟨g, 0, none⟩)) (hy : a.eval y = .agg cells) (hi : (P.info? ty).map (·.size) = some cells.size) (h1 : cells.all (·.oneCell') = true) (s' : σ)
    (hc : ∀ w, C s w → (∃ old, w.heap[g]? = some (.cells old t (0, 0)) ∧ old.size = cells.size) ∧ C s' (w.setRow g cells))
    (hk : wpLin P ops C Q rest s' (a.put o.dst undef)) : wpLin P ops C Q (o :: rest) s a :=
  lin_move hw (by unfold mv plainOp; rw [ho]; rfl) fun w hC => by
    obtain ⟨⟨old, hu, hs⟩, hC'⟩ := hc w hC
    unfold execOp
    simp only [ho, hx, hy, Instr.storeAt, Instr.sureAddr, Sem.run_bind, Sem.run_pure, Result.andThen_ok, run_storeVar_row w g t ty old cells hu hi hs h1]
    exact ⟨s', hC', hk⟩
/-- a call whose answer is one of many -/
theorem lin_callE {Q : σ → Act → Prop} {s : σ} {o : Oper} {rest : List Oper} {a : Act} (hw : Region.wanted o (yielded ops a.tmps) = true) (hm : mv o = true) (f : FuncId) (args : Array Value)
    (hrun : ∀ W, (execOp a.eval o).run P W = .ok (.enter f args) W) (hcall : ∀ W, C s W → Calls P f args W fun e w' => ∃ u s', e = .returned u ∧ C s' w' ∧ wpLin P ops C Q rest s' (a.put o.dst u)) : wpLin P ops C Q (o :: rest) s a :=
  lin_move hw hm fun w hC => by
    rw [hrun]
    exact (hcall w hC).mono fun e w' ⟨u, s', h1, h2, h3⟩ => ⟨u, h1, s', h2, h3⟩
end
end Go.Proofs.YtnbmmhoofilmfaaDoor.Mv

/- A drawn region in two phases, of which the first moves the world (as XMove2), the second waits for all ahead of it (as XBar2). No program in sight. -/
namespace Go.Proofs.YtnbmmhoofilmfaaDoor
open Go.RowKit
set_option linter.unusedVariables false
section
variable {P : Program} {md : Region.Mode} {ops : Array Oper}
theorem bar_head3 {σ : Type} {n : Nat} {ops1 : Array Oper} {l2 : List Oper} {C : σ → World → Prop} (hb : barB2 md n ops = true) (hd : downB md ops = true) (hd1 : downB md ops1 = true) (hn1 : ops1.size = n) (h1 : ∀ i, i < n → ops1[i]? = ops[i]?) (hl : ∀ j, l2[j]? = ops[n + j]?)
    {Q : Exit → Act → World → Prop} {Q1 : σ → Act → Prop} (hQ : ∀ s a w, C s w → Q1 s a → wpList P ops Q l2 a w) : ∀ (fuel : Nat) (listed1 listed : Array Bool) (s : σ) (a : Act) (w : World), C s w → Mv.Cl md ops listed → listed1.size = n → listed.size = ops.size →
      (∀ i, i < n → listed1[i]? = listed[i]?) → (∀ i, n ≤ i → i < ops.size → listed.getD i true = false) → Mv.wpAnyL P md ops1 C Q1 fuel listed1 s a → wpAny P md ops Q (l2.length + fuel) listed a w := by
  have hnn : n ≤ ops.size := by
    rcases Nat.lt_or_ge ops.size n with h | h
    · have := h1 ops.size h
      rw [Array.getElem?_eq_none (Nat.le_refl _), Array.getElem?_eq_none_iff] at this
      omega
    · exact h
  have done : ∀ (fuel : Nat) (listed1 listed : Array Bool) (s : σ) (a : Act) (w : World), C s w → listed1.size = n → listed.size = ops.size → (∀ i, i < n → listed1[i]? = listed[i]?) → (∀ i, n ≤ i → i < ops.size → listed.getD i true = false) →
      Region.ready md ops1 listed1 = [] → Q1 s a → wpAny P md ops Q (l2.length + fuel) listed a w := fun fuel listed1 listed s a w hw hs1 hs hll h0 hr hq => by
    refine bar_tail2 hb hd l2 n fuel listed a w (Nat.le_refl _) hl hs (fun i hi => ?_) h0 (hQ s a w hw hq)
    have := ready_nil hd1 (by omega) hr i (by omega)
    rw [Array.getD_eq_getD_getElem?, hll i hi, ← Array.getD_eq_getD_getElem?] at this
    exact this
  intro fuel
  induction fuel with
  | zero => intro listed1 listed s a w hw hcl hs1 hs hll h0 h; exact done 0 listed1 listed s a w hw hs1 hs hll h0 h.1 h.2
  | succ fuel ih =>
    intro listed1 listed s a w hw hcl hs1 hs hll h0 h
    by_cases hr : Region.ready md ops1 listed1 = []
    · exact done _ listed1 listed s a w hw hs1 hs hll h0 hr (h.1 hr)
    · obtain ⟨i0, hi0⟩ := List.exists_mem_of_ne_nil _ hr
      obtain ⟨hu0, o0, ho0, hall0⟩ := mem_ready.1 hi0
      have hi0n : i0 < n := by rw [← hn1]; exact (Array.getElem?_eq_some_iff.1 ho0).1
      have get : ∀ i, i < n → ∀ d, listed1.getD i d = listed.getD i d := fun i hi d => by rw [Array.getD_eq_getD_getElem?, Array.getD_eq_getD_getElem?, hll i hi]
      have up : i0 ∈ Region.ready md ops listed := mem_ready.2 ⟨by rw [← get i0 hi0n]; exact hu0, o0, by rw [← h1 i0 hi0n]; exact ho0, fun e he hbe => by
        have hlt := downB_spec hd1 ho0 he hbe
        rw [← get e.on (by omega)]; exact hall0 e he hbe⟩
      rw [show l2.length + (fuel + 1) = (l2.length + fuel) + 1 by omega]
      refine ⟨fun hrr => (by rw [hrr] at up; cases up), fun i hi => ?_⟩
      obtain ⟨hu, o, ho, hall⟩ := mem_ready.1 hi
      have hin : i < n := by
        rcases Nat.lt_or_ge i n with hh | hh
        · exact hh
        · have hx := hcl.reach hall ho (barB_wait2 hb ho hh (i := i0) (by omega))
          rw [← get i0 hi0n] at hx
          rw [Array.getD_eq_getD_getElem?, Array.getElem?_eq_getElem (by omega)] at hx hu0
          simp at hx hu0
          rw [hx] at hu0; cases hu0
      have ho1 : ops1[i]? = some o := by rw [h1 i hin]; exact ho
      have hi1 : i ∈ Region.ready md ops1 listed1 := mem_ready.2 ⟨by rw [get i hin]; exact hu, o, ho1, fun e he hbe => by
        have hlt := downB_spec hd1 ho1 he hbe
        rw [get e.on (by omega)]; exact hall e he hbe⟩
      have hq := h.2 i hi1
      have hwant : ∀ a : Act, Region.wanted o (yielded ops1 a.tmps) = Region.wanted o (yielded ops a.tmps) := fun a => by
        unfold Region.wanted
        cases hg : o.guard with
        | none => rfl
        | some p =>
          obtain ⟨g, b⟩ := p
          have := barB_guard2 hb ho hin hg
          simp only [yielded, h1 g this]
      have hq' : Mv.linOp P ops C i (Mv.wpAnyL P md ops1 C Q1 fuel (listed1.setIfInBounds i true)) s a := by
        unfold Mv.linOp at hq ⊢
        simp only [ho1] at hq
        simp only [ho]
        unfold Mv.LX at hq ⊢
        rw [← hwant]
        exact hq
      refine Mv.wpOp_of_lin hw (fun s' a' w' hw' h' => ih (listed1.setIfInBounds i true) (listed.setIfInBounds i true) s' a' w' hw' (hcl.next hi) (by simpa using hs1) (by simpa using hs) (fun j hj => ?_) (fun j hj hjs => ?_) h') hq'
      · by_cases hji : i = j
        · subst hji; simp [hs1, hs, hj, show i < ops.size by omega]
        · rw [Array.getElem?_setIfInBounds_ne hji, Array.getElem?_setIfInBounds_ne hji]; exact hll j hj
      · rw [Array.getD_eq_getD_getElem?, Array.getElem?_setIfInBounds_ne (by omega), ← Array.getD_eq_getD_getElem?]; exact h0 j hj hjs

/-- **A drawn region in two phases, the first of which moves the world.** -/
theorem wp_region_mb {σ : Type} (C : σ → World → Prop) (s : σ) (n : Nat) {id : Nat} {Q : Exit → Act → World → Prop} {a : Act} {w : World} {L : List Oper} (hm : P.follows .mixedOrders = true) (hB : Region.lexB .any (L.take n).toArray = true) (hch : Mv.chainC .any (L.take n).toArray = true)
    (hb : barB2 .any n L.toArray = true) (hd : downB .any L.toArray = true) (hd1 : downB .any (L.take n).toArray = true) (hn : n ≤ L.length) (hC : C s { w with drawn := w.drawn + 1 })
    (h : Nonempty (InW fun w => ∃ s, C s w) → Mv.wpLin P (L.take n).toArray C (fun s a' => ∀ w', C s w' → wpList P L.toArray Q (L.drop n) a' w') (L.take n) s a) : (Code.region id L.toArray true).wp P Q a w := by
  simp only [Region.lexB, Bool.and_eq_true] at hB
  have hlen : (L.take n).length = n := by simp [Nat.min_eq_left hn]
  have hq := Mv.wpAnyL_lexC (P := P) (C := C) (md := .any) Mv.calls_some hch (Q := fun s a' => ∀ w', C s w' → wpList P L.toArray Q (L.drop n) a' w') hB.1 (L.take n) 0 (Array.replicate n false) s a ⟨_, hC⟩ (fun j oj hj hl => by
      rcases Nat.lt_or_ge j n with h' | h'
      · simp [h'] at hl
      · simp [h'] at hl) (fun j hj => by omega) (by simp) (by have := hB.2; simpa [Nat.min_eq_left hn] using this) (h ⟨⟨_, s, hC⟩⟩)
  rw [hlen] at hq
  have := bar_head3 (P := P) (md := .any) (ops := L.toArray) (ops1 := (L.take n).toArray) (l2 := L.drop n) (n := n) (C := C) hb hd hd1 (by simp [Nat.min_eq_left hn]) (fun i hi => by simp [hi]) (fun j => by simp)
    (Q := Q) (Q1 := fun s a' => ∀ w', C s w' → wpList P L.toArray Q (L.drop n) a' w') (fun s a w hw h => h w hw) n (Array.replicate n false) (Array.replicate L.length false) s a { w with drawn := w.drawn + 1 } hC (fun j oj hj hl e he hbe => by
      rcases Nat.lt_or_ge j L.length with h' | h'
      · simp [h'] at hl
      · simp [h'] at hl) (by simp) (by simp)
    (fun i hi => by simp [hi, show i < L.length by omega]) (fun i hi hs => by simp at hs; simp [hs]) hq
  rw [show (L.drop n).length + n = L.length by simp; omega] at this
  refine wp_region_any hm ?_
  simpa using this
end
end Go.Proofs.YtnbmmhoofilmfaaDoor

/- quernlaw15.Trans. -/
namespace Go.Proofs.YtnbmmhoofilmfaaDoor
open Go.RowKit
set_option linter.unusedVariables false

theorem row_news15 {W : World} {ad : Addr} {n : Nat} {f : Nat → List Value} {m : Nat} (hm : 0 < m) (hf : ∀ i, (f i).length = m) (hr : RRow W (some ad) m n f) : ∀ (j : Nat) (u : Value), (Cs f n)[j]? = some u → W.cell? (ad.add j) = some u := by
  intro j u hj
  have hjn : j < n * m := by have := (List.getElem?_eq_some_iff.1 hj).1; rwa [Cs_length hf] at this
  have hq : j / m < n := (Nat.div_lt_iff_lt_mul hm).2 hjn
  have hrr : j % m < m := Nat.mod_lt _ hm
  have he : j / m * m + j % m = j := by rw [Nat.mul_comm]; exact Nat.div_add_mod j m
  rcases hr with h0 | ⟨b, off, hee, hseg⟩
  · rw [h0, Nat.zero_mul] at hjn; omega
  · injection hee with hee; subst hee
    have h4 := Cs_get hf hq hrr
    rw [he, hj] at h4
    have h5 := hseg (j / m) hq (j % m) u h4.symm
    rw [Nat.add_assoc, he] at h5
    rw [addr_add]; exact h5
theorem RRowG {W W1 : World} {a : Option Addr} {m n : Nat} {f : Nat → List Value} {row : Option Nat} (hr : RRow W a m n f) (hg : W.grownBy W1 row) (hb : ∀ b off, a = some ⟨b, off, none⟩ → 0 < n → b < W.heap.size ∧ row ≠ some b) : RRow W1 a m n f := by
  by_cases h0 : n = 0
  · exact .inl h0
  · exact RRowGrown hr hg (fun b off e => hb b off e (by omega))
theorem RRowO {W W' : World} {a : Option Addr} {m n p : Nat} {f : Nat → List Value} (h : RRow W a m n f) (ho : Only p W W') (hne : ∀ b off, a = some ⟨b, off, none⟩ → 0 < n → b ≠ p) : RRow W' a m n f := by
  by_cases h0 : n = 0
  · exact .inl h0
  · exact RRow.only h ho (fun b off e => hne b off e (by omega))
def rwF (rb rf : Nat → Int) (rm : Nat → Bool) (i : Nat) : List Value := [.int .i64 (rb i), .int .u8 (rf i), .bool (rm i)]
def rwD (rf : Nat → Int) (rm : Nat → Bool) (i : Nat) : Nat → Int := rowZ (rf i) (rm i)
theorem run_ints0 (W : World) : (Instr.buildSlice 45 0 #[]).run Tryd.prog W = .ok (.slice (some ⟨W.heap.size, 0, none⟩) 0 0) (W.alloc (.cells #[] 3)) := by kernel_rfl
theorem build_trans (s : Int) (c : Option Addr) (m cc : Nat) (w : World) : (Instr.build 51 #[(0, .int .u32 s), (2, .slice c m cc)]).run Tryd.prog w = .ok (.agg (tcells s none 0 0 c m cc)) w := by kernel_rfl
theorem at_own_ne {W : World} {p base k size : Nat} {T e : TypeId} {cs : Array Value} {v : Value} {xs : List Value} (hA : At W p T cs) (h : W.ownsRow base e size v k xs) (he : e ≠ T) : v.ownBlock ≠ some p := by
  intro hp
  rcases h.2 with ⟨rfl, _⟩ | ⟨q, cap, cur, rfl, _, hh, _⟩
  · cases hp
  · injection hp with hp
    subst hp
    have := hA.symm.trans hh
    injection this with this
    injection this with _ h2
    exact he h2.symm
theorem results_t6 {fn : Func} (h : fn.results = #[.cell 6 51]) (tmps : Array Value) (W : World) (g : Nat) {s : Int} {ca : Option Addr} {n cc : Nat} {ra : Option Addr} {m rc : Nat}
    (hp : tmps.getD 6 undef = .pointer (some ⟨g, 0, none⟩)) (hg : At W g 51 (tcells s ca n cc ra m rc)) : (results fn tmps).run Tryd.prog W = .ok (tval s ca n cc ra m rc) W := by
  have hp' : tmps[6]?.getD undef = .pointer (some ⟨g, 0, none⟩) := by simpa using hp
  simp [results, h, hp', asAddr, run_loadVar_row W g 51 51 _ (0, 0) _ hg Tryd.underlying51 rfl (info_trans s ca n cc ra m rc)]
/-- while copies are made -/
structure T15 (w : World) (s : Int) (la : Option Addr) (n : Nat) (rb rf : Nat → Int) (rm : Nat → Bool) (rv : Nat → Int) (p k m : Nat) (ca : Option Addr) (cc : Nat) (ra : Option Addr) (rc : Nat) (st : Mv.St) (W : World) : Prop where
  r : At W w.heap.size 51 (tcells 0 none 0 0 none 0 0)
  t : At W p 51 (tcells s ca k cc ra m rc)
  v : RMine W (w.heap.size + 1) 3 1 (.slice ra m rc) m (inF rv)
  l : RRow W la 3 n (rwF rb rf rm)
  bel : Below w.heap.size w W
  s0 : st.n < 2 → RMine W (w.heap.size + 1) 101 257 (.slice ca k cc) k (cpF rb (rwD rf rm))
  s1 : st.n = 1 → ∀ q, st.v = .slice (some ⟨q, 0, none⟩) 1 1 → ∀ j u, (cpc (rb k) (rowZ (rf k) (rm k)))[j]? = some u → W.cell? ((⟨q, 0, none⟩ : Addr).add j) = some u
  s2 : st.n = 2 → RMine W (w.heap.size + 1) 101 257 st.v (k + 1) (cpF rb (rwD rf rm))
section
variable {w : World} {s : Int} {la : Option Addr} {n : Nat} {rb rf : Nat → Int} {rm : Nat → Bool} {rv : Nat → Int} {p k m : Nat} {ca : Option Addr} {cc : Nat} {ra : Option Addr} {rc : Nat} {W W' : World}
theorem T15.below (h : T15 w s la n rb rf rm rv p k m ca cc ra rc ⟨0, undef⟩ W) (hb : Below W.heap.size W W') : T15 w s la n rb rf rm rv p k m ca cc ra rc ⟨0, undef⟩ W' :=
  ⟨h.r.below hb h.r.lt, h.t.below hb h.t.lt, h.v.below hb, h.l.below (by intro e; cases e) hb, h.bel.trans (hb.mono h.bel.size), fun h' => (h.s0 h').below hb, (fun h' => by cases h'), (fun h' => by cases h')⟩
end

set_option maxRecDepth 100000 in
set_option maxHeartbeats 8000000 in
theorem trans15_big (s : Int) (hs : 0 ≤ s ∧ s < 4294967296) (la : Option Addr) (n lcap : Nat) (rb rf : Nat → Int) (rm : Nat → Bool) (hf : ∀ i, 0 ≤ rf i ∧ rf i < 256) (c : Option Addr) (m cap : Nat) (rv : Nat → Int) (hn : n ≤ 3000) (hm : m ≤ 3000) (hno : c = none → m = 0 ∧ cap = 0) (w : World)
    (hl : RRow w la 3 n (rwF rb rf rm)) (hr : RRow w c 1 m (inF rv)) (hla : ∀ b off, la = some ⟨b, off, none⟩ → 0 < n → b < w.heap.size) :
    Calls Tryd.prog 15 #[.int .u32 s, .slice la n lcap, .slice c m cap] w fun e w' => ∃ ca cc ra rc, e = .returned (tval s ca n cc ra m rc) ∧
      RMine w' (w.heap.size + 1) 101 257 (.slice ca n cc) n (cpF rb (rwD rf rm)) ∧ RMine w' (w.heap.size + 1) 3 1 (.slice ra m rc) m (inF rv) ∧ Below w.heap.size w w' := by
  have halt := zero_trans
  have HLA : Hid (∀ b off, la = some ⟨b, off, none⟩ → 0 < n → b < w.heap.size) := hla
  have hbs := run_ints0
  obtain ⟨i0, hi, hy0, hy1, hy2⟩ := info_intP
  have hown : ((w.alloc (.cells (tcells 0 none 0 0 none 0 0) 51)).alloc (.cells #[] 3)).ownsRow (w.heap.size + 1) 3 1 (.slice (some ⟨w.heap.size + 1, 0, none⟩) 0 0) 0 [] := by
    have := own_nil (w.alloc (.cells (tcells 0 none 0 0 none 0 0) 51)) 3 1 (w.heap.size + 1) (by simp)
    simp only [World.size_alloc] at this
    exact this
  have hnews : ∀ ad, c = some ad → ∀ (j : Nat) (u : Value), (Cs (inF rv) m)[j]? = some u → ((w.alloc (.cells (tcells 0 none 0 0 none 0 0) 51)).alloc (.cells #[] 3)).cell? (ad.add j) = some u := fun ad had => by
    subst had
    exact row_news15 (m := 1) (by omega) (inF_len rv) ((hr.alloc _).alloc _)
  have hm1 : m ≤ maxLen := by unfold maxLen; omega
  have hm2 : m * 8 ≤ 140737488355328 := by omega
  have hm3 : w.heap.size + 1 ≤ ((w.alloc (.cells (tcells 0 none 0 0 none 0 0) 51)).alloc (.cells #[] 3)).heap.size := by simp
  have hcl : (Cs (inF rv) m).length = m * 1 := Cs_length (inF_len rv) m
  have hc1 : ∀ u ∈ Cs (inF rv) m, u.oneCell' = true := Cs_one (fun i v hv => by rw [List.mem_singleton.1 hv]; rfl) m
  have HR0 := Lib.hid ((At.new w 51 (tcells 0 none 0 0 none 0 0)).alloc (.cells #[] 3))
  have HLL := Lib.hid ((hl.alloc (.cells (tcells 0 none 0 0 none 0 0) 51)).alloc (.cells #[] 3))
  have HB0 := Lib.hid (((Below.refl w.heap.size w).alloc (Nat.le_refl _) (.cells (tcells 0 none 0 0 none 0 0) 51)).alloc (by simp) (.cells #[] 3))
  clear hl hr hla
  go_enter Tryd.func15, Tryd.ntmps15
  go_wp2_with (first | (refine wpList_copy rfl (.tmp 10) (.tmp 11) 45 rfl (w.heap.size + 1) 3 i0 (.int .i64 0) 1 8 Tryd.underlying45 hi hy0 hy1 hy2 rfl (by decide) (w.heap.size + 1) rfl hown c m cap (Cs (inF rv) m) rfl hno hcl hnews hc1 hm1 hm2 hm3 ?_))
  intro v1 w1 hown1 hg1
  have hv1 : RMine w1 (w.heap.size + 1) 3 1 v1 m (inF rv) := hown1
  obtain ⟨ra, rc, rfl⟩ := RMine.form hv1
  have hs1 := hg1.size
  simp only [World.size_alloc] at hs1
  have hr1 : At w1 w.heap.size 51 (tcells 0 none 0 0 none 0 0) := AtGrown HR0.out hg1 (fun e => by injection e with e; omega)
  have hl1 : RRow w1 la 3 n (rwF rb rf rm) := RRowG HLL.out hg1 (fun b off e h0 => by have := HLA.out b off e h0; exact ⟨by simp only [World.size_alloc]; omega, fun e => by injection e with e; omega⟩)
  have hb1 : Below w.heap.size w w1 := HB0.out.grown hg1 HB0.out.size (fun k e => by injection e with e; omega)
  obtain ⟨p, hp⟩ : ∃ p, p = w1.heap.size := ⟨_, rfl⟩
  have hpw : w.heap.size < p := by omega
  have HR1 := Lib.hid hr1
  have HL1 := Lib.hid hl1
  have HB1 := Lib.hid hb1
  have HV1 := Lib.hid hv1
  have hP1 := At.new w1 51 (tcells 0 none 0 0 none 0 0)
  have HP := Lib.hid hp
  clear hown hown1 hg1 hnews hm3 hcl hc1 HR0 HLL HB0 hbs hr1 hl1 hb1 hv1 hs1 hp hm1 hm2
  go_wp2_with (first | (refine wpList_build2 rfl 51 0 2 (.tmp 9) (.tmp 12) rfl (.int .u32 s) (.slice ra m rc) rfl rfl _ (build_trans s ra m rc) ?_) | (refine wp_storeAt rfl 51 (.tmp 7) (.tmp 13) rfl w1.heap.size (tcells s none 0 0 ra m rc) _ rfl rfl hP1 (info_trans 0 none 0 0 none 0 0) rfl (by kernel_rfl) ?_))
  intro w2 hP2 ho2
  have st0 : Hid (T15 w s la n rb rf rm rv p 0 m none 0 ra rc ⟨0, undef⟩ w2) := by
    rw [HP.out]
    refine ⟨(HR1.out.alloc _).only ho2 (by have := HP.out; omega), hP2, own_only (RMine.alloc HV1.out _) ho2 (fun e => by have := (World.ownsRow.lt HV1.out _ e).2; omega), RRowO (HL1.out.alloc _) ho2 (fun b off e h0 => by have := HLA.out b off e h0; have := HP.out; omega), (HB1.out.alloc HB1.out.size _).trans (ho2.below (by have := HP.out; omega)), fun _ => RMine.nil _ _ _ _ _, (fun h => by cases h), (fun h => by cases h)⟩
  rw [← HP.out]
  clear hP2 ho2 HR1 HL1 HB1 HV1 hP1 HP
  go_wp2_with fail
  go_loopw [8] (fun u wr => ∃ (k : Nat) (ca : Option Addr) (cc : Nat), u = .int .i64 (k : Int) ∧ k ≤ n ∧ T15 w s la n rb rf rm rv p k m ca cc ra rc ⟨0, undef⟩ wr) (fun u _ => n - (intOf u).toNat)
  case atStart => exact ⟨0, none, 0, rfl, Nat.zero_le _, st0.out⟩
  case round =>
    clear st0
    obtain ⟨k, ca, cc, rfl, hk, st⟩ := hrel
    by_cases hlt : k < n
    · have hlt' : (k : Int) < (n : Int) := by omega
      have k0 : (0 : Int) ≤ (k : Int) := by omega
      obtain ⟨b, off, rfl, -⟩ : ∃ b off, la = some ⟨b, off, none⟩ ∧ RSeg wr b off 3 n (rwF rb rf rm) := by
        rcases st.l with h | h
        · omega
        · exact h
      have hseg : ∀ W, RRow W (some ⟨b, off, none⟩) 3 n (rwF rb rf rm) → W.rangeAt b (off + k * 3) (rwF rb rf rm k) := fun W h => by
        rcases h with h | ⟨b', off', e, h⟩
        · omega
        · injection e with e; injection e with e1 e2; subst e1 e2; exact h.range k hlt
      have HSG := Lib.hid hseg
      clear hseg
      obtain ⟨j0, hj, hz0, hz1, hz2⟩ := info_copyP
      go_wp2_with fail
      refine wp_region_mb (T15 w s (some ⟨b, off, none⟩) n rb rf rm rv p k m ca cc ra rc) ⟨0, undef⟩ 16 (by kernel_rfl) (by kernel_rfl) (by kernel_rfl) (by kernel_rfl) (by kernel_rfl) (by kernel_rfl) (by decide) ⟨st.r, st.t, st.v, st.l, st.bel.drew, fun _ => st.s0 (by decide), (fun h => by cases h), (fun h => by cases h)⟩ ?_
      clear st
      intro hne
      have hc1 : ∀ y : InW (fun W => ∃ t, T15 w s (some ⟨b, off, none⟩) n rb rf rm rv p k m ca cc ra rc t W), y.W.cell? ⟨p, 1, none⟩ = some (.slice ca k cc) := fun y => by obtain ⟨_, h⟩ := y.h; exact h.t.cell (i := 1) rfl
      have hc2 : ∀ y : InW (fun W => ∃ t, T15 w s (some ⟨b, off, none⟩) n rb rf rm rv p k m ca cc ra rc t W), y.W.cell? ⟨b, off + k * 3, none⟩ = some (.int .i64 (rb k)) := fun y => by obtain ⟨_, h⟩ := y.h; exact HSG.out y.W h.l 0 _ rfl
      (refine Mv.lin_take 11 (by kernel_rfl) ?_; simp only [List.take_succ_cons, List.take_zero, List.drop_succ_cons, List.drop_zero])
      first | go_big_quiet_skip | (go_big_quiet_want; go_big_quiet_op; go_big_quiet_on)
      first | go_big_quiet_skip | (go_big_quiet_want; go_big_quiet_op; go_big_quiet_on)
      first | go_big_quiet_skip | (go_big_quiet_want; go_big_quiet_op; go_big_quiet_on)
      first | go_big_quiet_skip | (go_big_quiet_want; go_big_quiet_op; go_big_quiet_on)
      first | go_big_quiet_skip | (go_big_quiet_want; go_big_quiet_op; go_big_quiet_on)
      first | go_big_quiet_skip | (go_big_quiet_want; go_big_quiet_op; go_big_quiet_on)
      first | go_big_quiet_skip | (go_big_quiet_want; go_big_quiet_op; go_big_quiet_on)
      first | go_big_quiet_skip | (go_big_quiet_want; go_big_quiet_op; go_big_quiet_on)
      first | go_big_quiet_skip | (go_big_quiet_want; go_big_quiet_op; go_big_quiet_on)
      first | go_big_quiet_skip | (go_big_quiet_want; go_big_quiet_op; go_big_quiet_on)
      refine q_load rfl 63 (.tmp 29) rfl b (off + k * 3) rfl (rwF rb rf rm k) _ (fun W h => by obtain ⟨_, h⟩ := h; exact HSG.out W h.l) Tryd.underlying63 rfl (by kernel_rfl) ?_
      refine wpQuiet_frame (by simp only [Act.put, List.setIfInBounds_toArray, List.set_cons_succ, List.set_cons_zero]; exact rfl) ?_
      refine wpQuiet_nil ?_
      refine Mv.lin_call rfl rfl 52 #[.agg (rwcells (rb k) (rf k) (rm k))] (bval (rowZ (rf k) (rm k))) ⟨0, undef⟩ (fun W => by kernel_rfl) (fun W hW => ?c0) ?_
      case c0 => exact (block15_any (rb k) (rf k) (hf k) (rm k) W).mono fun e w' h => ⟨h.1, hW.below h.2⟩
      refine Mv.frame (by simp only [Act.put, List.setIfInBounds_toArray, List.set_cons_succ, List.set_cons_zero]; exact rfl) ?_
      (refine Mv.lin_take 1 (by kernel_rfl) ?_; simp only [List.take_succ_cons, List.take_zero, List.drop_succ_cons, List.drop_zero])
      refine q_val rfl (.agg (cpc (rb k) (rowZ (rf k) (rm k))).toArray) (fun W => by kernel_rfl) ?_
      refine wpQuiet_frame (by simp only [Act.put, List.setIfInBounds_toArray, List.set_cons_succ, List.set_cons_zero]; exact rfl) ?_
      refine wpQuiet_nil ?_
      refine Mv.lin_build1 rfl _ _ _ _ rfl fun W hW => ⟨_, _, ⟨1, .slice (some ⟨W.heap.size, 0, none⟩) 1 1⟩, run_copy1 (rb k) (rowZ (rf k) (rm k)) W, ?_, ?_⟩
      · refine ⟨hW.r.alloc _, hW.t.alloc _, hW.v.alloc _, hW.l.alloc _, hW.bel.alloc hW.bel.size _, fun _ => (hW.s0 (by decide)).alloc _, ?_, (fun h => by cases h)⟩
        rintro _ q hq
        injection hq with h1 h2 h3; injection h1 with h1; injection h1 with h1; subst h1
        exact cells_news W (cpc (rb k) (rowZ (rf k) (rm k))) _
      generalize W.heap.size = g0 at *
      clear hW
      refine Mv.frame (by simp only [Act.put, List.setIfInBounds_toArray, List.set_cons_succ, List.set_cons_zero]; exact rfl) ?_
      refine Mv.lin_append rfl _ _ _ rfl fun W hW => ?_
      have hown := hW.s0 (by show (1 : Nat) < 2; decide)
      obtain ⟨v', w', hr, ho, hg, _⟩ := run_append_own (P := Tryd.prog) W (w.heap.size + 1) 49 49 101 j0 (.agg (cpc 0 fun _ => 0).toArray) 257 264 Tryd.underlying49 hj hz0 hz1 hz2 (by simp [Value.cells, Ks]) (by decide) (.slice ca k cc) k (Cs (cpF rb (rwD rf rm)) k) hown ⟨g0, 0, none⟩ 1 1 (cpc (rb k) (rowZ (rf k) (rm k))) (by rw [cpc_len])
        (hW.s1 rfl g0 rfl) (cpF_one (fun _ => rb k) (fun _ => rowZ (rf k) (rm k)) 0) (by unfold maxLen; omega) (by omega) (by have := hW.bel.size; have := hW.r.lt; omega)
      refine ⟨v', w', ⟨2, v'⟩, hr, ?_, ?_⟩
      · have hob : ∀ q, (Value.slice ca k cc).ownBlock = some q → w.heap.size + 1 ≤ q := fun q hq => (World.ownsRow.lt hown q hq).1
        have hvne : (Value.slice ra m rc).ownBlock = none ∨ (Value.slice ra m rc).ownBlock ≠ (Value.slice ca k cc).ownBlock := by
          cases h1 : (Value.slice ra m rc).ownBlock with
          | none => exact .inl rfl
          | some g => exact .inr (fun e => own_ne hW.v hown (by decide) h1 e.symm)
        refine ⟨AtGrown hW.r hg (fun e => by have := hob _ e; omega), AtGrown hW.t hg (at_own_ne hW.t hown (by decide)), World.ownsRow.kept hW.v hg hvne, RRowG hW.l hg (fun b' off' e h0 => ⟨by have := HLA.out b' off' e h0; have := hW.bel.size; omega, fun e2 => by have := hob _ e2; have := HLA.out b' off' e h0; omega⟩), hW.bel.grown hg hW.bel.size (fun q e => by have := hob q e; omega), (fun h => absurd h (by show ¬ (2 : Nat) < 2; decide)), (fun h => by cases h), fun _ => RMine.append ho (by rfl)⟩
      clear hr ho hg hW hown
      refine Mv.frame (by simp only [Act.put, List.setIfInBounds_toArray, List.set_cons_succ, List.set_cons_zero]; exact rfl) ?_
      (refine Mv.lin_take 1 (by kernel_rfl) ?_; simp only [List.take_succ_cons, List.take_zero, List.drop_succ_cons, List.drop_zero])
      first | go_big_quiet_skip | (go_big_quiet_want; go_big_quiet_op; go_big_quiet_on)
      refine wpQuiet_nil ?_
      refine Mv.wpLin_nil ?_
      intro w4 h4
      clear hc1 hc2 hne
      have hv4 := h4.s2 rfl
      obtain ⟨ca', cc', rfl⟩ : ∃ a c, v' = .slice a (k + 1) c := RMine.form hv4
      have c4 : w4.cell? ⟨p, 1, none⟩ = some (.slice ca k cc) := h4.t.cell (i := 1) rfl
      have f4 : w4.frozen? ⟨p, 1, none⟩ = false := soft_of_heap h4.t 1
      have ho4 := Only.setCell w4 ⟨p, 1, none⟩ (.slice ca' (k + 1) cc')
      have st5 : Hid (T15 w s (some ⟨b, off, none⟩) n rb rf rm rv p (k + 1) m ca' cc' ra rc ⟨0, undef⟩ (w4.setCell ⟨p, 1, none⟩ (.slice ca' (k + 1) cc'))) :=
        ⟨h4.r.only ho4 (by show w.heap.size ≠ p; omega), h4.t.setF 1 _, own_only h4.v ho4 (at_own_ne h4.t h4.v (by decide)), RRowO h4.l ho4 (fun b' off' e h0 => by have := HLA.out b' off' e h0; show b' ≠ p; omega), h4.bel.trans (ho4.below (by show w.heap.size ≤ p; omega)), fun _ => own_only hv4 ho4 (at_own_ne h4.t hv4 (by decide)), (fun h => by cases h), (fun h => by cases h)⟩
      clear h4 hv4 ho4
      go_wp2_with fail
      go_roundw
      case rel => first | exact ⟨k + 1, ca', cc', by go_num, by omega, st5.out⟩ | exact ⟨k + 1, ca', cc', rfl, by omega, st5.out⟩
      case measure => simp [intOf]; omega
    · obtain rfl : k = n := by omega
      have hT := st.t
      have hR := st.r
      have ST := Lib.hid st
      clear st
      go_wp2_with (first | (refine wp_loadAtG rfl 51 (.tmp 7) rfl _ _ _ rfl hT Tryd.underlying51 rfl (info_trans _ _ _ _ _ _ _) ?_) | (refine wp_storeAt rfl 51 (.tmp 6) (.tmp 36) rfl w.heap.size (tcells s ca k cc ra m rc) _ rfl rfl hR (info_trans 0 none 0 0 none 0 0) rfl (by kernel_rfl) ?_))
      intro wz hBz hoz
      have HCZ := Lib.hid (own_only (ST.out.s0 (by decide)) hoz (fun e => by have := (World.ownsRow.lt (ST.out.s0 (by decide)) _ e).1; omega))
      have HRZ := Lib.hid (own_only ST.out.v hoz (fun e => by have := (World.ownsRow.lt ST.out.v _ e).1; omega))
      have HLZ := Lib.hid (ST.out.bel.trans (hoz.below (Nat.le_refl _)))
      clear hoz hT hR ST
      go_wp2_with fail
      exact bodyPost_ret (results_t6 rfl _ _ _ rfl hBz) rfl ⟨ca, cc, ra, rc, rfl, HCZ.out, HRZ.out, HLZ.out⟩
theorem trans15_any (s : Int) (hs : 0 ≤ s ∧ s < 4294967296) (la : Option Addr) (n lcap : Nat) (rb rf : Nat → Int) (rm : Nat → Bool) (hf : ∀ i, 0 ≤ rf i ∧ rf i < 256) (c : Option Addr) (m cap : Nat) (rv : Nat → Int) (hn : n ≤ 400) (hm : m ≤ 3000) (hno : c = none → m = 0 ∧ cap = 0) (w : World)
    (hl : RRow w la 3 n (rwF rb rf rm)) (hr : RRow w c 1 m (inF rv)) (hla : ∀ b off, la = some ⟨b, off, none⟩ → 0 < n → b < w.heap.size) :
    Calls Tryd.prog 15 #[.int .u32 s, .slice la n lcap, .slice c m cap] w fun e w' => ∃ ca cc ra rc, e = .returned (tval s ca n cc ra m rc) ∧
      RMine w' (w.heap.size + 1) 101 257 (.slice ca n cc) n (cpF rb (rwD rf rm)) ∧ RMine w' (w.heap.size + 1) 3 1 (.slice ra m rc) m (inF rv) ∧ Below w.heap.size w w' :=
  trans15_big s hs la n lcap rb rf rm hf c m cap rv (by omega) hm hno w hl hr hla
end Go.Proofs.YtnbmmhoofilmfaaDoor
