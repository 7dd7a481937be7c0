/- Texts of this claim, merged by a program (a claim may have 60 files): MoveB, RangeV, RangeV4, RangeK2, MoveBar, MoveIn2, Sc0, Sc3, Sc4. -/
import Derived.Test.YtnbmmhoofilmfaaGreatDoorK15
import Derived.Laws.Tables
import Derived.Test.YtnbmmhoofilmfaaGreatDoorK04
import Derived.Test.YtnbmmhoofilmfaaGreatDoorK08
import Derived.Test.YtnbmmhoofilmfaaGreatDoorK21
import Derived.RangeFuncCalls
import Derived.Test.YtnbmmhoofilmfaaGreatDoorK06
import Derived.RegionIn
import Derived.Test.YtnbmmhoofilmfaaGreatDoorK10
/- A whole row stored in a drawn region that moves (for XMove, XMove2). No program in sight. -/
namespace Go.Proofs.YtnbmmhoofilmfaaGreatDoor.Mv
open Go.RowKit Go.Proofs.YtnbmmhoofilmfaaGreatDoor
set_option linter.unusedVariables false
section
variable {P : Program} {ops : Array Oper} {σ : Type} {C : σ → World → Prop}
theorem lin_storeRow {Q : σ → Act → Prop} {s : σ} {o : Oper} {rest : List Oper} {a : Act} (hw : Region.wanted o (yielded ops a.tmps) = true) (ty : TypeId) (x y : Operand) (ho : o.op = .store ty x y)
    (g : Nat) (cells : Array Value) (t : TypeId) (hx : a.eval x = .pointer (some ⟨g, 0, none⟩)) (hy : a.eval y = .agg cells) (hi : (P.info? ty).map (·.size) = some cells.size) (h1 : cells.all (·.oneCell') = true) (s' : σ)
    (hc : ∀ w, C s w → (∃ old, w.heap[g]? = some (.cells old t (0, 0)) ∧ old.size = cells.size) ∧ C s' (w.setRow g cells))
    (hk : wpLin P ops C Q rest s' (a.put o.dst undef)) : wpLin P ops C Q (o :: rest) s a :=
  lin_move hw (by unfold mv plainOp; rw [ho]; rfl) fun w hC => by
    obtain ⟨⟨old, hu, hs⟩, hC'⟩ := hc w hC
    unfold execOp
    simp only [ho, hx, hy, Instr.storeAt, Instr.sureAddr, Sem.run_bind, Sem.run_pure, Result.andThen_ok, run_storeVar_row w g t ty old cells hu hi hs h1]
    exact ⟨s', hC', hk⟩
/-- a call whose answer is one of many -/
theorem lin_callE {Q : σ → Act → Prop} {s : σ} {o : Oper} {rest : List Oper} {a : Act} (hw : Region.wanted o (yielded ops a.tmps) = true) (hm : mv o = true) (f : FuncId) (args : Array Value)
    (hrun : ∀ W, (execOp a.eval o).run P W = .ok (.enter f args) W) (hcall : ∀ W, C s W → Calls P f args W fun e w' => ∃ u s', e = .returned u ∧ C s' w' ∧ wpLin P ops C Q rest s' (a.put o.dst u)) : wpLin P ops C Q (o :: rest) s a :=
  lin_move hw hm fun w hC => by
    rw [hrun]
    exact (hcall w hC).mono fun e w' ⟨u, s', h1, h2, h3⟩ => ⟨u, h1, s', h2, h3⟩
end
end Go.Proofs.YtnbmmhoofilmfaaGreatDoor.Mv

/- As XRange: a range over a function whose k-th value is known by a law alone (it may hold addresses of memory that the iterator has made): Val k vs W. No program in sight. -/
namespace Go.Proofs.YtnbmmhoofilmfaaGreatDoor
open Go.RowKit
set_option linter.unusedVariables false
variable {F : Fence} {n : Nat} {P : Program}

/-- X stands whatever is new, or a block from B on that is no cells is turned -/
def Kept (B : Nat) (X : World → Prop) : Prop := ∀ W W' row, X W → W.grownBy W' row → (∀ r, row = some r → B ≤ r ∧ ∃ o : Obj, W.heap[r]? = some o ∧ o.isCells = false) → X W'
theorem Kept.from {B : Nat} {J : Nat → World → Prop} (h : ∀ k, Kept B (J k)) : OwnFrom B J := fun s W W' row hs hg hr => h s W W' row hs hg hr
theorem Kept.turns {B : Nat} {X : World → Prop} (h : Kept B X) {A C : World} (hs : X A) (ht : Turns (fun _ => False) A C) : X C := by
  obtain ⟨row, hg, hr⟩ := ht
  exact h A C row hs hg (fun r e => (hr r e).elim)
theorem Kept.and {B : Nat} {X Y : World → Prop} (h : Kept B X) (k : Kept B Y) : Kept B (fun W => X W ∧ Y W) := fun W W' row hs hg hr => ⟨h W W' row hs.1 hg hr, k W W' row hs.2 hg hr⟩
theorem Kept.pure (B : Nat) (p : Prop) : Kept B (fun _ => p) := fun _ _ _ h _ _ => h
theorem Kept.ex {B : Nat} {α : Type} {X : α → World → Prop} (h : ∀ x, Kept B (X x)) : Kept B (fun W => ∃ x, X x W) := fun W W' row hs hg hr => let ⟨x, hx⟩ := hs; ⟨x, h x W W' row hx hg hr⟩
theorem Kept.all {B : Nat} {α : Type} {X : α → World → Prop} (h : ∀ x, Kept B (X x)) : Kept B (fun W => ∀ x, X x W) := fun W W' row hs hg hr x => h x W W' row (hs x) hg hr
theorem Kept.ofLocal {B : Nat} {X : World → Prop} (h : LocalP B X) : Kept B X := fun W W' row hs hg hr => h W W' hs (Still.of_grown hg fun r e => (hr r e).1)
theorem Kept.cell (B : Nat) (p : Addr) (v : Value) : Kept B (fun W => W.cell? p = some v) := fun W W' row hs hg hr => by
  have hl := World.block_lt_of_cell? W _ hs
  refine (World.cell?_of_block (w := W) (hg.block p.block hl fun e => ?_)).trans hs
  obtain ⟨_, o, ho, hc⟩ := hr _ e.symm
  simp only [World.cell?, ho] at hs
  cases o with
  | cells c e f => cases hc
  | _ => cases hs
theorem Kept.own {B base : Nat} {e : TypeId} {size k : Nat} {v : Value} {xs : List Value} : Kept B (fun W => W.ownsRow base e size v k xs) := fun W W' row hs hg hr => by
  refine World.ownsRow.kept hs hg ?_
  cases row with
  | none => cases h1 : v.ownBlock with
    | none => exact .inl rfl
    | some g => exact .inr (fun e => by cases e)
  | some r =>
    obtain ⟨_, o, ho, hc⟩ := hr r rfl
    cases h1 : v.ownBlock with
    | none => exact .inl rfl
    | some g =>
      refine .inr fun e => ?_
      injection e with e
      subst e
      rcases hs.2 with ⟨hv, _⟩ | ⟨g', cap', cur, hv, hbg, hg', h⟩
      · subst hv; cases h1
      · subst hv
        have : g' = g := by simpa [Value.ownBlock] using h1
        subst this
        rw [ho] at hg'
        injection hg' with hg'
        subst hg'
        cases hc
end Go.Proofs.YtnbmmhoofilmfaaGreatDoor

/- A range over a function whose values are structs that are known by a law alone; the assignment of each round puts the value into a new block. No program in sight. -/
namespace Go.Proofs.YtnbmmhoofilmfaaGreatDoor
open Go.RowKit
set_option linter.unusedVariables false
variable {P : Program}
theorem Kept.at {B b : Nat} (T : TypeId) (cs : Array Value) : Kept B (fun W => At W b T cs) := fun W W' row hs hg hr => by
  refine (hg.block b hs.lt fun e => ?_).trans hs
  obtain ⟨_, o, ho, hc⟩ := hr b e.symm
  have : some (Obj.cells cs T (0, 0)) = some o := Eq.trans (Eq.symm hs) ho
  injection this with this
  subst this
  cases hc
theorem Kept.below {B n : Nat} (w : World) (hn : n ≤ B) (hw : n ≤ w.heap.size) : Kept B (fun W => Below n w W) := Kept.ofLocal (LocalP.below w hn hw)
end Go.Proofs.YtnbmmhoofilmfaaGreatDoor

/- A range over a function in a plain walk, for states that may speak of memory of the loop's own (XRange3's law, whose states speak of the blocks that lay ahead of it). No program in sight. -/
namespace Go.Proofs.YtnbmmhoofilmfaaGreatDoor
open Go.RowKit
variable {P : Program}
theorem wp_rangeIxK {g : Operand} {ps : Array Tmp} {asg bdy : Code} {Q : Exit → Act → World → Prop} {a : Act} {w : World} {gf : Nat} {lb : Array Value}
    (hg : a.eval g = .func (.func gf) #[] lb) (eg : ∀ args w, (callFunc gf args).run P w = .ok (.enter gf args) w)
    {encs : Nat → Array Value} {N : Nat} {Need : Nat → World → Prop} (hit : IterIx Fence.wide 4 P gf lb encs N (fun _ => False) Need) (hps : ∀ k, (encs k).size = ps.size)
    (J : Nat → World → Prop) (Jx : Code → Nat → World → Prop)
    (hJ : ∀ k, Kept w.heap.size (J k)) (hJx : ∀ c k, Kept w.heap.size (Jx c k)) (hN : ∀ k, Kept w.heap.size (Need k)) (h0 : J 0 w) (hn0 : Need 0 w) (A1 : Nat → Act)
    (assign : ∀ (l k : Nat) (W : World) (K : Act → World → Prop), k < N → K (A1 k) W →
      asg.wpIn (Fence.wide.inRound l) 3 P (Exit.then K (fun _ _ _ => False)) { tmps := (ps.zip (encs k)).foldl (fun t (p, v) => t.setIfInBounds p v) a.tmps, defers := [] } W)
    (body : ∀ (l k : Nat) (W : World), k < N → J k W → Need k W → bdy.wpIn (Fence.wide.inRound l) 3 P (roundIx w.heap.size J Jx Need k W) (A1 k) W)
    (done : ∀ (D : Nat) (W : World), w.heap.size ≤ D → J N W → W.heap[D]? = some (.deferred (some [])) → Q .normal { a with defers := { target := .collected D, args := #[] } :: a.defers } W)
    (stop : ∀ (D : Nat) (c : Code) (k : Nat) (W : World), w.heap.size ≤ D → k < N → Jx c k W → W.heap[D]? = some (.deferred (some [])) → c.wp P Q { a with defers := { target := .collected D, args := #[] } :: a.defers } W) :
    (Code.rangeFunc g ps asg bdy).wp P Q a w := by
  refine (wpIn_wide (n := 5)).1 ?_
  exact wpIn_rangeIx rfl (by decide) hg trivial eg hit (fun r h => h.elim) hps J Jx (fun k a' _ => a' = A1 k)
    (Kept.from hJ) (fun c => Kept.from (hJx c)) (Kept.from hN) (fun a' => Kept.from (fun k => Kept.pure _ _))
    (fun k A C hs ht => (hJ k).turns hs ht) (fun c k A C hs ht => (hJx c k).turns hs ht) h0 hn0
    (fun l k W K hk hj hn hK => assign l k W K hk (hK _ _ (KeepsFrom.refl _ _) hj hn rfl))
    (fun l k a' W hk hj hn ha => by subst ha; exact body l k W hk hj hn)
    done (fun D c k W h1 h2 h3 h4 => wpIn_wide.2 (stop D c k W h1 h2 h3 h4))
end Go.Proofs.YtnbmmhoofilmfaaGreatDoor

/- A drawn region in two phases, of which the first moves the world (as XMove2), the second waits for all ahead of it (as XBar2). No program in sight. -/
namespace Go.Proofs.YtnbmmhoofilmfaaGreatDoor
open Go.RowKit
set_option linter.unusedVariables false
section
variable {P : Program} {md : Region.Mode} {ops : Array Oper}
theorem bar_head3 {σ : Type} {n : Nat} {ops1 : Array Oper} {l2 : List Oper} {C : σ → World → Prop} (hb : barB2 md n ops = true) (hd : downB md ops = true) (hd1 : downB md ops1 = true) (hn1 : ops1.size = n) (h1 : ∀ i, i < n → ops1[i]? = ops[i]?) (hl : ∀ j, l2[j]? = ops[n + j]?)
    {Q : Exit → Act → World → Prop} {Q1 : σ → Act → Prop} (hQ : ∀ s a w, C s w → Q1 s a → wpList P ops Q l2 a w) : ∀ (fuel : Nat) (listed1 listed : Array Bool) (s : σ) (a : Act) (w : World), C s w → Mv.Cl md ops listed → listed1.size = n → listed.size = ops.size →
      (∀ i, i < n → listed1[i]? = listed[i]?) → (∀ i, n ≤ i → i < ops.size → listed.getD i true = false) → Mv.wpAnyL P md ops1 C Q1 fuel listed1 s a → wpAny P md ops Q (l2.length + fuel) listed a w := by
  have hnn : n ≤ ops.size := by
    rcases Nat.lt_or_ge ops.size n with h | h
    · have := h1 ops.size h
      rw [Array.getElem?_eq_none (Nat.le_refl _), Array.getElem?_eq_none_iff] at this
      omega
    · exact h
  have done : ∀ (fuel : Nat) (listed1 listed : Array Bool) (s : σ) (a : Act) (w : World), C s w → listed1.size = n → listed.size = ops.size → (∀ i, i < n → listed1[i]? = listed[i]?) → (∀ i, n ≤ i → i < ops.size → listed.getD i true = false) →
      Region.ready md ops1 listed1 = [] → Q1 s a → wpAny P md ops Q (l2.length + fuel) listed a w := fun fuel listed1 listed s a w hw hs1 hs hll h0 hr hq => by
    refine bar_tail2 hb hd l2 n fuel listed a w (Nat.le_refl _) hl hs (fun i hi => ?_) h0 (hQ s a w hw hq)
    have := ready_nil hd1 (by omega) hr i (by omega)
    rw [Array.getD_eq_getD_getElem?, hll i hi, ← Array.getD_eq_getD_getElem?] at this
    exact this
  intro fuel
  induction fuel with
  | zero => intro listed1 listed s a w hw hcl hs1 hs hll h0 h; exact done 0 listed1 listed s a w hw hs1 hs hll h0 h.1 h.2
  | succ fuel ih =>
    intro listed1 listed s a w hw hcl hs1 hs hll h0 h
    by_cases hr : Region.ready md ops1 listed1 = []
    · exact done _ listed1 listed s a w hw hs1 hs hll h0 hr (h.1 hr)
    · obtain ⟨i0, hi0⟩ := List.exists_mem_of_ne_nil _ hr
      obtain ⟨hu0, o0, ho0, hall0⟩ := mem_ready.1 hi0
      have hi0n : i0 < n := by rw [← hn1]; exact (Array.getElem?_eq_some_iff.1 ho0).1
      have get : ∀ i, i < n → ∀ d, listed1.getD i d = listed.getD i d := fun i hi d => by rw [Array.getD_eq_getD_getElem?, Array.getD_eq_getD_getElem?, hll i hi]
      have up : i0 ∈ Region.ready md ops listed := mem_ready.2 ⟨by rw [← get i0 hi0n]; exact hu0, o0, by rw [← h1 i0 hi0n]; exact ho0, fun e he hbe => by
        have hlt := downB_spec hd1 ho0 he hbe
        rw [← get e.on (by omega)]; exact hall0 e he hbe⟩
      rw [show l2.length + (fuel + 1) = (l2.length + fuel) + 1 by omega]
      refine ⟨fun hrr => (by rw [hrr] at up; cases up), fun i hi => ?_⟩
      obtain ⟨hu, o, ho, hall⟩ := mem_ready.1 hi
      have hin : i < n := by
        rcases Nat.lt_or_ge i n with hh | hh
        · exact hh
        · have hx := hcl.reach hall ho (barB_wait2 hb ho hh (i := i0) (by omega))
          rw [← get i0 hi0n] at hx
          rw [Array.getD_eq_getD_getElem?, Array.getElem?_eq_getElem (by omega)] at hx hu0
          simp at hx hu0
          rw [hx] at hu0; cases hu0
      have ho1 : ops1[i]? = some o := by rw [h1 i hin]; exact ho
      have hi1 : i ∈ Region.ready md ops1 listed1 := mem_ready.2 ⟨by rw [get i hin]; exact hu, o, ho1, fun e he hbe => by
        have hlt := downB_spec hd1 ho1 he hbe
        rw [get e.on (by omega)]; exact hall e he hbe⟩
      have hq := h.2 i hi1
      have hwant : ∀ a : Act, Region.wanted o (yielded ops1 a.tmps) = Region.wanted o (yielded ops a.tmps) := fun a => by
        unfold Region.wanted
        cases hg : o.guard with
        | none => rfl
        | some p =>
          obtain ⟨g, b⟩ := p
          have := barB_guard2 hb ho hin hg
          simp only [yielded, h1 g this]
      have hq' : Mv.linOp P ops C i (Mv.wpAnyL P md ops1 C Q1 fuel (listed1.setIfInBounds i true)) s a := by
        unfold Mv.linOp at hq ⊢
        simp only [ho1] at hq
        simp only [ho]
        unfold Mv.LX at hq ⊢
        rw [← hwant]
        exact hq
      refine Mv.wpOp_of_lin hw (fun s' a' w' hw' h' => ih (listed1.setIfInBounds i true) (listed.setIfInBounds i true) s' a' w' hw' (hcl.next hi) (by simpa using hs1) (by simpa using hs) (fun j hj => ?_) (fun j hj hjs => ?_) h') hq'
      · by_cases hji : i = j
        · subst hji; simp [hs1, hs, hj, show i < ops.size by omega]
        · rw [Array.getElem?_setIfInBounds_ne hji, Array.getElem?_setIfInBounds_ne hji]; exact hll j hj
      · rw [Array.getD_eq_getD_getElem?, Array.getElem?_setIfInBounds_ne (by omega), ← Array.getD_eq_getD_getElem?]; exact h0 j hj hjs

end
end Go.Proofs.YtnbmmhoofilmfaaGreatDoor

/- XMoveIn's law in a round of the wide fence, for regions with calls, appends, literals too. -/
namespace Go.Proofs.YtnbmmhoofilmfaaGreatDoor.Mv
open Go.RowKit Go.Proofs.YtnbmmhoofilmfaaGreatDoor
set_option linter.unusedVariables false
/-- no deferred calls -/
def noDefer (o : Oper) : Bool := match o.op with | .defer _ => false | _ => true
section
variable {m : Nat} {P : Program} {ops : Array Oper} {md : Region.Mode} {σ : Type} {C : σ → World → Prop} {lp : Nat}
theorem no_defer {o : Oper} (ho : noDefer o = true) (c) : o.op ≠ .defer c := by
  intro h; unfold noDefer at ho; rw [h] at ho; cases ho
theorem wpOpIn_of_lin2 (ht : ops.all noDefer = true) {i : Nat} {s : σ} {a : Act} {K : σ → Act → Prop} {K' : Act → World → Prop} {Q' : Exit → Act → World → Prop} {w : World} (hC : C s w) (h : ∀ s a w', C s w' → K s a → K' a w') (hh : linOp P ops C i K s a) :
    wpOpIn (Fence.wide.inRound lp) m P ops Q' i K' a w := by
  unfold linOp at hh
  unfold wpOpIn
  split
  · rename_i ho; simp only [ho] at hh; exact h _ _ _ hC hh
  · rename_i o ho
    simp only [ho] at hh
    have hta : noDefer o = true := by
      rw [Array.all_eq_true_iff_forall_mem] at ht
      exact ht o (Array.mem_of_getElem? ho)
    have hab : ∀ f, o.about P w a.eval = some f → (Fence.wide.inRound lp).fn f := fun f _ => trivial
    rcases hh with ⟨hw, hy⟩ | ⟨hw, hk⟩
    · simp only [hw, if_true]
      unfold Oper.wpIn
      refine ⟨hab, ?_⟩
      rw [Oper.semAt_plain _ _ _ (no_defer hta)]
      rcases hy with ⟨_, hk⟩ | ⟨_, v, hs, hk⟩
      · have h3 := hk w hC
        generalize (execOp a.eval o).run P w = r at *
        cases r with
        | ok n w' =>
          cases n <;> simp only [movesUpon] at h3 <;> simp only [Oper.uponIn]
          · obtain ⟨s', h4, h5⟩ := h3; exact h _ _ _ h4 h5
          · obtain ⟨s', h4, h5⟩ := h3; exact h _ _ _ h4 h5
          · refine ⟨fun e => by simp [Fence.wide] at e, CallsIn.inRound lp (callsIn_wide.2 (h3.mono ?_))⟩
            rintro e w2 ⟨v, rfl, s', h4, h5⟩
            exact h _ _ _ h4 h5
        | halt x w' => simp only [movesUpon] at h3
      · have h3 := hs w ⟨_, hC⟩
        generalize (execOp a.eval o).run P w = r at *
        cases r with
        | ok n w' =>
          cases n <;> simp only [stillUpon] at h3 <;> simp only [Oper.uponIn]
          · obtain ⟨rfl, rfl⟩ := h3; exact h _ _ _ hC hk
          · obtain ⟨rfl, rfl⟩ := h3; exact h _ _ _ hC hk
        | halt x w' => simp only [stillUpon] at h3
    · rw [if_neg (by rw [hw]; decide)]
      exact ⟨hab, h _ _ _ hC hk⟩
theorem wpAnyIn_of_lin2 (ht : ops.all noDefer = true) {Q : σ → Act → Prop} {Q' : Exit → Act → World → Prop} (hQ : ∀ s a w, C s w → Q s a → Q' .normal a w) : ∀ (fuel : Nat) (listed : Array Bool) (s : σ) (a : Act) (w : World), C s w →
    wpAnyL P md ops C Q fuel listed s a → wpAnyIn (Fence.wide.inRound lp) m P md ops Q' fuel listed a w
  | 0, _, _, _, _, hw, h => ⟨h.1, hQ _ _ _ hw h.2⟩
  | fuel + 1, _, _, _, _, hw, h => ⟨fun h0 => hQ _ _ _ hw (h.1 h0), fun i hi => wpOpIn_of_lin2 ht hw (fun s' a' w' hw' => wpAnyIn_of_lin2 ht hQ fuel _ s' a' w' hw') (h.2 i hi)⟩
theorem wpIn_region_mw (C : σ → World → Prop) (s : σ) {id : Nat} {Q : Exit → Act → World → Prop} {a : Act} {w : World} {l : List Oper} (hm : P.follows .mixedOrders = true) (hB : Region.lexB .any l.toArray = true) (hch : chainC .any l.toArray = true) (ht : l.toArray.all noDefer = true) (hC : C s { w with drawn := w.drawn + 1 })
    (h : Nonempty (InW fun w => ∃ s, C s w) → wpLin P l.toArray C (fun s a' => ∀ w', C s w' → Q .normal a' w') l s a) : (Code.region id l.toArray true).wpIn (Fence.wide.inRound lp) m P Q a w := by
  simp only [Region.lexB, Bool.and_eq_true] at hB
  refine wpIn_region_any hm (wpAnyIn_of_lin2 ht (Q := fun s a' => ∀ w', C s w' → Q .normal a' w') (fun _ _ w' hw' h => h w' hw') _ _ s _ _ hC ?_)
  have := wpAnyL_lexC (C := C) (md := .any) calls_some hch hB.1 l 0 (Array.replicate l.toArray.size false) s a ⟨_, hC⟩ (fun j oj hj hl => by
      rcases Nat.lt_or_ge j l.toArray.size with h' | h'
      · rw [List.size_toArray] at h'; simp [h'] at hl
      · rw [List.size_toArray] at h'; simp [h'] at hl) (fun j hj => by omega) (by simp) (by simpa using hB.2) (h ⟨⟨_, s, hC⟩⟩)
  simpa using this
/-- the normal way out alone -/
def Nm (Q : Exit → Act → World → Prop) : Exit → Act → World → Prop
  | .normal, a, w => Q .normal a w
  | _, _, _ => False
theorem Nm.mk {Q : Exit → Act → World → Prop} {a : Act} {w : World} (h : Q .normal a w) : Nm Q .normal a w := h
theorem Nm.no (Q : Exit → Act → World → Prop) : ¬ LetsOut (Nm Q) := fun ⟨_, _, h⟩ => h
theorem wpOpIn_of_op {Q : Exit → Act → World → Prop} {i : Nat} {K K' : Act → World → Prop} (ht : ops.all noDefer = true) (hK : ∀ a w, K a w → K' a w) {a : Act} {w : World} (h : wpOp P ops (Nm Q) i K a w) :
    wpOpIn (Fence.wide.inRound lp) m P ops Q i K' a w := by
  unfold wpOp at h
  unfold wpOpIn
  split
  · rename_i ho; simp only [ho] at h; exact hK _ _ h
  · rename_i o ho
    simp only [ho] at h
    have hmem := Array.mem_of_getElem? ho
    have hta : noDefer o = true := by
      rw [Array.all_eq_true_iff_forall_mem] at ht
      exact ht o hmem
    by_cases hw : Region.wanted o (yielded ops a.tmps) = true
    · simp only [hw, if_true] at h ⊢
      rcases h with h | ⟨_, h⟩
      rotate_left
      · exact absurd h (Nm.no Q)
      unfold Oper.wpIn
      refine ⟨fun f _ => trivial, ?_⟩
      rw [Oper.semAt_plain _ _ _ (no_defer hta)]
      unfold Oper.wp at h
      generalize (execOp a.eval o).run P w = r at *
      cases r with
      | ok n w' =>
        cases n with
        | value v => exact hK _ _ h
        | skip => exact hK _ _ h
        | «defer» d => exact hK _ _ h
        | enter f args =>
          refine ⟨fun e => by simp [Fence.wide] at e, CallsIn.inRound lp (callsIn_wide.2 (Calls.mono h ?_))⟩
          intro e w2 h2
          cases e with
          | returned v => exact hK _ _ h2
          | panicked ch => exact h2.elim
          | outgrown => exact absurd h2 (Nm.no Q)
        | row r args =>
          refine ⟨fun e => by simp [Fence.wide] at e, fun c cs _ => ?_⟩
          obtain ⟨v, w2, hR, hs⟩ := h c cs
          exact ⟨v, w2, hK _ _ hR, stepsIn_wide.2 hs⟩
        | _ => exact h.elim
      | halt x w' =>
        cases x with
        | panic v => exact h.elim
        | _ => exact h.elim
    · simp only [hw] at h ⊢
      exact ⟨fun f _ => trivial, hK _ _ h⟩
theorem wpAnyIn_of_any {Q : Exit → Act → World → Prop} (ht : ops.all noDefer = true) : ∀ (fuel : Nat) (listed : Array Bool) (a : Act) (w : World), wpAny P md ops (Nm Q) fuel listed a w → wpAnyIn (Fence.wide.inRound lp) m P md ops Q fuel listed a w
  | 0, _, _, _, h => h
  | fuel + 1, _, _, _, h => ⟨h.1, fun i hi => wpOpIn_of_op ht (fun a' w' h' => wpAnyIn_of_any ht fuel _ a' w' h') (h.2 i hi)⟩
/-- **XMoveBar's law in a round.** -/
theorem wpIn_region_mb (C : σ → World → Prop) (s : σ) (n : Nat) {id : Nat} {Q : Exit → Act → World → Prop} {a : Act} {w : World} {L : List Oper} (hm : P.follows .mixedOrders = true) (hB : Region.lexB .any (L.take n).toArray = true) (hch : chainC .any (L.take n).toArray = true)
    (hb : barB2 .any n L.toArray = true) (hd : downB .any L.toArray = true) (hd1 : downB .any (L.take n).toArray = true) (ht : L.toArray.all noDefer = true) (hn : n ≤ L.length) (hC : C s { w with drawn := w.drawn + 1 })
    (h : Nonempty (InW fun w => ∃ s, C s w) → wpLin P (L.take n).toArray C (fun s a' => ∀ w', C s w' → wpList P L.toArray (Nm Q) (L.drop n) a' w') (L.take n) s a) : (Code.region id L.toArray true).wpIn (Fence.wide.inRound lp) m P Q a w := by
  simp only [Region.lexB, Bool.and_eq_true] at hB
  have hlen : (L.take n).length = n := by simp [Nat.min_eq_left hn]
  have hq := wpAnyL_lexC (P := P) (C := C) (md := .any) calls_some hch (Q := fun s a' => ∀ w', C s w' → wpList P L.toArray (Nm Q) (L.drop n) a' w') hB.1 (L.take n) 0 (Array.replicate n false) s a ⟨_, hC⟩ (fun j oj hj hl => by
      rcases Nat.lt_or_ge j n with h' | h'
      · simp [h'] at hl
      · simp [h'] at hl) (fun j hj => by omega) (by simp) (by have := hB.2; simpa [Nat.min_eq_left hn] using this) (h ⟨⟨_, s, hC⟩⟩)
  rw [hlen] at hq
  have := bar_head3 (P := P) (md := .any) (ops := L.toArray) (ops1 := (L.take n).toArray) (l2 := L.drop n) (n := n) (C := C) hb hd hd1 (by simp [Nat.min_eq_left hn]) (fun i hi => by simp [hi]) (fun j => by simp)
    (Q := Nm Q) (Q1 := fun s a' => ∀ w', C s w' → wpList P L.toArray (Nm Q) (L.drop n) a' w') (fun s a w hw h => h w hw) n (Array.replicate n false) (Array.replicate L.length false) s a { w with drawn := w.drawn + 1 } hC (fun j oj hj hl e he hbe => by
      rcases Nat.lt_or_ge j L.length with h' | h'
      · simp [h'] at hl
      · simp [h'] at hl) (by simp) (by simp)
    (fun i hi => by simp [hi, show i < L.length by omega]) (fun i hi hs => by simp at hs; simp [hs]) hq
  rw [show (L.drop n).length + n = L.length by simp; omega] at this
  refine wpIn_region_any hm (wpAnyIn_of_any ht _ _ _ _ ?_)
  simpa using this
end
end Go.Proofs.YtnbmmhoofilmfaaGreatDoor.Mv

/- scan, plainly: the transactions with which blocks begin, one behind the other. -/
namespace Go.Proofs.YtnbmmhoofilmfaaGreatDoor
open Go.RowKit
set_option linter.unusedVariables false

def fndF (L : Nat → Nat → Int) (N : Nat) : Nat → Nat → Int → List Tr
  | 0, _, _ => []
  | f + 1, k, s => if k < N ∧ s ≤ 2147483648 then (match unp (fun i => L (k + i)) (N - k) s with | none => [] | some (t, u) => t :: fndF L N f (k + u) (s + 1)) else []
/-- the transactions with which the blocks from k on begin, the first one with the number s -/
def fnd (L : Nat → Nat → Int) (N k : Nat) (s : Int) : List Tr := fndF L N (N - k) k s
section
variable {L : Nat → Nat → Int} {N : Nat}
end
end Go.Proofs.YtnbmmhoofilmfaaGreatDoor

/- scan.found: the iterator over transactions. -/
namespace Go.Proofs.YtnbmmhoofilmfaaGreatDoor
open Go.RowKit
set_option linter.unusedVariables false

end Go.Proofs.YtnbmmhoofilmfaaGreatDoor

/- scan.Find: what it tells, plainly; the iterator's beginning; memory. -/
namespace Go.Proofs.YtnbmmhoofilmfaaGreatDoor
open Go.RowKit
set_option linter.unusedVariables false

/-- the transactions that Find tells -/
def fdL (J : Int) (L : Nat → Nat → Int) : List Tr := if 0 < hdT (L 2) then fnd (ringL L J.toNat (hdT (L 2)).toNat) (J.toNat - 1) 0 (hdS (L 2)) else []
def outTr (G S I J : Int) (t : Tr) : Bool := outT G S I J t.n t.cb t.m t.rv
def fdE (G S I J : Int) (N : Nat) (L : Nat → Nat → Int) : Int :=
  if mayG G S I J = false then 50 else if ¬ (N : Int) = nBl G S I J then 2 else if headRd (L 2) = false ∨ J ≤ hdT (L 2) then 90 else if (fdL J L).all (outTr G S I J) = false then 90 else if 2147483648 < hdS (L 2) + (fdL J L).length + 1 then 90 else 0
/-- a row of transactions, each with its own rows -/
def trC (l : List Tr) (ca : Nat → Option Addr) (cc : Nat → Nat) (ra : Nat → Option Addr) (rc : Nat → Nat) (i : Nat) : List Value :=
  match l[i]? with
  | some t => [.int .u32 t.s, .slice (ca i) t.n (cc i), .slice (ra i) t.m (rc i)]
  | none => [.int .u32 0, .slice none 0 0, .slice none 0 0]
theorem trC_len (l : List Tr) (ca : Nat → Option Addr) (cc : Nat → Nat) (ra : Nat → Option Addr) (rc : Nat → Nat) (i : Nat) : (trC l ca cc ra rc i).length = 3 := by unfold trC; split <;> rfl
def TrM (W : World) (B : Nat) (v : Value) (l : List Tr) : Prop :=
  ∃ ca cc ra rc, RMine W B 154 3 v l.length (trC l ca cc ra rc) ∧
    ∀ i t, l[i]? = some t → RMine W B 109 257 (.slice (ca i) t.n (cc i)) t.n (cpF t.cb t.cd) ∧ RMine W B 3 1 (.slice (ra i) t.m (rc i)) t.m (inF t.rv)
theorem TrM.nil (W : World) (B : Nat) : TrM W B (.slice none 0 0) [] := ⟨fun _ => none, fun _ => 0, fun _ => none, fun _ => 0, RMine.nil _ _ _ _ _, fun i t h => by simp at h⟩
theorem TrM.kept {B : Nat} (v : Value) (l : List Tr) (base : Nat) : Kept base (fun W => TrM W B v l) := fun W W' row h hg hr => by
  obtain ⟨ca, cc, ra, rc, h1, h2⟩ := h
  exact ⟨ca, cc, ra, rc, Kept.own W W' row h1 hg hr, fun i t ht => ⟨Kept.own W W' row (h2 i t ht).1 hg hr, Kept.own W W' row (h2 i t ht).2 hg hr⟩⟩
theorem TrM.below {W W' : World} {B : Nat} {v : Value} {l : List Tr} (h : TrM W B v l) (hb : Below W.heap.size W W') : TrM W' B v l := TrM.kept v l 0 W W' none h (grown_below hb) (fun r e => by cases e)
/-- what Find keeps -/
structure FdS (w : World) (G S I J : Int) (la : Option Addr) (N : Nat) (L : Nat → Nat → Int) (hs ht : Int) (av : Value) (nn E : Int) (W : World) : Prop where
  g : At W w.heap.size 23 (gcells G S I J)
  h : At W (w.heap.size + 1) 83 #[.int .u32 hs, .int .i64 ht]
  l : At W (w.heap.size + 1 + 1) 84 #[av]
  n : At W (w.heap.size + 1 + 1 + 1) 45 #[.int .u32 nn]
  e : At W (w.heap.size + 1 + 1 + 1 + 1) 48 #[.int .i64 E]
  r : RRow W la 256 N (bkF L)
  ta : Tab W
  bel : Below w.heap.size w W
section
variable {w : World} {G S I J : Int} {la : Option Addr} {N : Nat} {L : Nat → Nat → Int} {hs ht : Int} {av : Value} {nn E : Int} {W W' : World}
theorem FdS.below (h : FdS w G S I J la N L hs ht av nn E W) (hb : Below W.heap.size W W') : FdS w G S I J la N L hs ht av nn E W' :=
  ⟨h.g.below hb h.g.lt, h.h.below hb h.h.lt, h.l.below hb h.l.lt, h.n.below hb h.n.lt, h.e.below hb h.e.lt, h.r.below (by intro e; cases e) hb, h.ta.below hb (Nat.le_refl _), h.bel.trans (hb.mono h.bel.size)⟩
end
end Go.Proofs.YtnbmmhoofilmfaaGreatDoor
