/- Texts of this claim, merged by a program (a claim may have 60 files): RangeV. -/
import Derived.Test.YtnbmmhoofilmfaaDoorK04
/- As XRange: a range over a function whose k-th value is known by a law alone (it may hold addresses of memory that the iterator has made): Val k vs W. No program in sight. -/
namespace Go.Proofs.YtnbmmhoofilmfaaDoor
open Go.RowKit
set_option linter.unusedVariables false
variable {F : Fence} {n : Nat} {P : Program}

/-- An iterator hands over N values, the k-th one meets Val k. Need: what it wants of memory. -/
def IterV (F : Fence) (n : Nat) (P : Program) (g : Nat) (lb : Array Value) (Val : Nat → Array Value → World → Prop) (N : Nat) (own : Nat → Prop) (Need : Nat → World → Prop) : Prop :=
  ∀ (l : Nat) (J Jx : Nat → World → Prop) (W : World),
    (∀ k A B, J k A → Turns own A B → J k B) → (∀ k A B, Jx k A → Turns own A B → Jx k B) →
    (∀ k vs A, k < N → J k A → Need k A → Val k vs A → YieldAt F (n - 1) P l vs A fun e B => (e = .returned (.bool true) ∧ J (k + 1) B ∧ Need k B) ∨ (e = .returned (.bool false) ∧ Jx k B)) →
    J 0 W → Need 0 W →
    CallsIn F n P g (#[.func (.yield l) #[] #[]] ++ lb) W fun e B => (∃ v, e = .returned v) ∧ (J N B ∨ ∃ k, k < N ∧ Jx k B)

/-- how the body of round k may be left -/
def roundV (B : Nat) (J : Nat → World → Prop) (Jx : Code → Nat → World → Prop) (Need : Nat → World → Prop) (k : Nat) (W : World) : Exit → Act → World → Prop
  | .normal, _, W' => KeepsFrom B W W' ∧ J (k + 1) W' ∧ Need k W'
  | .ret, _, W' => KeepsFrom B W W' ∧ Jx .ret k W'
  | .exit id, _, W' => KeepsFrom B W W' ∧ Jx (.exit id) k W'
  | .goto t, _, W' => KeepsFrom B W W' ∧ Jx (.goto t) k W'
  | .panic _, _, _ => False
  | .outgrown, _, _ => False

theorem wpIn_rangeV {g : Operand} {ps : Array Tmp} {assign body : Code} {Q : Exit → Act → World → Prop} {a : Act} {w : World}
    (hro : F.round = none) (h1 : 1 ≤ n) {gf : Nat} {lb : Array Value} (hg : a.eval g = .func (.func gf) #[] lb) (hFg : F.fn gf) (eg : ∀ args w, (callFunc gf args).run P w = .ok (.enter gf args) w)
    {Val : Nat → Array Value → World → Prop} {N : Nat} {own : Nat → Prop} {Need : Nat → World → Prop} (hit : IterV F (n - 1) P gf lb Val N own Need)
    (hown : ∀ r, own r → r < w.heap.size) (hps : ∀ k vs W, Val k vs W → vs.size = ps.size)
    (J : Nat → World → Prop) (Jx : Code → Nat → World → Prop) (Ax : Nat → Act → World → Prop)
    (hJ : OwnFrom w.heap.size J) (hJx : ∀ c, OwnFrom w.heap.size (Jx c)) (hN : OwnFrom w.heap.size Need) (hAx : ∀ a', OwnFrom w.heap.size (fun k W => Ax k a' W))
    (hJo : ∀ k A B, J k A → Turns own A B → J k B) (hJxo : ∀ c k A B, Jx c k A → Turns own A B → Jx c k B)
    (h0 : J 0 w) (hn0 : Need 0 w)
    (hassign : ∀ (l k : Nat) (vs : Array Value) (W : World) (K : Act → World → Prop), k < N → J k W → Need k W → Val k vs W →
      (∀ a' W', KeepsFrom w.heap.size W W' → J k W' → Need k W' → Ax k a' W' → K a' W') →
      assign.wpIn (F.inRound l) (n - 1 - 1) P (Exit.then K (fun _ _ _ => False)) { tmps := (ps.zip vs).foldl (fun t (p, v) => t.setIfInBounds p v) a.tmps, defers := [] } W)
    (hbody : ∀ (l k : Nat) (a' : Act) (W : World), k < N → J k W → Need k W → Ax k a' W → body.wpIn (F.inRound l) (n - 1 - 1) P (roundV w.heap.size J Jx Need k W) a' W)
    (hdone : ∀ (D : Nat) (W : World), w.heap.size ≤ D → J N W → W.heap[D]? = some (.deferred (some [])) → Q .normal { a with defers := { target := .collected D, args := #[] } :: a.defers } W)
    (hstop : ∀ (D : Nat) (c : Code) (k : Nat) (W : World), w.heap.size ≤ D → k < N → Jx c k W → W.heap[D]? = some (.deferred (some [])) → c.wpIn F n P Q { a with defers := { target := .collected D, args := #[] } :: a.defers } W) :
    (Code.rangeFunc g ps assign body).wpIn F n P Q a w := by
  refine wpIn_rangeFunc ?_
  intro fn hfn
  rw [hro]
  -- the record of the loop, by its state and its pending jump
  generalize hrc : (fun (st : LoopState) (pe : Option Code) => ({ state := st, pending := pe, fn := fn, tmps := a.tmps, params := ps, assign := assign, body := body, defers := w.heap.size } : Loop)) = rc
  have hrcs : ∀ st pe, rc st pe = { state := st, pending := pe, fn := fn, tmps := a.tmps, params := ps, assign := assign, body := body, defers := w.heap.size } := fun st pe => by rw [← hrc]
  clear hrc
  let W1 := (w.alloc (.deferred (some []))).alloc (.loop (rc .ready none))
  have hL1 : W1.heap[w.heap.size + 1]? = some (.loop (rc .ready none)) := by
    have := World.alloc_heap_new (w.alloc (.deferred (some []))) (.loop (rc .ready none)); rwa [World.size_alloc] at this
  have hK1 : W1.heap[w.heap.size]? = some (.deferred (some [])) := (Below.heap_alloc _ _ _ (by simp)).trans (World.alloc_heap_new w _)
  have grow1 : w.grownBy W1 none := ⟨rfl, rfl, rfl, by simp [W1]; omega, fun k hk _ => by
    show ((w.alloc _).alloc _).heap[k]? = _
    rw [Below.heap_alloc _ _ _ (by simp; omega), Below.heap_alloc _ _ _ hk]⟩
  have keep : ∀ {X : Nat → World → Prop}, OwnFrom w.heap.size X → ∀ k, X k w → X k W1 := fun h k hx => h k w W1 none hx grow1 (fun r e => by cases e)
  -- the two facts of book-keeping abide what the iterator turns
  have book : ∀ {A B : World} {k : Nat} {o : Obj}, Turns own A B → w.heap.size ≤ k → A.heap[k]? = some o → B.heap[k]? = some o := by
    rintro A B k o ⟨row, hgr, hr⟩ hk ho
    refine (hgr.block k (Array.getElem?_eq_some_iff.1 ho).1 (fun e => ?_)).trans ho
    have := hown k (hr k e.symm)
    omega
  refine ⟨w.heap.size + 1, [{ target := .collected w.heap.size, args := #[] }], W1, { target := .fn (.func gf) lb, args := #[.func (.yield (w.heap.size + 1)) #[] #[]] }, W1, gf,
    #[.func (.yield (w.heap.size + 1)) #[] #[]] ++ lb, W1, ?_, ?_, ?_, ?_, fun _ => h1, ?_⟩
  · show _ = Result.ok (_, _) ((w.alloc (.deferred (some []))).alloc (.loop (rc .ready none)))
    rw [hrcs]; exact run_enterLoop_outer _ _ _ _ _
  · simp only [resolve, hg]
    simp [go_sem]
  · intro f' hf'; simp [Target.leads] at hf'; subst hf'; exact hFg
  · simp [invoke, go_sem, eg]
  refine (hit (w.heap.size + 1)
    (fun k W => J k W ∧ W.heap[w.heap.size + 1]? = some (.loop (rc .ready none)) ∧ W.heap[w.heap.size]? = some (.deferred (some [])))
    (fun k W => ∃ c, Jx c k W ∧ W.heap[w.heap.size + 1]? = some (.loop (rc .done (some c))) ∧ W.heap[w.heap.size]? = some (.deferred (some [])))
    W1
    (fun k A B hs ht => ⟨hJo k A B hs.1 ht, book ht (by omega) hs.2.1, book ht (Nat.le_refl _) hs.2.2⟩)
    (fun k A B hs ht => by
      obtain ⟨c, hc, hl, hk⟩ := hs
      exact ⟨c, hJxo c k A B hc ht, book ht (by omega) hl, book ht (Nat.le_refl _) hk⟩)
    ?_ ⟨keep hJ 0 h0, hL1, hK1⟩ (keep hN 0 hn0)).mono ?_
  · -- one round
    rintro k vs W hkN ⟨hj, hl, hd⟩ hnd hval
    have hy := run_yield (P := P) (args := vs) hl (by rw [hrcs]; exact hps k vs W hval)
    rw [hrcs] at hy
    refine ⟨fn, _, assign, body, hy, roundIn_of_wpIn hfn (hassign _ k vs W _ hkN hj hnd hval ?_)⟩
    intro a' V hkf hjV hndV hax
    have hlV := hkf.same _ _ (by omega) hl rfl
    have hdV := hkf.same _ _ (Nat.le_refl _) hd rfl
    have hltV : w.heap.size + 1 < V.heap.size := (Array.getElem?_eq_some_iff.1 hlV).1
    refine ⟨_, run_beginRound hlV (by rw [hrcs]), ?_⟩
    generalize hbz : ({ rc .ready none with state := .busy } : Loop) = bz
    have hl2 : (V.putObj (w.heap.size + 1) (.loop bz)).heap[w.heap.size + 1]? = some (.loop bz) := World.putObj_heap_same hltV
    have hd2 : (V.putObj (w.heap.size + 1) (.loop bz)).heap[w.heap.size]? = some (.deferred (some [])) := (World.putObj_heap_other (by omega)).trans hdV
    refine wpIn_mono (hbody _ k a' _ hkN (hJ.putObj _ hjV (by omega) hlV rfl) (hN.putObj _ hndV (by omega) hlV rfl) ((hAx a').putObj _ hax (by omega) hlV rfl)) ?_
    have fin : ∀ (jump : Option Code) (U : World), KeepsFrom w.heap.size (V.putObj (w.heap.size + 1) (.loop bz)) U →
        (Instr.endRound (w.heap.size + 1) jump).run P U = .ok (.bool jump.isNone) (U.putObj (w.heap.size + 1) (.loop (rc (if jump.isNone then .ready else .done) jump))) ∧
        U.heap[w.heap.size + 1]? = some (.loop bz) ∧
        (U.putObj (w.heap.size + 1) (.loop (rc (if jump.isNone then .ready else .done) jump))).heap[w.heap.size + 1]? = some (.loop (rc (if jump.isNone then .ready else .done) jump)) ∧
        (U.putObj (w.heap.size + 1) (.loop (rc (if jump.isNone then .ready else .done) jump))).heap[w.heap.size]? = some (.deferred (some [])) := by
      intro jump U hkU
      have hlU := hkU.same _ _ (by omega) hl2 rfl
      have he := run_endRound (P := P) jump hlU
      refine ⟨?_, hlU, World.putObj_heap_same (Array.getElem?_eq_some_iff.1 hlU).1, (World.putObj_heap_other (by omega)).trans (hkU.same _ _ (Nat.le_refl _) hd2 rfl)⟩
      rw [he, ← hbz, hrcs, hrcs]
    rintro e a3 U hp
    cases e with
    | normal =>
      obtain ⟨hkU, hjU, hndU⟩ := hp
      obtain ⟨hr, hlU, hl4, hd4⟩ := fin none U hkU
      exact ⟨_, _, hr, .inl ⟨rfl, ⟨hJ.putObj _ hjU (by omega) hlU rfl, hl4, hd4⟩, hN.putObj _ hndU (by omega) hlU rfl⟩⟩
    | ret =>
      obtain ⟨hkU, hjU⟩ := hp
      obtain ⟨hr, hlU, hl4, hd4⟩ := fin (some .ret) U hkU
      exact ⟨_, _, hr, .inr ⟨rfl, .ret, (hJx _).putObj _ hjU (by omega) hlU rfl, hl4, hd4⟩⟩
    | exit id =>
      obtain ⟨hkU, hjU⟩ := hp
      obtain ⟨hr, hlU, hl4, hd4⟩ := fin (some (.exit id)) U hkU
      exact ⟨_, _, hr, .inr ⟨rfl, .exit id, (hJx _).putObj _ hjU (by omega) hlU rfl, hl4, hd4⟩⟩
    | goto t =>
      obtain ⟨hkU, hjU⟩ := hp
      obtain ⟨hr, hlU, hl4, hd4⟩ := fin (some (.goto t)) U hkU
      exact ⟨_, _, hr, .inr ⟨rfl, .goto t, (hJx _).putObj _ hjU (by omega) hlU rfl, hl4, hd4⟩⟩
    | panic ch => exact hp.elim
    | outgrown => exact hp.elim
  · -- the iterator has returned
    rintro e W2 ⟨⟨v, rfl⟩, (⟨hj, hl, hd⟩ | ⟨k, hkN, c, hj, hl, hd⟩)⟩
    · exact ⟨none, _, by have := run_endLoop (P := P) hl (by rw [hrcs]; simp); rw [hrcs] at this; exact this, hdone _ _ (Nat.le_refl _) (hJ.putObj _ hj (by omega) hl rfl) ((World.putObj_heap_other (by omega)).trans hd)⟩
    · exact ⟨some c, _, by have := run_endLoop (P := P) hl (by rw [hrcs]; simp); rw [hrcs] at this; exact this, hstop _ c k _ (Nat.le_refl _) hkN ((hJx c).putObj _ hj (by omega) hl rfl) ((World.putObj_heap_other (by omega)).trans hd)⟩

/-- X stands whatever is new, or a block from B on that is no cells is turned -/
def Kept (B : Nat) (X : World → Prop) : Prop := ∀ W W' row, X W → W.grownBy W' row → (∀ r, row = some r → B ≤ r ∧ ∃ o : Obj, W.heap[r]? = some o ∧ o.isCells = false) → X W'
theorem Kept.from {B : Nat} {J : Nat → World → Prop} (h : ∀ k, Kept B (J k)) : OwnFrom B J := fun s W W' row hs hg hr => h s W W' row hs hg hr
theorem Kept.turns {B : Nat} {X : World → Prop} (h : Kept B X) {A C : World} (hs : X A) (ht : Turns (fun _ => False) A C) : X C := by
  obtain ⟨row, hg, hr⟩ := ht
  exact h A C row hs hg (fun r e => (hr r e).elim)
theorem Kept.and {B : Nat} {X Y : World → Prop} (h : Kept B X) (k : Kept B Y) : Kept B (fun W => X W ∧ Y W) := fun W W' row hs hg hr => ⟨h W W' row hs.1 hg hr, k W W' row hs.2 hg hr⟩
theorem Kept.pure (B : Nat) (p : Prop) : Kept B (fun _ => p) := fun _ _ _ h _ _ => h
theorem Kept.ex {B : Nat} {α : Type} {X : α → World → Prop} (h : ∀ x, Kept B (X x)) : Kept B (fun W => ∃ x, X x W) := fun W W' row hs hg hr => let ⟨x, hx⟩ := hs; ⟨x, h x W W' row hx hg hr⟩
theorem Kept.all {B : Nat} {α : Type} {X : α → World → Prop} (h : ∀ x, Kept B (X x)) : Kept B (fun W => ∀ x, X x W) := fun W W' row hs hg hr x => h x W W' row (hs x) hg hr
theorem Kept.imp {B : Nat} {p : Prop} {X : World → Prop} (h : Kept B X) : Kept B (fun W => p → X W) := fun W W' row hs hg hr hp => h W W' row (hs hp) hg hr
theorem Kept.ofLocal {B : Nat} {X : World → Prop} (h : LocalP B X) : Kept B X := fun W W' row hs hg hr => h W W' hs (Still.of_grown hg fun r e => (hr r e).1)
theorem Kept.cell (B : Nat) (p : Addr) (v : Value) : Kept B (fun W => W.cell? p = some v) := fun W W' row hs hg hr => by
  have hl := World.block_lt_of_cell? W _ hs
  refine (World.cell?_of_block (w := W) (hg.block p.block hl fun e => ?_)).trans hs
  obtain ⟨_, o, ho, hc⟩ := hr _ e.symm
  simp only [World.cell?, ho] at hs
  cases o with
  | cells c e f => cases hc
  | _ => cases hs
theorem Kept.own {B base : Nat} {e : TypeId} {size k : Nat} {v : Value} {xs : List Value} : Kept B (fun W => W.ownsRow base e size v k xs) := fun W W' row hs hg hr => by
  refine World.ownsRow.kept hs hg ?_
  cases row with
  | none => cases h1 : v.ownBlock with
    | none => exact .inl rfl
    | some g => exact .inr (fun e => by cases e)
  | some r =>
    obtain ⟨_, o, ho, hc⟩ := hr r rfl
    cases h1 : v.ownBlock with
    | none => exact .inl rfl
    | some g =>
      refine .inr fun e => ?_
      injection e with e
      subst e
      rcases hs.2 with ⟨hv, _⟩ | ⟨g', cap', cur, hv, hbg, hg', h⟩
      · subst hv; cases h1
      · subst hv
        have : g' = g := by simpa [Value.ownBlock] using h1
        subst this
        rw [ho] at hg'
        injection hg' with hg'
        subst hg'
        cases hc
end Go.Proofs.YtnbmmhoofilmfaaDoor
