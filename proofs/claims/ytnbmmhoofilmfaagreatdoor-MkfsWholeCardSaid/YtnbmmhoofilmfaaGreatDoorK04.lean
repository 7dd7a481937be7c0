/- Texts of this claim, merged by a program (a claim may have 60 files): Range, Range2. -/
import Derived.RangeFuncNested
import Derived.RangeFuncBound
import Derived.RangeFuncCalls
import Derived.RangeFuncLeaves
import Derived.RangeFuncWrites
import Derived.WalkKit
import Derived.OwnWalkIn
import Derived.Test.YtnbmmhoofilmfaaGreatDoorK02
import Derived.RangeFuncBox
/- A range over a function whose iterator hands over a known row of values: a law for the caller, by the number of the rounds that are over. No program in sight. -/
namespace Go.Proofs.YtnbmmhoofilmfaaGreatDoor
open Go.RowKit
variable {F : Fence} {n : Nat} {P : Program}

/-- what turns is new, or one of some blocks -/
def Turns (own : Nat → Prop) (A B : World) : Prop := ∃ row, A.grownBy B row ∧ ∀ r, row = some r → own r

/-- An iterator hands over N values, the k-th encs k. own: blocks that it turns itself. Need k: what it wants of memory, k rounds being over. -/
def IterIx (F : Fence) (n : Nat) (P : Program) (g : Nat) (lb : Array Value) (encs : Nat → Array Value) (N : Nat) (own : Nat → Prop) (Need : Nat → World → Prop) : Prop :=
  ∀ (l : Nat) (J Jx : Nat → World → Prop) (W : World),
    (∀ k A B, J k A → Turns own A B → J k B) → (∀ k A B, Jx k A → Turns own A B → Jx k B) →
    (∀ k A, k < N → J k A → Need k A → YieldAt F (n - 1) P l (encs k) A fun e B => (e = .returned (.bool true) ∧ J (k + 1) B ∧ Need k B) ∨ (e = .returned (.bool false) ∧ Jx k B)) →
    J 0 W → Need 0 W →
    CallsIn F n P g (#[.func (.yield l) #[] #[]] ++ lb) W fun e B => (∃ v, e = .returned v) ∧ (J N B ∨ ∃ k, k < N ∧ Jx k B)

/-- how the body of round k may be left -/
def roundIx (B : Nat) (J : Nat → World → Prop) (Jx : Code → Nat → World → Prop) (Need : Nat → World → Prop) (k : Nat) (W : World) : Exit → Act → World → Prop
  | .normal, _, W' => KeepsFrom B W W' ∧ J (k + 1) W' ∧ Need k W'
  | .ret, _, W' => KeepsFrom B W W' ∧ Jx .ret k W'
  | .exit id, _, W' => KeepsFrom B W W' ∧ Jx (.exit id) k W'
  | .goto t, _, W' => KeepsFrom B W W' ∧ Jx (.goto t) k W'
  | .panic _, _, _ => False
  | .outgrown, _, _ => False

theorem wpIn_rangeIx {g : Operand} {ps : Array Tmp} {assign body : Code} {Q : Exit → Act → World → Prop} {a : Act} {w : World}
    (hro : F.round = none) (h1 : 1 ≤ n) {gf : Nat} {lb : Array Value} (hg : a.eval g = .func (.func gf) #[] lb) (hFg : F.fn gf) (eg : ∀ args w, (callFunc gf args).run P w = .ok (.enter gf args) w)
    {encs : Nat → Array Value} {N : Nat} {own : Nat → Prop} {Need : Nat → World → Prop} (hit : IterIx F (n - 1) P gf lb encs N own Need)
    (hown : ∀ r, own r → r < w.heap.size) (hps : ∀ k, (encs k).size = ps.size)
    (J : Nat → World → Prop) (Jx : Code → Nat → World → Prop) (Ax : Nat → Act → World → Prop)
    (hJ : OwnFrom w.heap.size J) (hJx : ∀ c, OwnFrom w.heap.size (Jx c)) (hN : OwnFrom w.heap.size Need) (hAx : ∀ a', OwnFrom w.heap.size (fun k W => Ax k a' W))
    (hJo : ∀ k A B, J k A → Turns own A B → J k B) (hJxo : ∀ c k A B, Jx c k A → Turns own A B → Jx c k B)
    (h0 : J 0 w) (hn0 : Need 0 w)
    (hassign : ∀ (l k : Nat) (W : World) (K : Act → World → Prop), k < N → J k W → Need k W →
      (∀ a' W', KeepsFrom w.heap.size W W' → J k W' → Need k W' → Ax k a' W' → K a' W') →
      assign.wpIn (F.inRound l) (n - 1 - 1) P (Exit.then K (fun _ _ _ => False)) { tmps := (ps.zip (encs k)).foldl (fun t (p, v) => t.setIfInBounds p v) a.tmps, defers := [] } W)
    (hbody : ∀ (l k : Nat) (a' : Act) (W : World), k < N → J k W → Need k W → Ax k a' W → body.wpIn (F.inRound l) (n - 1 - 1) P (roundIx w.heap.size J Jx Need k W) a' W)
    (hdone : ∀ (D : Nat) (W : World), w.heap.size ≤ D → J N W → W.heap[D]? = some (.deferred (some [])) → Q .normal { a with defers := { target := .collected D, args := #[] } :: a.defers } W)
    (hstop : ∀ (D : Nat) (c : Code) (k : Nat) (W : World), w.heap.size ≤ D → k < N → Jx c k W → W.heap[D]? = some (.deferred (some [])) → c.wpIn F n P Q { a with defers := { target := .collected D, args := #[] } :: a.defers } W) :
    (Code.rangeFunc g ps assign body).wpIn F n P Q a w := by
  refine wpIn_rangeFunc ?_
  intro fn hfn
  rw [hro]
  -- the record of the loop, by its state and its pending jump
  generalize hrc : (fun (st : LoopState) (pe : Option Code) => ({ state := st, pending := pe, fn := fn, tmps := a.tmps, params := ps, assign := assign, body := body, defers := w.heap.size } : Loop)) = rc
  have hrcs : ∀ st pe, rc st pe = { state := st, pending := pe, fn := fn, tmps := a.tmps, params := ps, assign := assign, body := body, defers := w.heap.size } := fun st pe => by rw [← hrc]
  clear hrc
  let W1 := (w.alloc (.deferred (some []))).alloc (.loop (rc .ready none))
  have hL1 : W1.heap[w.heap.size + 1]? = some (.loop (rc .ready none)) := by
    have := World.alloc_heap_new (w.alloc (.deferred (some []))) (.loop (rc .ready none)); rwa [World.size_alloc] at this
  have hK1 : W1.heap[w.heap.size]? = some (.deferred (some [])) := (Below.heap_alloc _ _ _ (by simp)).trans (World.alloc_heap_new w _)
  have grow1 : w.grownBy W1 none := ⟨rfl, rfl, rfl, by simp [W1]; omega, fun k hk _ => by
    show ((w.alloc _).alloc _).heap[k]? = _
    rw [Below.heap_alloc _ _ _ (by simp; omega), Below.heap_alloc _ _ _ hk]⟩
  have keep : ∀ {X : Nat → World → Prop}, OwnFrom w.heap.size X → ∀ k, X k w → X k W1 := fun h k hx => h k w W1 none hx grow1 (fun r e => by cases e)
  -- the two facts of book-keeping abide what the iterator turns
  have book : ∀ {A B : World} {k : Nat} {o : Obj}, Turns own A B → w.heap.size ≤ k → A.heap[k]? = some o → B.heap[k]? = some o := by
    rintro A B k o ⟨row, hgr, hr⟩ hk ho
    refine (hgr.block k (Array.getElem?_eq_some_iff.1 ho).1 (fun e => ?_)).trans ho
    have := hown k (hr k e.symm)
    omega
  refine ⟨w.heap.size + 1, [{ target := .collected w.heap.size, args := #[] }], W1, { target := .fn (.func gf) lb, args := #[.func (.yield (w.heap.size + 1)) #[] #[]] }, W1, gf,
    #[.func (.yield (w.heap.size + 1)) #[] #[]] ++ lb, W1, ?_, ?_, ?_, ?_, fun _ => h1, ?_⟩
  · show _ = Result.ok (_, _) ((w.alloc (.deferred (some []))).alloc (.loop (rc .ready none)))
    rw [hrcs]; exact run_enterLoop_outer _ _ _ _ _
  · simp only [resolve, hg]
    simp [go_sem]
  · intro f' hf'; simp [Target.leads] at hf'; subst hf'; exact hFg
  · simp [invoke, go_sem, eg]
  refine (hit (w.heap.size + 1)
    (fun k W => J k W ∧ W.heap[w.heap.size + 1]? = some (.loop (rc .ready none)) ∧ W.heap[w.heap.size]? = some (.deferred (some [])))
    (fun k W => ∃ c, Jx c k W ∧ W.heap[w.heap.size + 1]? = some (.loop (rc .done (some c))) ∧ W.heap[w.heap.size]? = some (.deferred (some [])))
    W1
    (fun k A B hs ht => ⟨hJo k A B hs.1 ht, book ht (by omega) hs.2.1, book ht (Nat.le_refl _) hs.2.2⟩)
    (fun k A B hs ht => by
      obtain ⟨c, hc, hl, hk⟩ := hs
      exact ⟨c, hJxo c k A B hc ht, book ht (by omega) hl, book ht (Nat.le_refl _) hk⟩)
    ?_ ⟨keep hJ 0 h0, hL1, hK1⟩ (keep hN 0 hn0)).mono ?_
  · -- one round
    rintro k W hkN ⟨hj, hl, hd⟩ hnd
    have hy := run_yield (P := P) (args := encs k) hl (by rw [hrcs]; exact hps k)
    rw [hrcs] at hy
    refine ⟨fn, _, assign, body, hy, roundIn_of_wpIn hfn (hassign _ k W _ hkN hj hnd ?_)⟩
    intro a' V hkf hjV hndV hax
    have hlV := hkf.same _ _ (by omega) hl rfl
    have hdV := hkf.same _ _ (Nat.le_refl _) hd rfl
    have hltV : w.heap.size + 1 < V.heap.size := (Array.getElem?_eq_some_iff.1 hlV).1
    refine ⟨_, run_beginRound hlV (by rw [hrcs]), ?_⟩
    generalize hbz : ({ rc .ready none with state := .busy } : Loop) = bz
    have hl2 : (V.putObj (w.heap.size + 1) (.loop bz)).heap[w.heap.size + 1]? = some (.loop bz) := World.putObj_heap_same hltV
    have hd2 : (V.putObj (w.heap.size + 1) (.loop bz)).heap[w.heap.size]? = some (.deferred (some [])) := (World.putObj_heap_other (by omega)).trans hdV
    refine wpIn_mono (hbody _ k a' _ hkN (hJ.putObj _ hjV (by omega) hlV rfl) (hN.putObj _ hndV (by omega) hlV rfl) ((hAx a').putObj _ hax (by omega) hlV rfl)) ?_
    have fin : ∀ (jump : Option Code) (U : World), KeepsFrom w.heap.size (V.putObj (w.heap.size + 1) (.loop bz)) U →
        (Instr.endRound (w.heap.size + 1) jump).run P U = .ok (.bool jump.isNone) (U.putObj (w.heap.size + 1) (.loop (rc (if jump.isNone then .ready else .done) jump))) ∧
        U.heap[w.heap.size + 1]? = some (.loop bz) ∧
        (U.putObj (w.heap.size + 1) (.loop (rc (if jump.isNone then .ready else .done) jump))).heap[w.heap.size + 1]? = some (.loop (rc (if jump.isNone then .ready else .done) jump)) ∧
        (U.putObj (w.heap.size + 1) (.loop (rc (if jump.isNone then .ready else .done) jump))).heap[w.heap.size]? = some (.deferred (some [])) := by
      intro jump U hkU
      have hlU := hkU.same _ _ (by omega) hl2 rfl
      have he := run_endRound (P := P) jump hlU
      refine ⟨?_, hlU, World.putObj_heap_same (Array.getElem?_eq_some_iff.1 hlU).1, (World.putObj_heap_other (by omega)).trans (hkU.same _ _ (Nat.le_refl _) hd2 rfl)⟩
      rw [he, ← hbz, hrcs, hrcs]
    rintro e a3 U hp
    cases e with
    | normal =>
      obtain ⟨hkU, hjU, hndU⟩ := hp
      obtain ⟨hr, hlU, hl4, hd4⟩ := fin none U hkU
      exact ⟨_, _, hr, .inl ⟨rfl, ⟨hJ.putObj _ hjU (by omega) hlU rfl, hl4, hd4⟩, hN.putObj _ hndU (by omega) hlU rfl⟩⟩
    | ret =>
      obtain ⟨hkU, hjU⟩ := hp
      obtain ⟨hr, hlU, hl4, hd4⟩ := fin (some .ret) U hkU
      exact ⟨_, _, hr, .inr ⟨rfl, .ret, (hJx _).putObj _ hjU (by omega) hlU rfl, hl4, hd4⟩⟩
    | exit id =>
      obtain ⟨hkU, hjU⟩ := hp
      obtain ⟨hr, hlU, hl4, hd4⟩ := fin (some (.exit id)) U hkU
      exact ⟨_, _, hr, .inr ⟨rfl, .exit id, (hJx _).putObj _ hjU (by omega) hlU rfl, hl4, hd4⟩⟩
    | goto t =>
      obtain ⟨hkU, hjU⟩ := hp
      obtain ⟨hr, hlU, hl4, hd4⟩ := fin (some (.goto t)) U hkU
      exact ⟨_, _, hr, .inr ⟨rfl, .goto t, (hJx _).putObj _ hjU (by omega) hlU rfl, hl4, hd4⟩⟩
    | panic ch => exact hp.elim
    | outgrown => exact hp.elim
  · -- the iterator has returned
    rintro e W2 ⟨⟨v, rfl⟩, (⟨hj, hl, hd⟩ | ⟨k, hkN, c, hj, hl, hd⟩)⟩
    · exact ⟨none, _, by have := run_endLoop (P := P) hl (by rw [hrcs]; simp); rw [hrcs] at this; exact this, hdone _ _ (Nat.le_refl _) (hJ.putObj _ hj (by omega) hl rfl) ((World.putObj_heap_other (by omega)).trans hd)⟩
    · exact ⟨some c, _, by have := run_endLoop (P := P) hl (by rw [hrcs]; simp); rw [hrcs] at this; exact this, hstop _ c k _ (Nat.le_refl _) hkN ((hJx c).putObj _ hj (by omega) hl rfl) ((World.putObj_heap_other (by omega)).trans hd)⟩
end Go.Proofs.YtnbmmhoofilmfaaGreatDoor

/- The law of a range over a function, for states that speak of the blocks that lay ahead of the loop alone. No program in sight. -/
namespace Go.Proofs.YtnbmmhoofilmfaaGreatDoor
open Go.RowKit
variable {P : Program}
set_option linter.unusedVariables false

/-- C lies as A did below B -/
structure Still (B : Nat) (A C : World) : Prop where
  os : C.os = A.os
  tape : C.tape = A.tape
  output : C.output = A.output
  size : A.heap.size ≤ C.heap.size
  block : ∀ k, k < B → k < A.heap.size → C.heap[k]? = A.heap[k]?
/-- X speaks of the blocks below B alone -/
def LocalP (B : Nat) (X : World → Prop) : Prop := ∀ A C, X A → Still B A C → X C

theorem Still.of_grown {B : Nat} {A C : World} {row : Option Nat} (h : A.grownBy C row) (hr : ∀ r, row = some r → B ≤ r) : Still B A C :=
  ⟨h.os, h.tape, h.output, h.size, fun k hk hl => h.block k hl (fun e => by have := hr k e.symm; omega)⟩
theorem LocalP.own {B : Nat} {J : Nat → World → Prop} (h : ∀ k, LocalP B (J k)) : OwnFrom B J :=
  fun s A C row hs hg hr => h s A C hs (Still.of_grown hg (fun r e => (hr r e).1))
theorem LocalP.turns {B : Nat} {X : World → Prop} (h : LocalP B X) {A C : World} (hs : X A) (ht : Turns (fun _ => False) A C) : X C := by
  obtain ⟨row, hg, hr⟩ := ht
  exact h A C hs (Still.of_grown hg (fun r e => (hr r e).elim))
theorem LocalP.and {B : Nat} {X Y : World → Prop} (h : LocalP B X) (k : LocalP B Y) : LocalP B (fun W => X W ∧ Y W) := fun A C hs hg => ⟨h A C hs.1 hg, k A C hs.2 hg⟩
theorem LocalP.pure (B : Nat) (p : Prop) : LocalP B (fun _ => p) := fun _ _ h _ => h
theorem LocalP.ex {B : Nat} {α : Type} {X : α → World → Prop} (h : ∀ x, LocalP B (X x)) : LocalP B (fun W => ∃ x, X x W) := fun A C hs hg => let ⟨x, hx⟩ := hs; ⟨x, h x A C hx hg⟩
theorem LocalP.boxed {B b : Nat} (t : TypeId) (v : Value) (hb : b < B) : LocalP B (fun W => Boxed W b t v) := fun A C hs hg => (hg.block b hb hs.lt).trans hs
theorem LocalP.below {B n : Nat} (w : World) (hn : n ≤ B) (hw : n ≤ w.heap.size) : LocalP B (fun W => Below n w W) := fun A C hs hg =>
  ⟨hg.os.trans hs.os, hg.tape.trans hs.tape, hg.output.trans hs.output, Nat.le_trans hs.size hg.size, fun k hk => (hg.block k (by omega) (by have := hs.size; omega)).trans (hs.block k hk)⟩
theorem LocalP.cell {B : Nat} (p : Addr) (v : Value) (hb : p.block < B) : LocalP B (fun W => W.cell? p = some v) := fun A C hs hg =>
  (World.cell?_of_block (w := A) (hg.block p.block hb (World.block_lt_of_cell? A _ hs))).trans hs
theorem LocalP.seg {B b : Nat} (off n : Nat) (z : Nat → Int) (hb : b < B) : LocalP B (fun W => Seg W b off n z) := fun A C hs hg i hi => LocalP.cell ⟨b, off + i, none⟩ _ hb A C (hs i hi) hg
theorem LocalP.row {B : Nat} {a : Option Addr} (n : Nat) (z : Nat → Int) (hb : ∀ x, a = some x → x.block < B) : LocalP B (fun W => Row W a n z) := fun A C hs hg => by
  rcases hs with h0 | ⟨b, off, rfl, hs⟩
  · exact .inl h0
  · exact .inr ⟨b, off, rfl, LocalP.seg off n z (hb _ rfl) A C hs hg⟩
theorem LocalP.heap {B b : Nat} (o : Obj) (hb : b < B) : LocalP B (fun W => W.heap[b]? = some o) := fun A C hs hg => (hg.block b hb (Array.getElem?_eq_some_iff.1 hs).1).trans hs

theorem LocalP.grown {B : Nat} {w : World} (row : Option Nat) (hB : w.heap.size ≤ B) : LocalP B (fun W => w.grownBy W row) := fun A C hs hg =>
  ⟨hg.os.trans hs.os, hg.tape.trans hs.tape, hg.output.trans hs.output, Nat.le_trans hs.size hg.size, fun k hk hne => (hg.block k (by omega) (Nat.lt_of_lt_of_le hk hs.size)).trans (hs.block k hk hne)⟩

theorem Below.keeps {B : Nat} {W W' : World} (h : Below W.heap.size W W') : KeepsFrom B W W' :=
  ⟨h.size, fun k o _ hk _ => (h.block k (Array.getElem?_eq_some_iff.1 hk).1).trans hk⟩
theorem Only.keeps {B b : Nat} {W W' : World} (h : Only b W W') {off : Nat} {v : Value} (hc : W.cell? ⟨b, off, none⟩ = some v) : KeepsFrom B W W' :=
  ⟨Nat.le_of_eq h.size.symm, fun k o _ hk ho => by
    by_cases hkb : k = b
    · subst hkb
      simp only [World.cell?, hk] at hc
      cases o with
      | cells c e f => cases ho
      | _ => cases hc
    · exact (h.block k hkb).trans hk⟩
theorem drewN_keeps {B : Nat} (W : World) (m : Nat) : KeepsFrom B W (W.drewN m) := ⟨Nat.le_refl _, fun _ _ _ hk _ => hk⟩

/-- **A range over a function in a plain walk.** -/
theorem wp_rangeIx {g : Operand} {ps : Array Tmp} {assign body : Code} {Q : Exit → Act → World → Prop} {a : Act} {w : World} {gf : Nat} {lb : Array Value}
    (hg : a.eval g = .func (.func gf) #[] lb) (eg : ∀ args w, (callFunc gf args).run P w = .ok (.enter gf args) w)
    {encs : Nat → Array Value} {N : Nat} {Need : Nat → World → Prop} (hit : IterIx Fence.wide 4 P gf lb encs N (fun _ => False) Need) (hps : ∀ k, (encs k).size = ps.size)
    (J : Nat → World → Prop) (Jx : Code → Nat → World → Prop) (A1 : Nat → Act)
    (hJ : ∀ k, LocalP w.heap.size (J k)) (hJx : ∀ c k, LocalP w.heap.size (Jx c k)) (hN : ∀ k, LocalP w.heap.size (Need k)) (h0 : J 0 w) (hn0 : Need 0 w)
    (hassign : ∀ (l k : Nat) (W : World) (K : Act → World → Prop), k < N → K (A1 k) W →
      assign.wpIn (Fence.wide.inRound l) 3 P (Exit.then K (fun _ _ _ => False)) { tmps := (ps.zip (encs k)).foldl (fun t (p, v) => t.setIfInBounds p v) a.tmps, defers := [] } W)
    (hbody : ∀ (l k : Nat) (W : World), k < N → J k W → Need k W → body.wpIn (Fence.wide.inRound l) 3 P (roundIx w.heap.size J Jx Need k W) (A1 k) W)
    (hdone : ∀ (D : Nat) (W : World), w.heap.size ≤ D → J N W → W.heap[D]? = some (.deferred (some [])) → Q .normal { a with defers := { target := .collected D, args := #[] } :: a.defers } W)
    (hstop : ∀ (D : Nat) (c : Code) (k : Nat) (W : World), w.heap.size ≤ D → k < N → Jx c k W → W.heap[D]? = some (.deferred (some [])) → c.wp P Q { a with defers := { target := .collected D, args := #[] } :: a.defers } W) :
    (Code.rangeFunc g ps assign body).wp P Q a w := by
  refine (wpIn_wide (n := 5)).1 ?_
  exact wpIn_rangeIx rfl (by decide) hg trivial eg hit (fun r h => h.elim) hps J Jx (fun k a' _ => a' = A1 k)
    (LocalP.own hJ) (fun c => LocalP.own (hJx c)) (LocalP.own hN) (fun a' => LocalP.own (fun k => LocalP.pure _ _))
    (fun k A C hs ht => (hJ k).turns hs ht) (fun c k A C hs ht => (hJx c k).turns hs ht) h0 hn0
    (fun l k W K hk hj hn hK => hassign l k W K hk (hK _ _ (KeepsFrom.refl _ _) hj hn rfl))
    (fun l k a' W hk hj hn ha => by subst ha; exact hbody l k W hk hj hn)
    hdone (fun D c k W h1 h2 h3 h4 => wpIn_wide.2 (hstop D c k W h1 h2 h3 h4))

/-- the end of a function that holds such a loop: the block for deferred calls is shut -/
theorem bodyPostM_done {P : Program} {fn : Func} {R : Ending → World → Prop} {n : Nat} {tmps : Array Value} {D : Nat} {W : World} {v : Value} (hD : W.heap[D]? = some (.deferred (some [])))
    (hres : (results fn tmps).run P (W.putObj D (.deferred none)) = .ok v (W.putObj D (.deferred none))) (hR : R (.returned v) (W.putObj D (.deferred none))) :
    bodyPostM Fence.wide n P fn R .ret { tmps := tmps, defers := [{ target := .collected D, args := #[] }] } W :=
  ⟨by simp, .inl ⟨_, _, rfl, run_takeDeferred hD, ⟨_, hres, hR⟩⟩⟩
/-- .. ahead of the loop -/
theorem bodyPostM_early {P : Program} {fn : Func} {R : Ending → World → Prop} {n : Nat} {tmps : Array Value} {W : World} {v : Value}
    (hres : (results fn tmps).run P W = .ok v W) (hR : R (.returned v) W) :
    bodyPostM Fence.wide n P fn R .ret { tmps := tmps, defers := [] } W := ⟨_, hres, hR⟩
theorem cell_putObj {W : World} {D : Nat} {o o' : Obj} {p : Addr} {v : Value} (hD : W.heap[D]? = some o) (ho : o.isCells = false) (hc : W.cell? p = some v) : (W.putObj D o').cell? p = some v := by
  have hne : p.block ≠ D := by
    intro e
    simp only [World.cell?, e, hD] at hc
    cases o with
    | cells c e f => cases ho
    | _ => cases hc
  rw [World.cell?_of_block (w := W) (World.putObj_heap_other hne)]; exact hc
theorem below_putObj {W w : World} {n D : Nat} (h : Below n w W) (o' : Obj) (hn : n ≤ w.heap.size) (hD : n ≤ D) : Below n w (W.putObj D o') :=
  h.grown (grownBy_putObj' W D o') (Nat.le_trans hn h.size) (fun k e => by cases e; exact hD)
end Go.Proofs.YtnbmmhoofilmfaaGreatDoor
