/- The law of a range over a function, for states that speak of the blocks that lay ahead of the loop alone. No program in sight. -/
import Derived.Test.YtbbcckopkbiojaaRange
import Derived.Test.YtbbcckopkbiojaaMore
import Derived.RangeFuncBox
namespace Go.Proofs.Ytbbcckopkbiojaa
open Go.RowKit
variable {P : Program}
set_option linter.unusedVariables false

/-- C lies as A did below B -/
structure Still (B : Nat) (A C : World) : Prop where
  os : C.os = A.os
  tape : C.tape = A.tape
  output : C.output = A.output
  size : A.heap.size ≤ C.heap.size
  block : ∀ k, k < B → k < A.heap.size → C.heap[k]? = A.heap[k]?
/-- X speaks of the blocks below B alone -/
def LocalP (B : Nat) (X : World → Prop) : Prop := ∀ A C, X A → Still B A C → X C

theorem Still.of_grown {B : Nat} {A C : World} {row : Option Nat} (h : A.grownBy C row) (hr : ∀ r, row = some r → B ≤ r) : Still B A C :=
  ⟨h.os, h.tape, h.output, h.size, fun k hk hl => h.block k hl (fun e => by have := hr k e.symm; omega)⟩
theorem LocalP.own {B : Nat} {J : Nat → World → Prop} (h : ∀ k, LocalP B (J k)) : OwnFrom B J :=
  fun s A C row hs hg hr => h s A C hs (Still.of_grown hg (fun r e => (hr r e).1))
theorem LocalP.turns {B : Nat} {X : World → Prop} (h : LocalP B X) {A C : World} (hs : X A) (ht : Turns (fun _ => False) A C) : X C := by
  obtain ⟨row, hg, hr⟩ := ht
  exact h A C hs (Still.of_grown hg (fun r e => (hr r e).elim))
theorem LocalP.and {B : Nat} {X Y : World → Prop} (h : LocalP B X) (k : LocalP B Y) : LocalP B (fun W => X W ∧ Y W) := fun A C hs hg => ⟨h A C hs.1 hg, k A C hs.2 hg⟩
theorem LocalP.pure (B : Nat) (p : Prop) : LocalP B (fun _ => p) := fun _ _ h _ => h
theorem LocalP.ex {B : Nat} {α : Type} {X : α → World → Prop} (h : ∀ x, LocalP B (X x)) : LocalP B (fun W => ∃ x, X x W) := fun A C hs hg => let ⟨x, hx⟩ := hs; ⟨x, h x A C hx hg⟩
theorem LocalP.boxed {B b : Nat} (t : TypeId) (v : Value) (hb : b < B) : LocalP B (fun W => Boxed W b t v) := fun A C hs hg => (hg.block b hb hs.lt).trans hs
theorem LocalP.below {B n : Nat} (w : World) (hn : n ≤ B) (hw : n ≤ w.heap.size) : LocalP B (fun W => Below n w W) := fun A C hs hg =>
  ⟨hg.os.trans hs.os, hg.tape.trans hs.tape, hg.output.trans hs.output, Nat.le_trans hs.size hg.size, fun k hk => (hg.block k (by omega) (by have := hs.size; omega)).trans (hs.block k hk)⟩
theorem LocalP.cell {B : Nat} (p : Addr) (v : Value) (hb : p.block < B) : LocalP B (fun W => W.cell? p = some v) := fun A C hs hg =>
  (World.cell?_of_block (w := A) (hg.block p.block hb (World.block_lt_of_cell? A _ hs))).trans hs
theorem LocalP.seg {B b : Nat} (off n : Nat) (z : Nat → Int) (hb : b < B) : LocalP B (fun W => Seg W b off n z) := fun A C hs hg i hi => LocalP.cell ⟨b, off + i, none⟩ _ hb A C (hs i hi) hg
theorem LocalP.row {B : Nat} {a : Option Addr} (n : Nat) (z : Nat → Int) (hb : ∀ x, a = some x → x.block < B) : LocalP B (fun W => Row W a n z) := fun A C hs hg => by
  rcases hs with h0 | ⟨b, off, rfl, hs⟩
  · exact .inl h0
  · exact .inr ⟨b, off, rfl, LocalP.seg off n z (hb _ rfl) A C hs hg⟩
theorem LocalP.heap {B b : Nat} (o : Obj) (hb : b < B) : LocalP B (fun W => W.heap[b]? = some o) := fun A C hs hg => (hg.block b hb (Array.getElem?_eq_some_iff.1 hs).1).trans hs

theorem LocalP.grown {B : Nat} {w : World} (row : Option Nat) (hB : w.heap.size ≤ B) : LocalP B (fun W => w.grownBy W row) := fun A C hs hg =>
  ⟨hg.os.trans hs.os, hg.tape.trans hs.tape, hg.output.trans hs.output, Nat.le_trans hs.size hg.size, fun k hk hne => (hg.block k (by omega) (Nat.lt_of_lt_of_le hk hs.size)).trans (hs.block k hk hne)⟩

theorem Below.keeps {B : Nat} {W W' : World} (h : Below W.heap.size W W') : KeepsFrom B W W' :=
  ⟨h.size, fun k o _ hk _ => (h.block k (Array.getElem?_eq_some_iff.1 hk).1).trans hk⟩
theorem Only.keeps {B b : Nat} {W W' : World} (h : Only b W W') {off : Nat} {v : Value} (hc : W.cell? ⟨b, off, none⟩ = some v) : KeepsFrom B W W' :=
  ⟨Nat.le_of_eq h.size.symm, fun k o _ hk ho => by
    by_cases hkb : k = b
    · subst hkb
      simp only [World.cell?, hk] at hc
      cases o with
      | cells c e f => cases ho
      | _ => cases hc
    · exact (h.block k hkb).trans hk⟩
theorem drewN_keeps {B : Nat} (W : World) (m : Nat) : KeepsFrom B W (W.drewN m) := ⟨Nat.le_refl _, fun _ _ _ hk _ => hk⟩

/-- **A range over a function in a plain walk.** -/
theorem wp_rangeIx {g : Operand} {ps : Array Tmp} {assign body : Code} {Q : Exit → Act → World → Prop} {a : Act} {w : World} {gf : Nat} {lb : Array Value}
    (hg : a.eval g = .func (.func gf) #[] lb) (eg : ∀ args w, (callFunc gf args).run P w = .ok (.enter gf args) w)
    {encs : Nat → Array Value} {N : Nat} {Need : Nat → World → Prop} (hit : IterIx Fence.wide 4 P gf lb encs N (fun _ => False) Need) (hps : ∀ k, (encs k).size = ps.size)
    (J : Nat → World → Prop) (Jx : Code → Nat → World → Prop) (A1 : Nat → Act)
    (hJ : ∀ k, LocalP w.heap.size (J k)) (hJx : ∀ c k, LocalP w.heap.size (Jx c k)) (hN : ∀ k, LocalP w.heap.size (Need k)) (h0 : J 0 w) (hn0 : Need 0 w)
    (hassign : ∀ (l k : Nat) (W : World) (K : Act → World → Prop), k < N → K (A1 k) W →
      assign.wpIn (Fence.wide.inRound l) 3 P (Exit.then K (fun _ _ _ => False)) { tmps := (ps.zip (encs k)).foldl (fun t (p, v) => t.setIfInBounds p v) a.tmps, defers := [] } W)
    (hbody : ∀ (l k : Nat) (W : World), k < N → J k W → Need k W → body.wpIn (Fence.wide.inRound l) 3 P (roundIx w.heap.size J Jx Need k W) (A1 k) W)
    (hdone : ∀ (D : Nat) (W : World), w.heap.size ≤ D → J N W → W.heap[D]? = some (.deferred (some [])) → Q .normal { a with defers := { target := .collected D, args := #[] } :: a.defers } W)
    (hstop : ∀ (D : Nat) (c : Code) (k : Nat) (W : World), w.heap.size ≤ D → k < N → Jx c k W → W.heap[D]? = some (.deferred (some [])) → c.wp P Q { a with defers := { target := .collected D, args := #[] } :: a.defers } W) :
    (Code.rangeFunc g ps assign body).wp P Q a w := by
  refine (wpIn_wide (n := 5)).1 ?_
  exact wpIn_rangeIx rfl (by decide) hg trivial eg hit (fun r h => h.elim) hps J Jx (fun k a' _ => a' = A1 k)
    (LocalP.own hJ) (fun c => LocalP.own (hJx c)) (LocalP.own hN) (fun a' => LocalP.own (fun k => LocalP.pure _ _))
    (fun k A C hs ht => (hJ k).turns hs ht) (fun c k A C hs ht => (hJx c k).turns hs ht) h0 hn0
    (fun l k W K hk hj hn hK => hassign l k W K hk (hK _ _ (KeepsFrom.refl _ _) hj hn rfl))
    (fun l k a' W hk hj hn ha => by subst ha; exact hbody l k W hk hj hn)
    hdone (fun D c k W h1 h2 h3 h4 => wpIn_wide.2 (hstop D c k W h1 h2 h3 h4))

/-- the end of a function that holds such a loop: the block for deferred calls is shut -/
theorem bodyPostM_done {P : Program} {fn : Func} {R : Ending → World → Prop} {n : Nat} {tmps : Array Value} {D : Nat} {W : World} {v : Value} (hD : W.heap[D]? = some (.deferred (some [])))
    (hres : (results fn tmps).run P (W.putObj D (.deferred none)) = .ok v (W.putObj D (.deferred none))) (hR : R (.returned v) (W.putObj D (.deferred none))) :
    bodyPostM Fence.wide n P fn R .ret { tmps := tmps, defers := [{ target := .collected D, args := #[] }] } W :=
  ⟨by simp, .inl ⟨_, _, rfl, run_takeDeferred hD, ⟨_, hres, hR⟩⟩⟩
/-- .. ahead of the loop -/
theorem bodyPostM_early {P : Program} {fn : Func} {R : Ending → World → Prop} {n : Nat} {tmps : Array Value} {W : World} {v : Value}
    (hres : (results fn tmps).run P W = .ok v W) (hR : R (.returned v) W) :
    bodyPostM Fence.wide n P fn R .ret { tmps := tmps, defers := [] } W := ⟨_, hres, hR⟩
theorem cell_putObj {W : World} {D : Nat} {o o' : Obj} {p : Addr} {v : Value} (hD : W.heap[D]? = some o) (ho : o.isCells = false) (hc : W.cell? p = some v) : (W.putObj D o').cell? p = some v := by
  have hne : p.block ≠ D := by
    intro e
    simp only [World.cell?, e, hD] at hc
    cases o with
    | cells c e f => cases ho
    | _ => cases hc
  rw [World.cell?_of_block (w := W) (World.putObj_heap_other hne)]; exact hc
theorem below_putObj {W w : World} {n D : Nat} (h : Below n w W) (o' : Obj) (hn : n ≤ w.heap.size) (hD : n ≤ D) : Below n w (W.putObj D o') :=
  h.grown (grownBy_putObj' W D o') (Nat.le_trans hn h.size) (fun k e => by cases e; exact hD)
end Go.Proofs.Ytbbcckopkbiojaa
