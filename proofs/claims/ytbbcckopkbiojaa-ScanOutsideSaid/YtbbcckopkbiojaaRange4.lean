/- A range over a function whose values are structs, which the assignment puts into a new block. No program in sight. -/
import Derived.Test.YtbbcckopkbiojaaRange2
import Derived.Test.YtbbcckopkbiojaaAt
namespace Go.Proofs.Ytbbcckopkbiojaa
open Go.RowKit
variable {P : Program}
theorem LocalP.bel {B : Nat} {X : World → Prop} (h : LocalP B X) {W W' : World} (hs : X W) (hb : Below W.heap.size W W') : X W' := h W W' hs ⟨hb.os, hb.tape, hb.output, hb.size, fun k _ hl => hb.block k hl⟩
theorem LocalP.at {B b : Nat} (t : TypeId) (cs : Array Value) (hb : b < B) : LocalP B (fun W => At W b t cs) := fun _ _ hs hg => (hg.block b hb (At.lt hs)).trans hs
theorem wp_rangeIx4 {g : Operand} {ps : Array Tmp} {asg bdy : Code} {Q : Exit → Act → World → Prop} {a : Act} {w : World} {gf : Nat} {lb : Array Value}
    (hg : a.eval g = .func (.func gf) #[] lb) (eg : ∀ args w, (callFunc gf args).run P w = .ok (.enter gf args) w)
    {encs : Nat → Array Value} {N : Nat} {Need : Nat → World → Prop} (hit : IterIx Fence.wide 4 P gf lb encs N (fun _ => False) Need) (hps : ∀ k, (encs k).size = ps.size)
    (T : TypeId) (cs : Nat → Array Value)
    (J : Nat → World → Prop) (Jx : Code → Nat → World → Prop)
    (hJ : ∀ k, LocalP w.heap.size (J k)) (hJx : ∀ c k, LocalP w.heap.size (Jx c k)) (hN : ∀ k, LocalP w.heap.size (Need k)) (h0 : J 0 w) (hn0 : Need 0 w) (A1 : Nat → Nat → Act)
    (assign : ∀ (l k : Nat) (W : World) (K : Act → World → Prop), k < N → (∀ p W', p = W.heap.size → Below W.heap.size W W' → At W' p T (cs k) → K (A1 k p) W') →
      asg.wpIn (Fence.wide.inRound l) 3 P (Exit.then K (fun _ _ _ => False)) { tmps := (ps.zip (encs k)).foldl (fun t (p, v) => t.setIfInBounds p v) a.tmps, defers := [] } W)
    (body : ∀ (l k p : Nat) (W : World), k < N → J k W → Need k W → At W p T (cs k) → bdy.wpIn (Fence.wide.inRound l) 3 P (roundIx w.heap.size J Jx Need k W) (A1 k p) W)
    (done : ∀ (D : Nat) (W : World), w.heap.size ≤ D → J N W → W.heap[D]? = some (.deferred (some [])) → Q .normal { a with defers := { target := .collected D, args := #[] } :: a.defers } W)
    (stop : ∀ (D : Nat) (c : Code) (k : Nat) (W : World), w.heap.size ≤ D → k < N → Jx c k W → W.heap[D]? = some (.deferred (some [])) → c.wp P Q { a with defers := { target := .collected D, args := #[] } :: a.defers } W) :
    (Code.rangeFunc g ps asg bdy).wp P Q a w := by
  refine (wpIn_wide (n := 5)).1 ?_
  exact wpIn_rangeIx rfl (by decide) hg trivial eg hit (fun r h => h.elim) hps J Jx (fun k a' W => ∃ p, a' = A1 k p ∧ At W p T (cs k))
    (LocalP.own hJ) (fun c => LocalP.own (hJx c)) (LocalP.own hN)
    (fun a' k W W' row hs hgr hr => by
      obtain ⟨p, he, hA⟩ := hs
      refine ⟨p, he, (hgr.block p hA.lt (fun e => ?_)).trans hA⟩
      obtain ⟨_, o, ho, hc⟩ := hr p e.symm
      have : some (Obj.cells (cs k) T (0, 0)) = some o := hA.symm.trans ho
      injection this with this
      subst this
      cases hc)
    (fun k A C hs ht => (hJ k).turns hs ht) (fun c k A C hs ht => (hJx c k).turns hs ht) h0 hn0
    (fun l k W K hk hj hn hK => assign l k W K hk (fun p W' _ hb hA => hK _ _ (Below.keeps hb) ((hJ k).bel hj hb) ((hN k).bel hn hb) ⟨p, rfl, hA⟩))
    (fun l k a' W hk hj hn ha => by obtain ⟨p, rfl, hA⟩ := ha; exact body l k p W hk hj hn hA)
    done (fun D c k W h1 h2 h3 h4 => wpIn_wide.2 (stop D c k W h1 h2 h3 h4))
end Go.Proofs.Ytbbcckopkbiojaa
