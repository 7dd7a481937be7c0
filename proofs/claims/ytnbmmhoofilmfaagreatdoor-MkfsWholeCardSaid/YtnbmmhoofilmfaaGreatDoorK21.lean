/- Texts of this claim, merged by a program (a claim may have 60 files): Range4, MoveIn, What, Pth, Pk1, Pk2, Pk3, Pk4, Pk6, Pk8, Pk7, Pk9, Pk10, Pk11, Pk12, CopyB, Outside, Sc1, Sc2. -/
import Derived.Test.YtnbmmhoofilmfaaGreatDoorK04
import Derived.Test.YtnbmmhoofilmfaaGreatDoorK08
import Derived.Test.YtnbmmhoofilmfaaGreatDoorK15
import Derived.OrdersIn
import Derived.OwnWalkIn
import Derived.Test.YtnbmmhoofilmfaaGreatDoorK14
import Derived.Test.YtnbmmhoofilmfaaGreatDoorK20
import Derived.Test.YtnbmmhoofilmfaaGreatDoorK10
import Derived.Deep.QuietTactic
import Derived.Test.YtnbmmhoofilmfaaGreatDoorK19
import Derived.Shelf.Abstract
import Derived.TacticsInMore
import Derived.LoopNIn
import Derived.LoopIn
import Derived.Test.YtnbmmhoofilmfaaGreatDoorK13
import Derived.Deep.DeepAppendRoom
import Derived.Laws.CopyRow
import Derived.Deep.RegionLaw
import Derived.Test.YtnbmmhoofilmfaaGreatDoorK06
/- A range over a function whose values are structs, which the assignment puts into a new block. No program in sight. -/
namespace Go.Proofs.YtnbmmhoofilmfaaGreatDoor
open Go.RowKit
variable {P : Program}
theorem LocalP.bel {B : Nat} {X : World → Prop} (h : LocalP B X) {W W' : World} (hs : X W) (hb : Below W.heap.size W W') : X W' := h W W' hs ⟨hb.os, hb.tape, hb.output, hb.size, fun k _ hl => hb.block k hl⟩
theorem LocalP.at {B b : Nat} (t : TypeId) (cs : Array Value) (hb : b < B) : LocalP B (fun W => At W b t cs) := fun _ _ hs hg => (hg.block b hb (At.lt hs)).trans hs
theorem wp_rangeIx4 {g : Operand} {ps : Array Tmp} {asg bdy : Code} {Q : Exit → Act → World → Prop} {a : Act} {w : World} {gf : Nat} {lb : Array Value}
    (hg : a.eval g = .func (.func gf) #[] lb) (eg : ∀ args w, (callFunc gf args).run P w = .ok (.enter gf args) w)
    {encs : Nat → Array Value} {N : Nat} {Need : Nat → World → Prop} (hit : IterIx Fence.wide 4 P gf lb encs N (fun _ => False) Need) (hps : ∀ k, (encs k).size = ps.size)
    (T : TypeId) (cs : Nat → Array Value)
    (J : Nat → World → Prop) (Jx : Code → Nat → World → Prop)
    (hJ : ∀ k, LocalP w.heap.size (J k)) (hJx : ∀ c k, LocalP w.heap.size (Jx c k)) (hN : ∀ k, LocalP w.heap.size (Need k)) (h0 : J 0 w) (hn0 : Need 0 w) (A1 : Nat → Nat → Act)
    (assign : ∀ (l k : Nat) (W : World) (K : Act → World → Prop), k < N → (∀ p W', p = W.heap.size → Below W.heap.size W W' → At W' p T (cs k) → K (A1 k p) W') →
      asg.wpIn (Fence.wide.inRound l) 3 P (Exit.then K (fun _ _ _ => False)) { tmps := (ps.zip (encs k)).foldl (fun t (p, v) => t.setIfInBounds p v) a.tmps, defers := [] } W)
    (body : ∀ (l k p : Nat) (W : World), k < N → J k W → Need k W → At W p T (cs k) → bdy.wpIn (Fence.wide.inRound l) 3 P (roundIx w.heap.size J Jx Need k W) (A1 k p) W)
    (done : ∀ (D : Nat) (W : World), w.heap.size ≤ D → J N W → W.heap[D]? = some (.deferred (some [])) → Q .normal { a with defers := { target := .collected D, args := #[] } :: a.defers } W)
    (stop : ∀ (D : Nat) (c : Code) (k : Nat) (W : World), w.heap.size ≤ D → k < N → Jx c k W → W.heap[D]? = some (.deferred (some [])) → c.wp P Q { a with defers := { target := .collected D, args := #[] } :: a.defers } W) :
    (Code.rangeFunc g ps asg bdy).wp P Q a w := by
  refine (wpIn_wide (n := 5)).1 ?_
  exact wpIn_rangeIx rfl (by decide) hg trivial eg hit (fun r h => h.elim) hps J Jx (fun k a' W => ∃ p, a' = A1 k p ∧ At W p T (cs k))
    (LocalP.own hJ) (fun c => LocalP.own (hJx c)) (LocalP.own hN)
    (fun a' k W W' row hs hgr hr => by
      obtain ⟨p, he, hA⟩ := hs
      refine ⟨p, he, (hgr.block p hA.lt (fun e => ?_)).trans hA⟩
      obtain ⟨_, o, ho, hc⟩ := hr p e.symm
      have : some (Obj.cells (cs k) T (0, 0)) = some o := hA.symm.trans ho
      injection this with this
      subst this
      cases hc)
    (fun k A C hs ht => (hJ k).turns hs ht) (fun c k A C hs ht => (hJx c k).turns hs ht) h0 hn0
    (fun l k W K hk hj hn hK => assign l k W K hk (fun p W' _ hb hA => hK _ _ (Below.keeps hb) ((hJ k).bel hj hb) ((hN k).bel hn hb) ⟨p, rfl, hA⟩))
    (fun l k a' W hk hj hn ha => by obtain ⟨p, rfl, hA⟩ := ha; exact body l k p W hk hj hn hA)
    done (fun D c k W h1 h2 h3 h4 => wpIn_wide.2 (stop D c k W h1 h2 h3 h4))
end Go.Proofs.YtnbmmhoofilmfaaGreatDoor

/- XMove2's law within a fence (in a round too), for regions that read and store. -/
namespace Go.Proofs.YtnbmmhoofilmfaaGreatDoor.Mv
open Go.RowKit Go.Proofs.YtnbmmhoofilmfaaGreatDoor
set_option linter.unusedVariables false
/-- no calls -/
def tame (o : Oper) : Bool := match o.op with | .store _ _ _ => true | _ => plainOp o
section
variable {F : Fence} {m : Nat} {P : Program} {ops : Array Oper} {md : Region.Mode} {σ : Type} {C : σ → World → Prop}
theorem tame_no_enter {o : Oper} (ho : tame o = true) (a : Act) (w : World) (f : FuncId) (args : Array Value) (w' : World) : (execOp a.eval o).run P w ≠ .ok (.enter f args) w' := by
  unfold tame at ho
  split at ho
  · rename_i ty x y hop
    unfold execOp
    simp only [hop, Sem.run_bind]
    intro h
    cases hr : (Instr.storeAt ty (a.eval x) (a.eval y)).run P w with
    | ok u w1 => rw [hr] at h; simp [Result.andThen, Sem.run_pure] at h
    | halt e w1 => rw [hr] at h; simp [Result.andThen] at h
  · exact plain_no_enter ho a w f args w'
theorem tame_no_call {o : Oper} (ho : tame o = true) (c) : o.op ≠ .call c := by
  intro h; unfold tame at ho; rw [h] at ho; unfold plainOp at ho; rw [h] at ho; cases ho
theorem tame_no_defer {o : Oper} (ho : tame o = true) (c) : o.op ≠ .defer c := by
  intro h; unfold tame at ho; rw [h] at ho; unfold plainOp at ho; rw [h] at ho; cases ho
theorem wpOpIn_of_lin (ht : ops.all tame = true) {i : Nat} {s : σ} {a : Act} {K : σ → Act → Prop} {K' : Act → World → Prop} {Q' : Exit → Act → World → Prop} {w : World} (hC : C s w) (h : ∀ s a w', C s w' → K s a → K' a w') (hh : linOp P ops C i K s a) : wpOpIn F m P ops Q' i K' a w := by
  unfold linOp at hh
  unfold wpOpIn
  split
  · rename_i ho; simp only [ho] at hh; exact h _ _ _ hC hh
  · rename_i o ho
    simp only [ho] at hh
    have hta : tame o = true := by
      rw [Array.all_eq_true_iff_forall_mem] at ht
      exact ht o (Array.mem_of_getElem? ho)
    have hab : ∀ f, o.about P w a.eval = some f → F.fn f := by
      intro f hf
      unfold Oper.about at hf
      split at hf
      · rename_i c hc; exact absurd hc (tame_no_call hta c)
      · cases hf
    rcases hh with ⟨hw, hy⟩ | ⟨hw, hk⟩
    · simp only [hw, if_true]
      unfold Oper.wpIn
      refine ⟨hab, ?_⟩
      rw [Oper.semAt_plain F _ _ (tame_no_defer hta)]
      have hne := fun f args w' => tame_no_enter (P := P) hta a w f args w'
      rcases hy with ⟨_, hk⟩ | ⟨_, v, hs, hk⟩
      · have h3 := hk w hC
        generalize (execOp a.eval o).run P w = r at *
        cases r with
        | ok n w' =>
          cases n <;> simp only [movesUpon] at h3 <;> simp only [Oper.uponIn]
          · obtain ⟨s', h4, h5⟩ := h3; exact h _ _ _ h4 h5
          · obtain ⟨s', h4, h5⟩ := h3; exact h _ _ _ h4 h5
          · exact absurd rfl (hne _ _ _)
        | halt x w' => simp only [movesUpon] at h3
      · have h3 := hs w ⟨_, hC⟩
        generalize (execOp a.eval o).run P w = r at *
        cases r with
        | ok n w' =>
          cases n <;> simp only [stillUpon] at h3 <;> simp only [Oper.uponIn]
          · obtain ⟨rfl, rfl⟩ := h3; exact h _ _ _ hC hk
          · obtain ⟨rfl, rfl⟩ := h3; exact h _ _ _ hC hk
        | halt x w' => simp only [stillUpon] at h3
    · rw [if_neg (by rw [hw]; decide)]
      exact ⟨hab, h _ _ _ hC hk⟩
theorem wpAnyIn_of_lin (ht : ops.all tame = true) {Q : σ → Act → Prop} {Q' : Exit → Act → World → Prop} (hQ : ∀ s a w, C s w → Q s a → Q' .normal a w) : ∀ (fuel : Nat) (listed : Array Bool) (s : σ) (a : Act) (w : World), C s w →
    wpAnyL P md ops C Q fuel listed s a → wpAnyIn F m P md ops Q' fuel listed a w
  | 0, _, _, _, _, hw, h => ⟨h.1, hQ _ _ _ hw h.2⟩
  | fuel + 1, _, _, _, _, hw, h => ⟨fun h0 => hQ _ _ _ hw (h.1 h0), fun i hi => wpOpIn_of_lin ht hw (fun s' a' w' hw' => wpAnyIn_of_lin ht hQ fuel _ s' a' w' hw') (h.2 i hi)⟩
theorem wpIn_region_mc (C : σ → World → Prop) (s : σ) {id : Nat} {Q : Exit → Act → World → Prop} {a : Act} {w : World} {l : List Oper} (hm : P.follows .mixedOrders = true) (hB : Region.lexB .any l.toArray = true) (hch : chainC .any l.toArray = true) (ht : l.toArray.all tame = true) (hC : C s { w with drawn := w.drawn + 1 })
    (h : Nonempty (InW fun w => ∃ s, C s w) → wpLin P l.toArray C (fun s a' => ∀ w', C s w' → Q .normal a' w') l s a) : (Code.region id l.toArray true).wpIn F m P Q a w := by
  simp only [Region.lexB, Bool.and_eq_true] at hB
  refine wpIn_region_any hm (wpAnyIn_of_lin ht (Q := fun s a' => ∀ w', C s w' → Q .normal a' w') (fun _ _ w' hw' h => h w' hw') _ _ s _ _ hC ?_)
  have := wpAnyL_lexC (C := C) (md := .any) calls_some hch hB.1 l 0 (Array.replicate l.toArray.size false) s a ⟨_, hC⟩ (fun j oj hj hl => by
      rcases Nat.lt_or_ge j l.toArray.size with h' | h'
      · rw [List.size_toArray] at h'; simp [h'] at hl
      · rw [List.size_toArray] at h'; simp [h'] at hl) (fun j hj => by omega) (by simp) (by simpa using hB.2) (h ⟨⟨_, s, hC⟩⟩)
  simpa using this
/-- one cell is stored -/
theorem lin_store1 {Q : σ → Act → Prop} {s : σ} {o : Oper} {rest : List Oper} {a : Act} (hw : Region.wanted o (yielded ops a.tmps) = true) (ty : TypeId) (x y : Operand) (ho : o.op = .store ty x y)
    (b off : Nat) (v : Value) (hx : a.eval x = .pointer (some ⟨b, off, none⟩)) (hy : a.eval y = v) (hi : (P.info? ty).map (·.size) = some 1) (h1 : v.oneCell' = true) (s' : σ)
    (hc : ∀ w, C s w → (∃ u, w.cell? ⟨b, off, none⟩ = some u) ∧ w.frozen? ⟨b, off, none⟩ = false ∧ C s' (w.setCell ⟨b, off, none⟩ v))
    (hk : wpLin P ops C Q rest s' (a.put o.dst undef)) : wpLin P ops C Q (o :: rest) s a :=
  lin_move hw (by unfold mv plainOp; rw [ho]; rfl) fun w hC => by
    obtain ⟨⟨u, hu⟩, hf, hC'⟩ := hc w hC
    unfold execOp
    simp only [ho, hx, hy, Instr.storeAt, Instr.sureAddr, Sem.run_bind, Sem.run_pure, Result.andThen_ok, run_storeVar1 w b off ty u v hu hf hi h1]
    exact ⟨s', hC', hk⟩
end
end Go.Proofs.YtnbmmhoofilmfaaGreatDoor.Mv

/- geo.What. -/
namespace Go.Proofs.YtnbmmhoofilmfaaGreatDoor
open Go.RowKit
set_option linter.unusedVariables false
attribute [local go_sem] Oper.semAt_some

def outB (G S I J x : Int) : Bool := decide (0 ≤ x) && (decide (x < nBl G S I J) && (decide (x < 2) || decide (2 + J ≤ x)))
theorem ptF_form {g : Nat} {S t J : Int} (h1 : 16 ≤ S) (h2 : S ≤ 512) (h3 : 0 ≤ t) (h4 : 3 + t ≤ S) (h5 : 40 ≤ J) (h6 : J ≤ 256) (hg : g ≤ 4) (k : Nat) (hk : k < 3 + 4 * g) :
    ∃ K Gg Fr Sz Pl : Int, ptF S t J k = pcells K Gg Fr Sz Pl ∧ (0 ≤ Fr ∧ 0 ≤ Sz ∧ Fr + Sz ≤ 2 + J + g * S ∧ 0 ≤ Pl ∧ Pl ≤ 512 ∧ Fr + Sz ≤ 4000 ∧ 0 ≤ K ∧ K ≤ 7) ∧
      (k = 0 ∧ Fr + Sz = 1 ∧ K = 1 ∨ k = 1 ∧ Fr + Sz = 2 ∧ K = 2 ∨ k = 2 ∧ Fr + Sz = 2 + J ∧ K = 3 ∨ 3 ≤ k ∧ 2 + J ≤ Fr + Sz ∧ 4 ≤ K ∧ K ≤ 7 ∧ (k + 1 = 3 + 4 * g → Fr + Sz = 2 + J + g * S)) := by
  have hgs0 : 0 ≤ (g : Int) * S := Int.mul_nonneg (by omega) (by omega)
  have hgs1 : (g : Int) * S ≤ 4 * 512 := Int.mul_le_mul (by omega) h2 (by omega) (by omega)
  by_cases c0 : k = 0
  · subst c0; exact ⟨1, 0, 0, 1, 0, rfl, by omega, by omega⟩
  by_cases c1 : k = 1
  · subst c1; exact ⟨2, 0, 1, 1, 0, rfl, by omega, by omega⟩
  by_cases c2 : k = 2
  · subst c2; exact ⟨3, 0, 2, J, 0, rfl, by omega, by omega⟩
  obtain ⟨γ, i, hi, rfl⟩ : ∃ γ i, i < 4 ∧ k = 3 + 4 * γ + i := ⟨(k - 3) / 4, (k - 3) % 4, by omega, by omega⟩
  have hγ : γ + 1 ≤ g := by omega
  have hm0 : 0 ≤ (γ : Int) * S := Int.mul_nonneg (by omega) (by omega)
  have hm1 : ((γ : Int) + 1) * S ≤ (g : Int) * S := Int.mul_le_mul_of_nonneg_right (by omega) (by omega)
  rw [Int.add_mul, Int.one_mul] at hm1
  have hlast : γ + 1 = g → (γ : Int) * S + S = (g : Int) * S := fun e => by rw [← e]; rw [show ((γ + 1 : Nat) : Int) = (γ : Int) + 1 by omega, Int.add_mul, Int.one_mul]
  rw [ptF_at S t J γ hi]
  generalize (γ : Int) * S = a at *
  generalize (g : Int) * S = b at *
  have : i = 0 ∨ i = 1 ∨ i = 2 ∨ i = 3 := by omega
  rcases this with rfl | rfl | rfl | rfl
  · exact ⟨4, γ, 2 + J + a, 1, 0, rfl, by omega, by omega⟩
  · exact ⟨5, γ, 2 + J + a + 1, 1, 1, rfl, by omega, by omega⟩
  · exact ⟨6, γ, 2 + J + a + 2, t, 2, rfl, by omega, by omega⟩
  · refine ⟨7, γ, 2 + J + a + 2 + t, S - 2 - t, 2 + t, rfl, by omega, .inr (.inr (.inr ⟨by omega, by omega, by omega, by omega, fun e => ?_⟩))⟩
    have := hlast (by omega)
    omega
theorem At.setCell {w : World} {g : Nat} {T : TypeId} {cs : Array Value} (h : At w g T cs) (i : Nat) (v : Value) : At (w.setCell ⟨g, i, none⟩ v) g T (cs.setIfInBounds i v) := by
  obtain ⟨hlt, hk⟩ := Array.getElem?_eq_some_iff.1 h
  show (w.heap.modify g _)[g]? = _
  rw [Array.getElem?_eq_getElem (by rw [Array.size_modify]; exact hlt), Array.getElem_modify_self, hk]
  rfl
structure WhS (w : World) (G S I J x K A B : Int) (W : World) : Prop where
  g : At W w.heap.size 23 (gcells G S I J)
  x : At W (w.heap.size + 1) 3 #[.int .i64 x]
  k : At W (w.heap.size + 2) 5 #[.int .u8 K]
  a : At W (w.heap.size + 3) 3 #[.int .i64 A]
  b : At W (w.heap.size + 4) 3 #[.int .i64 B]
  bel : Below w.heap.size w W
section
variable {w : World} {G S I J x K A B : Int} {W W' : World}
theorem WhS.below (h : WhS w G S I J x K A B W) (hb : Below W.heap.size W W') : WhS w G S I J x K A B W' := ⟨h.g.below hb h.g.lt, h.x.below hb h.x.lt, h.k.below hb h.k.lt, h.a.below hb h.a.lt, h.b.below hb h.b.lt, h.bel.trans (hb.mono h.bel.size)⟩
theorem WhS.sz (h : WhS w G S I J x K A B W) : w.heap.size + 5 ≤ W.heap.size := h.b.lt
theorem WhS.setK (h : WhS w G S I J x K A B W) (v : Int) : WhS w G S I J x v A B (W.setCell ⟨w.heap.size + 2, 0, none⟩ (.int .u8 v)) :=
  have ho := Only.setCell W ⟨w.heap.size + 2, 0, none⟩ (.int .u8 v)
  ⟨h.g.only ho (by simp), h.x.only ho (by simp), h.k.setCell 0 _, h.a.only ho (by simp), h.b.only ho (by simp), h.bel.trans (ho.below (by simp))⟩
theorem WhS.setA (h : WhS w G S I J x K A B W) (v : Int) : WhS w G S I J x K v B (W.setCell ⟨w.heap.size + 3, 0, none⟩ (.int .i64 v)) :=
  have ho := Only.setCell W ⟨w.heap.size + 3, 0, none⟩ (.int .i64 v)
  ⟨h.g.only ho (by simp), h.x.only ho (by simp), h.k.only ho (by simp), h.a.setCell 0 _, h.b.only ho (by simp), h.bel.trans (ho.below (by simp))⟩
theorem WhS.setB (h : WhS w G S I J x K A B W) (v : Int) : WhS w G S I J x K A v (W.setCell ⟨w.heap.size + 4, 0, none⟩ (.int .i64 v)) :=
  have ho := Only.setCell W ⟨w.heap.size + 4, 0, none⟩ (.int .i64 v)
  ⟨h.g.only ho (by simp), h.x.only ho (by simp), h.k.only ho (by simp), h.a.only ho (by simp), h.b.setCell 0 _, h.bel.trans (ho.below (by simp))⟩
theorem WhS.loc {B0 : Nat} (hB : w.heap.size + 5 ≤ B0) : LocalP B0 (WhS w G S I J x K A B) := fun A' C hs hg =>
  ⟨LocalP.at _ _ (by omega) A' C hs.g hg, LocalP.at _ _ (by omega) A' C hs.x hg, LocalP.at _ _ (by omega) A' C hs.k hg, LocalP.at _ _ (by omega) A' C hs.a hg, LocalP.at _ _ (by omega) A' C hs.b hg, LocalP.below w (by omega) (Nat.le_refl _) A' C hs.bel hg⟩
end
theorem parts_any (G S I J : Int) (w : World) : Calls Tryz.prog 52 #[gval G S I J] w fun e w' => e = .returned (.func (.func 109) #[] #[.pointer (some ⟨w.heap.size, 0, none⟩)]) ∧ At w' w.heap.size 23 (gcells G S I J) ∧ Below w.heap.size w w' := by
  have hA := Lib.hid (At.new w 23 (gcells G S I J))
  have hL : Hid (Below w.heap.size w (w.alloc (.cells (gcells G S I J) 23))) := (Below.refl _ _).alloc (Nat.le_refl _) _
  go_enter Tryz.func52, Tryz.ntmps52
  go_wp2_with fail
  go_ret
  exact ⟨rfl, hA.out, hL.out⟩
/-- while a round returns -/
structure WhC (w : World) (G S I J x K A B : Int) (p : Nat) (cs : Array Value) (B0 : Nat) (W0 : World) (t : Mv.St) (W : World) : Prop where
  s : WhS w G S I J x (if t.n ≥ 1 then K else 0) (if t.n ≥ 2 then A else 0) (if t.n ≥ 3 then B else 0) W
  p : At W p 126 cs
  keep : KeepsFrom B0 W0 W
section
variable {w : World} {G S I J x K A B : Int} {p : Nat} {cs : Array Value} {B0 : Nat} {W0 W : World}
theorem At.unlike {W : World} {p q : Nat} {T U : TypeId} {cs ds : Array Value} (h : At W p T cs) (k : At W q U ds) (hT : T ≠ U) : p ≠ q := by
  intro e
  subst e
  have := h.symm.trans k
  injection this with this
  injection this with _ h2 _
  exact hT h2
theorem WhC.s1 (h : WhC w G S I J x K A B p cs B0 W0 ⟨0, undef⟩ W) : WhC w G S I J x K A B p cs B0 W0 ⟨1, undef⟩ (W.setCell ⟨w.heap.size + 2, 0, none⟩ (.int .u8 K)) :=
  have ho := Only.setCell W ⟨w.heap.size + 2, 0, none⟩ (.int .u8 K)
  ⟨h.s.setK K, h.p.only ho (At.unlike h.p h.s.k (by decide)), h.keep.trans (ho.keeps (h.s.k.cell (i := 0) rfl))⟩
theorem WhC.s2 (h : WhC w G S I J x K A B p cs B0 W0 ⟨1, undef⟩ W) : WhC w G S I J x K A B p cs B0 W0 ⟨2, undef⟩ (W.setCell ⟨w.heap.size + 3, 0, none⟩ (.int .i64 A)) :=
  have ho := Only.setCell W ⟨w.heap.size + 3, 0, none⟩ (.int .i64 A)
  ⟨h.s.setA A, h.p.only ho (At.unlike h.p h.s.a (by decide)), h.keep.trans (ho.keeps (h.s.a.cell (i := 0) rfl))⟩
theorem WhC.s3 (h : WhC w G S I J x K A B p cs B0 W0 ⟨2, undef⟩ W) : WhC w G S I J x K A B p cs B0 W0 ⟨3, undef⟩ (W.setCell ⟨w.heap.size + 4, 0, none⟩ (.int .i64 B)) :=
  have ho := Only.setCell W ⟨w.heap.size + 4, 0, none⟩ (.int .i64 B)
  ⟨h.s.setB B, h.p.only ho (At.unlike h.p h.s.b (by decide)), h.keep.trans (ho.keeps (h.s.b.cell (i := 0) rfl))⟩
end
theorem info_i64 : (Tryz.prog.info? 3).map (·.size) = some 1 := by kernel_rfl

end Go.Proofs.YtnbmmhoofilmfaaGreatDoor

/- paths.Level, paths.Span, paths.pointers, paths.First. -/
namespace Go.Proofs.YtnbmmhoofilmfaaGreatDoor
open Go.RowKit Go.Shelf
set_option linter.unusedVariables false

theorem pthLevel_any (q : Nat) (hq : q ≤ 10) (w : World) : Calls Tryz.prog 165 #[.int .i64 (q : Int)] w fun e w' => e = .returned (.int .i64 ((Im.lvl q : Nat) : Int)) ∧ w = w' := by
  have h1 : ¬ (q : Int) < 0 := by omega
  have h2 : ¬ (10 : Int) < (q : Int) := by omega
  by_cases h8 : q < 8
  · have h3 : (q : Int) < 8 := by omega
    have FIN : Hid (Im.lvl q = 0) := by show _ = _; unfold Im.lvl; rw [if_pos h8]
    go_enter Tryz.func165, Tryz.ntmps165
    go_wp2_with fail
    go_ret
    exact ⟨by rw [FIN.out]; rfl, rfl⟩
  · have h3 : ¬ (q : Int) < 8 := by omega
    have FIN : Hid ((q : Int) - 8 + 1 = ((Im.lvl q : Nat) : Int)) := by show _ = _; unfold Im.lvl; rw [if_neg h8]; omega
    go_enter Tryz.func165, Tryz.ntmps165
    go_wp2_with fail
    go_ret
    exact ⟨by rw [← FIN.out]; rfl, rfl⟩
theorem pthSpan_any (l : Nat) (hl : l ≤ 3) (w : World) : Calls Tryz.prog 176 #[.int .i64 (l : Int)] w fun e w' => e = .returned (.int .i64 ((Im.spn l : Nat) : Int)) ∧ w = w' := by
  obtain rfl | rfl | rfl | rfl : l = 0 ∨ l = 1 ∨ l = 2 ∨ l = 3 := by omega
  · go_enter Tryz.func176, Tryz.ntmps176
    go_wp2_with fail
    refine wp_loop_rounds 1 ?_
    rw [rounds_succ]
    go_wp2_with fail
    go_ret
    exact ⟨rfl, rfl⟩
  · go_enter Tryz.func176, Tryz.ntmps176
    go_wp2_with fail
    refine wp_loop_rounds 2 ?_
    rw [rounds_succ]
    go_wp2_with fail
    rw [rounds_succ]
    go_wp2_with fail
    go_ret
    exact ⟨rfl, rfl⟩
  · go_enter Tryz.func176, Tryz.ntmps176
    go_wp2_with fail
    refine wp_loop_rounds 3 ?_
    rw [rounds_succ]
    go_wp2_with fail
    rw [rounds_succ]
    go_wp2_with fail
    rw [rounds_succ]
    go_wp2_with fail
    go_ret
    exact ⟨rfl, rfl⟩
  · go_enter Tryz.func176, Tryz.ntmps176
    go_wp2_with fail
    refine wp_loop_rounds 4 ?_
    rw [rounds_succ]
    go_wp2_with fail
    rw [rounds_succ]
    go_wp2_with fail
    rw [rounds_succ]
    go_wp2_with fail
    rw [rounds_succ]
    go_wp2_with fail
    go_ret
    exact ⟨rfl, rfl⟩
/-- the first index that hangs on a pointer, as far as behind the last one -/
def fstX (k : Nat) : Nat := if k < 9 then k else if k = 9 then 72 else if k = 10 then 4168 else 266312
theorem fstX_step {k : Nat} (hk : k < 11) : (fstX k : Int) + (Im.spn (Im.lvl k) : Nat) = (fstX (k + 1) : Nat) := by
  have : k = 0 ∨ k = 1 ∨ k = 2 ∨ k = 3 ∨ k = 4 ∨ k = 5 ∨ k = 6 ∨ k = 7 ∨ k = 8 ∨ k = 9 ∨ k = 10 := by omega
  rcases this with rfl | rfl | rfl | rfl | rfl | rfl | rfl | rfl | rfl | rfl | rfl <;> decide
theorem fstX_bd (k : Nat) : fstX k ≤ 266312 := by
  unfold fstX; split
  · omega
  · split
    · omega
    · split <;> omega
theorem lvl_bd {k : Nat} (hk : k < 11) : Im.lvl k ≤ 3 := by unfold Im.lvl; split <;> omega
theorem spn_bd {l : Nat} (hl : l ≤ 3) : 1 ≤ Im.spn l ∧ Im.spn l ≤ 262144 := by
  obtain rfl | rfl | rfl | rfl : l = 0 ∨ l = 1 ∨ l = 2 ∨ l = 3 := by omega
  all_goals decide
def ptEnc (k : Nat) : Array Value := #[.int .i64 (k : Int), .int .i64 ((fstX k : Nat) : Int)]
set_option maxRecDepth 100000 in
set_option maxHeartbeats 4000000 in
theorem pointers_iter (n : Nat) (hn : 1 ≤ n) : IterIx Fence.wide n Tryz.prog 199 #[] ptEnc 11 (fun _ => False) (fun _ _ => True) := by
  intro l J Jx W _ _ hY h0 hN
  have HY := Lib.hid hY
  clear hY
  refine callsIn_of_wp Tryz.func199 rfl trivial ?_ rfl
  simp only [Tryz.ntmps199, List.size_toArray, List.length_cons, List.length_nil, Nat.reduceAdd, Nat.reduceSub, Array.replicate_succ, Array.replicate_zero, List.push_toArray, List.append_toArray, List.nil_append, List.cons_append]
  gi_wp2
  gi_loopw [2, 4] (fun f i wr => ∃ k : Nat, k ≤ 11 ∧ i = .int .i64 (k : Int) ∧ f = .int .i64 ((fstX k : Nat) : Int) ∧ J k wr) (fun _ i _ => 11 - (intOf i).toNat)
  case atStart => exact ⟨0, Nat.zero_le _, rfl, rfl, h0⟩
  case round =>
    obtain ⟨k, hk, rfl, rfl, hJ⟩ := hrel
    by_cases hlt : k < 11
    · obtain ⟨fn, tmps, assign, body, hy, hR⟩ := HY.out k wr hlt hJ trivial
      dsimp only [ptEnc] at hy
      have hlt' : (k : Int) < 11 := by omega
      gi_wp2
      refine hR.mono ?_
      clear hR hy
      rintro e W3 (⟨rfl, hJ3, hN3⟩ | ⟨rfl, hJx3⟩)
      · gi_wp2_with (first | (refine ⟨trivial, ?_⟩; gi_at_call 165; refine (callsIn_wide.2 (pthLevel_any k (by omega) _)).mono ?_; rintro e w' ⟨rfl, rfl⟩) | (refine ⟨trivial, ?_⟩; gi_at_call 176; refine (callsIn_wide.2 (pthSpan_any (Im.lvl k) (lvl_bd hlt) _)).mono ?_; rintro e w' ⟨rfl, rfl⟩))
        go_roundw
        case rel => exact ⟨k + 1, by omega, by go_num, by (refine int_eq ?_; rw [IntWalk.wrap64_in _ (by have h1 := fstX_step hlt; have h2 := fstX_bd (k + 1); omega)]; exact fstX_step hlt), hJ3⟩
        case measure => simp [intOf]; omega
      · gi_wp2
        refine bodyPost_ret (results_none rfl _ _ _) rfl ?_
        exact ⟨⟨_, rfl⟩, .inr ⟨k, hlt, hJx3⟩⟩
    · obtain rfl : k = 11 := by omega
      gi_wp2
      refine bodyPost_end (results_none rfl _ _ _) rfl ?_
      exact ⟨⟨_, rfl⟩, .inl hJ⟩
end Go.Proofs.YtnbmmhoofilmfaaGreatDoor

/- pack.may. -/
namespace Go.Proofs.YtnbmmhoofilmfaaGreatDoor
open Go.RowKit
set_option linter.unusedVariables false

end Go.Proofs.YtnbmmhoofilmfaaGreatDoor

/- pack.withRevokes, pack.withCommit. -/
namespace Go.Proofs.YtnbmmhoofilmfaaGreatDoor
open Go.RowKit
set_option linter.unusedVariables false

end Go.Proofs.YtnbmmhoofilmfaaGreatDoor

/- pack.withCommit. -/
namespace Go.Proofs.YtnbmmhoofilmfaaGreatDoor
open Go.RowKit
set_option linter.unusedVariables false

end Go.Proofs.YtnbmmhoofilmfaaGreatDoor

/- pack.withCopies. -/
namespace Go.Proofs.YtnbmmhoofilmfaaGreatDoor
open Go.RowKit
set_option linter.unusedVariables false

theorem RRow.only {W W' : World} {a : Option Addr} {m n p : Nat} {f : Nat → List Value} (h : RRow W a m n f) (ho : Only p W W') (hne : ∀ b off, a = some ⟨b, off, none⟩ → b ≠ p) : RRow W' a m n f := by
  rcases h with h | ⟨b, off, rfl, h⟩
  · exact .inl h
  · exact .inr ⟨b, off, rfl, fun i hi j v hj => (ho.cell (p := ⟨b, off + i * m + j, none⟩) (hne b off rfl)).trans (h i hi j v hj)⟩
end Go.Proofs.YtnbmmhoofilmfaaGreatDoor

/- Transactions' blocks: row by row. No walk. -/
namespace Go.Proofs.YtnbmmhoofilmfaaGreatDoor
open Go.RowKit
set_option linter.unusedVariables false

theorem zero_bytJ : Byt (fun _ => 0) := fun _ => ⟨Int.le_refl 0, (by decide : (0 : Int) < 256)⟩
end Go.Proofs.YtnbmmhoofilmfaaGreatDoor

/- Two rows of blocks: are they the same? slices.Equal, quernref15.SameBlocks. Printed by gen_pksame.py. -/
namespace Go.Proofs.YtnbmmhoofilmfaaGreatDoor
open Go.RowKit
set_option linter.unusedVariables false

/-- the first so many blocks are the same -/
def eqBs (B C : Nat → Nat → Int) : Nat → Bool
  | 0 => true
  | k + 1 => eqBs B C k && eqB (B k) (C k) 256
def sameB (B C : Nat → Nat → Int) (n m : Nat) : Bool := (n == m) && eqBs B C n

end Go.Proofs.YtnbmmhoofilmfaaGreatDoor

/- pack.Pack. -/
namespace Go.Proofs.YtnbmmhoofilmfaaGreatDoor
open Go.RowKit Go.Shelf
set_option linter.unusedVariables false
attribute [local go_sem] Oper.semAt_some

section
variable {w : World} {t : Tr} {ca : Option Addr} {cc : Nat} {ra : Option Addr} {rc q p5 p6 cnt cap : Nat} {W W' : World}
end
theorem At.grownQ {W W1 : World} {q g : Nat} {T : TypeId} {cs : Array Value} (h : At W g T cs) (hg : W.grownBy W1 (some q)) (hne : g ≠ q) : At W1 g T cs := (hg.block _ h.lt (by intro e; injection e with e; exact hne e)).trans h
end Go.Proofs.YtnbmmhoofilmfaaGreatDoor

/- What pack.parse tells, plainly; its memory. -/
namespace Go.Proofs.YtnbmmhoofilmfaaGreatDoor
open Go.RowKit
set_option linter.unusedVariables false

/-- k copies more: from block u on, by the tags -/
def addC (t : Tr) (L : Nat → Nat → Int) (u k : Nat) (tb : Nat → Int) (te : Nat → Bool) : Tr :=
  ⟨t.s, t.n + k, fun i => if i < t.n then t.cb i else if i < t.n + k then tb (i - t.n) else 0,
    fun i => if i < t.n then t.cd i else if i < t.n + k then (if te (i - t.n) = true then unescZ (L (u + (i - t.n))) else L (u + (i - t.n))) else (fun _ => 0), t.m, t.rv⟩
/-- k revoked blocks more -/
def addR (t : Tr) (k : Nat) (m : Nat → Int) : Tr := ⟨t.s, t.n, t.cb, t.cd, t.m + k, fun i => if i < t.m then t.rv i else if i < t.m + k then m (i - t.m) else 0⟩
def tr0 (s : Int) : Tr := ⟨s, 0, fun _ => 0, fun _ _ => 0, 0, fun _ => 0⟩
/-- blocks read up to the first commit block -/
def prs (L : Nat → Nat → Int) (N : Nat) (s : Int) : Nat → Nat → Tr → Option (Tr × Nat)
  | 0, _, _ => none
  | f + 1, u, t =>
    if u < N then
      if seqOf (L u) = s then
        if kindOf (L u) = 1 then
          if descRd (L u) = true ∧ rowsN (L u) ≤ N - (u + 1) then prs L N s f (u + 1 + rowsN (L u)) (addC t L (u + 1) (rowsN (L u)) (descT (L u)) (jdE (L u))) else none
        else if kindOf (L u) = 3 then
          if revRd (L u) = true then prs L N s f (u + 1) (addR t (rowsN (L u)) (revM (L u))) else none
        else if kindOf (L u) = 2 then some (t, u + 1) else none
      else none
    else none
section
variable {w : World} {la : Option Addr} {N : Nat} {L : Nat → Nat → Int} {n m : Nat} {s : Int} {cb : Nat → Int} {cd : Nat → Nat → Int} {rv : Nat → Int} {ca : Option Addr} {cc : Nat} {ra : Option Addr} {rc : Nat} {W W' : World}
end
theorem AtGrown {W W1 : World} {g : Nat} {T : TypeId} {cs : Array Value} {row : Option Nat} (h : At W g T cs) (hg : W.grownBy W1 row) (hne : row ≠ some g) : At W1 g T cs := (hg.block _ h.lt (fun e => hne e.symm)).trans h
theorem info_int3 : (Tryz.prog.info? 3).map (fun i => (i.zero, i.size, i.bytes)) = some (some (.int .i64 0), 1, 8) := by kernel_rfl
theorem info_intP : ∃ i, Tryz.prog.info? 3 = some i ∧ i.zero = some (.int .i64 0) ∧ i.size = 1 ∧ i.bytes = 8 := by
  obtain ⟨i, hi, hz⟩ := Option.map_eq_some_iff.1 info_int3
  simp only [Prod.mk.injEq] at hz
  exact ⟨i, hi, hz.1, hz.2.1, hz.2.2⟩
end Go.Proofs.YtnbmmhoofilmfaaGreatDoor

/- pack.parse. Printed by gen_pkparse.py. -/
namespace Go.Proofs.YtnbmmhoofilmfaaGreatDoor
open Go.RowKit
set_option linter.unusedVariables false

end Go.Proofs.YtnbmmhoofilmfaaGreatDoor

/- pack.Unpack. -/
namespace Go.Proofs.YtnbmmhoofilmfaaGreatDoor
open Go.RowKit
set_option linter.unusedVariables false

/-- what Unpack tells -/
def unp (L : Nat → Nat → Int) (N : Nat) (s : Int) : Option (Tr × Nat) :=
  match prs L (min N 255) s (min N 255) 0 (tr0 s) with
  | none => none
  | some (t, u) => if packE t = 0 ∧ sameB (pkB t) L (t.c + 1) u = true then some (t, u) else none
theorem unescB {z : Nat → Int} (hz : Byt z) : Byt (unescZ z) := byt_over hz (byt_byteOf _) _ _
/-- what is read fits its kinds -/
structure POk (t : Tr) (s : Int) (K : Nat) : Prop where
  s : t.s = s
  cb : ∀ i, 0 ≤ t.cb i ∧ t.cb i < 4294967296
  cd : ∀ i, Byt (t.cd i)
  rv : ∀ i, 0 ≤ t.rv i ∧ t.rv i < 4294967296
  n : t.n ≤ K
  m : t.m ≤ 60 * K
  cb0 : ∀ i, t.n ≤ i → t.cb i = 0
  rv0 : ∀ i, t.m ≤ i → t.rv i = 0
theorem POk.ok {t : Tr} {s : Int} {n : Nat} (h : POk t s n) (hs : 0 ≤ s ∧ s < 4294967296) (hn : n ≤ 255) : t.Ok :=
  ⟨by rw [h.s]; exact hs, fun i => by have := h.cb i; omega, h.cd, fun i => by have := h.rv i; omega, by have := h.n; omega, by have := h.m; omega, h.cb0, h.rv0⟩
theorem POk.addC {t : Tr} {s : Int} {n k u : Nat} {L : Nat → Nat → Int} {tb : Nat → Int} {te : Nat → Bool} (h : POk t s n) (hL : ∀ i, Byt (L i)) (htb : Wds tb) : POk (addC t L u k tb te) s (n + 1 + k) := by
  refine ⟨h.s, fun i => ?_, fun i => ?_, h.rv, by have := h.n; show t.n + k ≤ _; omega, by have := h.m; show t.m ≤ _; omega, fun i hi => ?_, h.rv0⟩
  · show 0 ≤ (if i < t.n then _ else if i < t.n + k then _ else _) ∧ (if i < t.n then _ else if i < t.n + k then _ else _) < _
    split
    · exact h.cb i
    · split
      · exact htb _
      · omega
  · show Byt (if i < t.n then _ else if i < t.n + k then _ else _)
    split
    · exact h.cd i
    · split
      · split
        · exact unescB (hL _)
        · exact hL _
      · exact zero_bytJ
  · show (if i < t.n then _ else if i < t.n + k then _ else _) = _
    have hi : t.n + k ≤ i := hi
    rw [if_neg (by omega), if_neg (by omega)]
theorem POk.addR {t : Tr} {s : Int} {n k : Nat} {m : Nat → Int} (h : POk t s n) (hk : k ≤ 60) (hm : Wds m) : POk (addR t k m) s (n + 1) := by
  refine ⟨h.s, h.cb, h.cd, fun i => ?_, by have := h.n; show t.n ≤ _; omega, by have := h.m; show t.m + k ≤ _; omega, h.cb0, fun i hi => ?_⟩
  · show 0 ≤ (if i < t.m then _ else if i < t.m + k then _ else _) ∧ (if i < t.m then _ else if i < t.m + k then _ else _) < _
    split
    · exact h.rv i
    · split
      · exact hm _
      · omega
  · show (if i < t.m then _ else if i < t.m + k then _ else _) = _
    have hi : t.m + k ≤ i := hi
    rw [if_neg (by omega), if_neg (by omega)]
theorem RRow.take {w : World} {a : Option Addr} {m n : Nat} {f : Nat → List Value} (h : RRow w a m n f) (k : Nat) (hk : k ≤ n) : RRow w a m k f := by
  rcases h with h | ⟨b, off, rfl, h⟩
  · exact .inl (by omega)
  · exact .inr ⟨b, off, rfl, fun i hi => h i (by omega)⟩

end Go.Proofs.YtnbmmhoofilmfaaGreatDoor

/- What is packed is read: the plain law. -/
namespace Go.Proofs.YtnbmmhoofilmfaaGreatDoor
open Go.RowKit
set_option linter.unusedVariables false

theorem seqB_bd {s : Int} (h : seqB s = true) : 1 ≤ s ∧ s ≤ 2147483648 := of_decide_eq_true h
theorem wds_eq {z l : Nat → Int} (hl : Wds l) (h : z = wz l) (k : Nat) : wd z k = l k := by rw [h]; exact wd_wz hl k
theorem nz_wds : Wds nz := nz_wds'
section
variable {t : Tr} {L : Nat → Nat → Int} {N : Nat}
end
end Go.Proofs.YtnbmmhoofilmfaaGreatDoor

/- 'copy(dst, src)' of elements of m cells each, dst in a row of one's own. No program in sight. -/
namespace Go.Proofs.YtnbmmhoofilmfaaGreatDoor
open Go.RowKit
set_option linter.unusedVariables false

end Go.Proofs.YtnbmmhoofilmfaaGreatDoor

/- ScanOutside. -/
namespace Go.Proofs.YtnbmmhoofilmfaaGreatDoor
open Go.RowKit
set_option linter.unusedVariables false

end Go.Proofs.YtnbmmhoofilmfaaGreatDoor

/- scan.turned, scan.outside. -/
namespace Go.Proofs.YtnbmmhoofilmfaaGreatDoor
open Go.RowKit
set_option linter.unusedVariables false

/-- the ring's blocks, from a place on -/
def ringL (L : Nat → Nat → Int) (j t k : Nat) : Nat → Int := L (3 + (t - 1 + k) % (j - 1))
end Go.Proofs.YtnbmmhoofilmfaaGreatDoor

/- scan.outside. -/
namespace Go.Proofs.YtnbmmhoofilmfaaGreatDoor
open Go.RowKit
set_option linter.unusedVariables false

/-- all of the first n -/
def allQ (p : Nat → Bool) : Nat → Bool
  | 0 => true
  | n + 1 => allQ p n && p n
/-- are all blocks that a transaction names outside of the journal? -/
def outT (G S I J : Int) (n : Nat) (cb : Nat → Int) (m : Nat) (rv : Nat → Int) : Bool := allQ (fun i => outB G S I J (cb i)) n && allQ (fun i => outB G S I J (rv i)) m
theorem rrow_old {W : World} {a : Option Addr} {m n : Nat} {f : Nat → List Value} (h : RRow W a m n f) (hf : ∀ i, (f i).length = m) (hm : 0 < m) : ∀ b off, a = some ⟨b, off, none⟩ → 0 < n → b < W.heap.size := fun b off e hn => by
  rcases h with h | ⟨b', off', e', h⟩
  · omega
  · rw [e] at e'
    injection e' with e'
    injection e' with e1 e2
    subst e1 e2
    obtain ⟨v, hv⟩ : ∃ v, (f 0)[0]? = some v := ⟨_, List.getElem?_eq_getElem (by rw [hf]; exact hm)⟩
    exact World.block_lt_of_cell? W _ (h 0 hn 0 v hv)

end Go.Proofs.YtnbmmhoofilmfaaGreatDoor
