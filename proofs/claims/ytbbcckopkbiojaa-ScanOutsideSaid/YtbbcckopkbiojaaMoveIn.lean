/- XMove2's law within a fence (in a round too), for regions that read and store. -/
import Derived.Test.YtbbcckopkbiojaaMove2
import Derived.OrdersIn
import Derived.OwnWalkIn
import Derived.Test.YtbbcckopkbiojaaStore
namespace Go.Proofs.Ytbbcckopkbiojaa.Mv
open Go.RowKit Go.Proofs.Ytbbcckopkbiojaa
set_option linter.unusedVariables false
/-- no calls -/
def tame (o : Oper) : Bool := match o.op with | .store _ _ _ => true | _ => plainOp o
section
variable {F : Fence} {m : Nat} {P : Program} {ops : Array Oper} {md : Region.Mode} {σ : Type} {C : σ → World → Prop}
theorem tame_no_enter {o : Oper} (ho : tame o = true) (a : Act) (w : World) (f : FuncId) (args : Array Value) (w' : World) : (execOp a.eval o).run P w ≠ .ok (.enter f args) w' := by
  unfold tame at ho
  split at ho
  · rename_i ty x y hop
    unfold execOp
    simp only [hop, Sem.run_bind]
    intro h
    cases hr : (Instr.storeAt ty (a.eval x) (a.eval y)).run P w with
    | ok u w1 => rw [hr] at h; simp [Result.andThen, Sem.run_pure] at h
    | halt e w1 => rw [hr] at h; simp [Result.andThen] at h
  · exact plain_no_enter ho a w f args w'
theorem tame_no_call {o : Oper} (ho : tame o = true) (c) : o.op ≠ .call c := by
  intro h; unfold tame at ho; rw [h] at ho; unfold plainOp at ho; rw [h] at ho; cases ho
theorem tame_no_defer {o : Oper} (ho : tame o = true) (c) : o.op ≠ .defer c := by
  intro h; unfold tame at ho; rw [h] at ho; unfold plainOp at ho; rw [h] at ho; cases ho
theorem wpOpIn_of_lin (ht : ops.all tame = true) {i : Nat} {s : σ} {a : Act} {K : σ → Act → Prop} {K' : Act → World → Prop} {Q' : Exit → Act → World → Prop} {w : World} (hC : C s w) (h : ∀ s a w', C s w' → K s a → K' a w') (hh : linOp P ops C i K s a) : wpOpIn F m P ops Q' i K' a w := by
  unfold linOp at hh
  unfold wpOpIn
  split
  · rename_i ho; simp only [ho] at hh; exact h _ _ _ hC hh
  · rename_i o ho
    simp only [ho] at hh
    have hta : tame o = true := by
      rw [Array.all_eq_true_iff_forall_mem] at ht
      exact ht o (Array.mem_of_getElem? ho)
    have hab : ∀ f, o.about P w a.eval = some f → F.fn f := by
      intro f hf
      unfold Oper.about at hf
      split at hf
      · rename_i c hc; exact absurd hc (tame_no_call hta c)
      · cases hf
    rcases hh with ⟨hw, hy⟩ | ⟨hw, hk⟩
    · simp only [hw, if_true]
      unfold Oper.wpIn
      refine ⟨hab, ?_⟩
      rw [Oper.semAt_plain F _ _ (tame_no_defer hta)]
      have hne := fun f args w' => tame_no_enter (P := P) hta a w f args w'
      rcases hy with ⟨_, hk⟩ | ⟨_, v, hs, hk⟩
      · have h3 := hk w hC
        generalize (execOp a.eval o).run P w = r at *
        cases r with
        | ok n w' =>
          cases n <;> simp only [movesUpon] at h3 <;> simp only [Oper.uponIn]
          · obtain ⟨s', h4, h5⟩ := h3; exact h _ _ _ h4 h5
          · obtain ⟨s', h4, h5⟩ := h3; exact h _ _ _ h4 h5
          · exact absurd rfl (hne _ _ _)
        | halt x w' => simp only [movesUpon] at h3
      · have h3 := hs w ⟨_, hC⟩
        generalize (execOp a.eval o).run P w = r at *
        cases r with
        | ok n w' =>
          cases n <;> simp only [stillUpon] at h3 <;> simp only [Oper.uponIn]
          · obtain ⟨rfl, rfl⟩ := h3; exact h _ _ _ hC hk
          · obtain ⟨rfl, rfl⟩ := h3; exact h _ _ _ hC hk
        | halt x w' => simp only [stillUpon] at h3
    · rw [if_neg (by rw [hw]; decide)]
      exact ⟨hab, h _ _ _ hC hk⟩
theorem wpAnyIn_of_lin (ht : ops.all tame = true) {Q : σ → Act → Prop} {Q' : Exit → Act → World → Prop} (hQ : ∀ s a w, C s w → Q s a → Q' .normal a w) : ∀ (fuel : Nat) (listed : Array Bool) (s : σ) (a : Act) (w : World), C s w →
    wpAnyL P md ops C Q fuel listed s a → wpAnyIn F m P md ops Q' fuel listed a w
  | 0, _, _, _, _, hw, h => ⟨h.1, hQ _ _ _ hw h.2⟩
  | fuel + 1, _, _, _, _, hw, h => ⟨fun h0 => hQ _ _ _ hw (h.1 h0), fun i hi => wpOpIn_of_lin ht hw (fun s' a' w' hw' => wpAnyIn_of_lin ht hQ fuel _ s' a' w' hw') (h.2 i hi)⟩
theorem wpIn_region_mc (C : σ → World → Prop) (s : σ) {id : Nat} {Q : Exit → Act → World → Prop} {a : Act} {w : World} {l : List Oper} (hm : P.follows .mixedOrders = true) (hB : Region.lexB .any l.toArray = true) (hch : chainC .any l.toArray = true) (ht : l.toArray.all tame = true) (hC : C s { w with drawn := w.drawn + 1 })
    (h : Nonempty (InW fun w => ∃ s, C s w) → wpLin P l.toArray C (fun s a' => ∀ w', C s w' → Q .normal a' w') l s a) : (Code.region id l.toArray true).wpIn F m P Q a w := by
  simp only [Region.lexB, Bool.and_eq_true] at hB
  refine wpIn_region_any hm (wpAnyIn_of_lin ht (Q := fun s a' => ∀ w', C s w' → Q .normal a' w') (fun _ _ w' hw' h => h w' hw') _ _ s _ _ hC ?_)
  have := wpAnyL_lexC (C := C) (md := .any) calls_some hch hB.1 l 0 (Array.replicate l.toArray.size false) s a ⟨_, hC⟩ (fun j oj hj hl => by
      rcases Nat.lt_or_ge j l.toArray.size with h' | h'
      · rw [List.size_toArray] at h'; simp [h'] at hl
      · rw [List.size_toArray] at h'; simp [h'] at hl) (fun j hj => by omega) (by simp) (by simpa using hB.2) (h ⟨⟨_, s, hC⟩⟩)
  simpa using this
/-- one cell is stored -/
theorem lin_store1 {Q : σ → Act → Prop} {s : σ} {o : Oper} {rest : List Oper} {a : Act} (hw : Region.wanted o (yielded ops a.tmps) = true) (ty : TypeId) (x y : Operand) (ho : o.op = .store ty x y)
    (b off : Nat) (v : Value) (hx : a.eval x = .pointer (some ⟨b, off, none⟩)) (hy : a.eval y = v) (hi : (P.info? ty).map (·.size) = some 1) (h1 : v.oneCell' = true) (s' : σ)
    (hc : ∀ w, C s w → (∃ u, w.cell? ⟨b, off, none⟩ = some u) ∧ w.frozen? ⟨b, off, none⟩ = false ∧ C s' (w.setCell ⟨b, off, none⟩ v))
    (hk : wpLin P ops C Q rest s' (a.put o.dst undef)) : wpLin P ops C Q (o :: rest) s a :=
  lin_move hw (by unfold mv plainOp; rw [ho]; rfl) fun w hC => by
    obtain ⟨⟨u, hu⟩, hf, hC'⟩ := hc w hC
    unfold execOp
    simp only [ho, hx, hy, Instr.storeAt, Instr.sureAddr, Sem.run_bind, Sem.run_pure, Result.andThen_ok, run_storeVar1 w b off ty u v hu hf hi h1]
    exact ⟨s', hC', hk⟩
end
end Go.Proofs.Ytbbcckopkbiojaa.Mv
