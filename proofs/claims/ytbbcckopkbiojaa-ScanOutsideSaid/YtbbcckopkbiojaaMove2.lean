/- As XMove's law, each mover bound to wait for the one ahead of it at however many steps (through plain operations too). -/
import Derived.Test.YtbbcckopkbiojaaMove
namespace Go.Proofs.Ytbbcckopkbiojaa.Mv
open Go.RowKit Go.Proofs.Ytbbcckopkbiojaa
set_option linter.unusedVariables false

def reachB (md : Region.Mode) (ops : Array Oper) : Nat → Nat → Nat → Bool
  | 0, _, _ => false
  | fuel + 1, j, i => match ops[j]? with
    | none => false
    | some oj => oj.after.any fun e => Region.binds md e && (e.on == i || reachB md ops fuel e.on i)
def chainC (md : Region.Mode) (ops : Array Oper) : Bool :=
  (List.range ops.size).all fun j => (List.range j).all fun i => match ops[j]?, ops[i]? with
    | some oj, some oi => !(mv oi && mv oj) || reachB md ops ops.size j i
    | _, _ => true
section
variable {P : Program} {ops : Array Oper} {md : Region.Mode} {σ : Type} {C : σ → World → Prop}
theorem chainC_spec (h : chainC md ops = true) {i j : Nat} {oi oj : Oper} (hi : ops[i]? = some oi) (hj : ops[j]? = some oj) (ci : mv oi = true) (cj : mv oj = true) (hij : i < j) : reachB md ops ops.size j i = true := by
  unfold chainC at h
  rw [List.all_eq_true] at h
  have h1 := h j (List.mem_range.2 (Array.getElem?_eq_some_iff.1 hj).1)
  rw [List.all_eq_true] at h1
  have h2 := h1 i (List.mem_range.2 hij)
  rw [hi, hj] at h2
  simpa only [ci, cj, Bool.and_true, Bool.not_true, Bool.false_or] using h2
/-- what a listed operation waits for is listed -/
def Cl (md : Region.Mode) (ops : Array Oper) (listed : Array Bool) : Prop := ∀ j oj, ops[j]? = some oj → listed.getD j false = true → ∀ e ∈ oj.after, Region.binds md e = true → listed.getD e.on false = true
theorem Cl.next {listed : Array Bool} (h : Cl md ops listed) {j : Nat} (hj : j ∈ Region.ready md ops listed) : Cl md ops (listed.setIfInBounds j true) := by
  intro k ok hk hl e he hb
  obtain ⟨hun, oj, hoj, hall⟩ := mem_ready.1 hj
  refine getD_set_true ?_
  by_cases hjk : j = k
  · subst hjk
    rw [hoj] at hk; cases hk
    exact hall e he hb
  · rw [getD_set_ne false hjk] at hl
    exact h k ok hk hl e he hb
theorem Cl.reach {listed : Array Bool} (h : Cl md ops listed) : ∀ {fuel j i : Nat} {oj : Oper}, (∀ e ∈ oj.after, Region.binds md e = true → listed.getD e.on false = true) → ops[j]? = some oj → reachB md ops fuel j i = true → listed.getD i false = true
  | 0, _, _, _, _, _, hr => by cases hr
  | fuel + 1, j, i, oj, hall, hj, hr => by
    unfold reachB at hr
    rw [hj] at hr
    simp only [Array.any_eq_true', Bool.and_eq_true, Bool.or_eq_true, beq_iff_eq] at hr
    obtain ⟨e, he, hb, hr⟩ := hr
    have h1 := hall e he hb
    rcases hr with rfl | hr
    · exact h1
    · cases ho : ops[e.on]? with
      | none =>
        cases fuel with
        | zero => cases hr
        | succ f => unfold reachB at hr; rw [ho] at hr; cases hr
      | some oe => exact Cl.reach h (h _ oe ho h1) ho hr
theorem wpAnyL_firstC (hex : ∀ f args w (R' : Ending → World → Prop), Calls P f args w R' → ∃ e w', R' e w') (hch : chainC md ops = true) {Q : σ → Act → Prop} {i : Nat} {oi : Oper} (hi : ops[i]? = some oi) (hsel : ∀ (j : Nat) (o : Oper) cs b, ops[j]? = some o → o.op ≠ .select cs b) :
    ∀ (fuel : Nat) (listed : Array Bool) (s : σ) (a : Act), NE C s → Cl md ops listed → (∀ j, j < i → listed.getD j true = true) →
      (∀ j oj, ops[j]? = some oj → j ≠ i → listed.getD j true = false → (∀ e ∈ oj.after, Region.binds md e = true → e.on ≠ i) → oi.apart ops oj = true) →
      i ∈ Region.ready md ops listed → LX P ops C oi a s (wpAnyL P md ops C Q fuel (listed.setIfInBounds i true)) → wpAnyL P md ops C Q (fuel + 1) listed s a := by
  intro fuel
  induction fuel with
  | zero =>
    intro listed s a hne _ _ _ hr H
    refine ⟨fun h => (by rw [h] at hr; cases hr), fun j hj => ?_⟩
    by_cases hji : j = i
    · subst hji; exact H.linOp hi
    · have h1 := ready_mono hj hji
      have h2 : Region.ready md ops (listed.setIfInBounds i true) = [] := by
        obtain ⟨w0, hC0⟩ := hne
        rcases H with ⟨_, ⟨_, hk⟩ | ⟨_, v, _, hk⟩⟩ | ⟨_, hk⟩
        · obtain ⟨_, _, s', _, hL⟩ := movesUpon_some (hk w0 hC0) hex
          exact hL.1
        · exact hk.1
        · exact hk.1
      rw [h2] at h1
      cases h1
  | succ fuel ih =>
    intro listed s a hne hpre hlow hfree hr H
    refine ⟨fun h => (by rw [h] at hr; cases hr), fun j hj => ?_⟩
    by_cases hji : j = i
    · subst hji; exact H.linOp hi
    · have H1 : LX P ops C oi a s (fun s1 a1 => Mv.linOp P ops C j (wpAnyL P md ops C Q fuel ((listed.setIfInBounds i true).setIfInBounds j true)) s1 a1) :=
        H.mono hne fun s1 a1 _ h => h.2 j (ready_mono hj hji)
      obtain ⟨hjun, oj, hoj, hall⟩ := mem_ready.1 hj
      have hnot : ∀ e ∈ oj.after, Region.binds md e = true → e.on ≠ i := fun e he hb heq => by
        have h1 := hall e he hb
        have h0 := getD_both (mem_ready.1 hr).1
        rw [heq, h0] at h1
        cases h1
      have hij : i < j := by
        rcases Nat.lt_or_ge j i with h' | h'
        · rw [hlow j h'] at hjun; cases hjun
        · omega
      have hcc : mv oi = false ∨ mv oj = false := by
        cases ci : mv oi with
        | false => exact .inl rfl
        | true =>
          refine .inr ?_
          cases cj : mv oj with
          | false => rfl
          | true =>
            have h0 := getD_both (mem_ready.1 hr).1
            have := hpre.reach hall hoj (chainC_spec hch hi hoj ci cj hij)
            rw [h0] at this; cases this
      have h2 := linOp_put hex hoj (hfree j oj hoj hji hjun hnot) (fun cs b => hsel i oi cs b hi) (fun cs b => hsel j oj cs b hoj) hcc hne H1
      have hfree' : ∀ k ok, ops[k]? = some ok → k ≠ i → (listed.setIfInBounds j true).getD k true = false →
          (∀ e ∈ ok.after, Region.binds md e = true → e.on ≠ i) → oi.apart ops ok = true := fun k ok hk hki hun hno => by
        refine hfree k ok hk hki ?_ hno
        by_cases hjk : j = k
        · subst hjk; exact hjun
        · rw [getD_set_ne true hjk] at hun; exact hun
      have hlow' : ∀ m, m < i → (listed.setIfInBounds j true).getD m true = true := fun m hm => by rw [getD_set_ne true (by omega)]; exact hlow m hm
      refine linOp_mono hne (fun s' a' hne' h3 => ?_) h2
      refine ih (listed.setIfInBounds j true) s' a' hne' (hpre.next hj) hlow' hfree' (ready_mono hr (Ne.symm hji)) ?_
      rw [Array.setIfInBounds_comm _ _ hji]
      exact h3

theorem wpAnyL_lexC (hex : ∀ f args w (R' : Ending → World → Prop), Calls P f args w R' → ∃ e w', R' e w') (hch : chainC md ops = true) {Q : σ → Act → Prop} (hs : Region.noSelect ops = true) : ∀ (l : List Oper) (n : Nat) (listed : Array Bool) (s : σ) (a : Act), NE C s → Cl md ops listed → (∀ j, j < n → listed.getD j true = true) → (∀ j, l[j]? = ops[n + j]?) →
    Region.lexFrom md ops l.length n listed = true → wpLin P ops C Q l s a → wpAnyL P md ops C Q l.length listed s a
  | [], _, _, _, _, _, _, _, _, hB, h => ⟨by simpa [Region.lexFrom] using hB, h⟩
  | o :: l, n, listed, s, a, hne, hpre, hlow, hl, hB, h => by
    have h0 : ops[n]? = some o := by simpa using (hl 0).symm
    simp only [List.length_cons, Region.lexFrom, Bool.and_eq_true] at hB
    obtain ⟨⟨hr, hf⟩, hB'⟩ := hB
    have hr' : n ∈ Region.ready md ops listed := by simpa using hr
    refine wpAnyL_firstC hex hch h0 (Region.noSelect_spec hs) l.length listed s a hne hpre hlow (Region.free_spec h0 hf) hr' ?_
    refine LX.mono hne (fun s' a' hne' h' => ?_) h
    refine wpAnyL_lexC hex hch hs l (n + 1) _ _ _ hne' (hpre.next hr') (fun j hj => ?_) (fun j => by have := hl (j + 1); simpa [Nat.add_assoc, Nat.add_comm 1 j] using this) hB' h'
    by_cases hjn : n = j
    · subst hjn
      rcases Nat.lt_or_ge n listed.size with h' | h'
      · simp [h']
      · simp [h']
    · rw [getD_set_ne true hjn]; exact hlow j (by omega)

/-- **One walk of the lexical order serves every order.** -/
theorem wp_region_mc (C : σ → World → Prop) (s : σ) {id : Nat} {Q : Exit → Act → World → Prop} {a : Act} {w : World} {l : List Oper} (hm : P.follows .mixedOrders = true) (hB : Region.lexB .any l.toArray = true) (hch : chainC .any l.toArray = true) (hC : C s { w with drawn := w.drawn + 1 })
    (h : Nonempty (InW fun w => ∃ s, C s w) → wpLin P l.toArray C (fun s a' => ∀ w', C s w' → Q .normal a' w') l s a) : (Code.region id l.toArray true).wp P Q a w := by
  simp only [Region.lexB, Bool.and_eq_true] at hB
  refine wp_region_any hm (wpAny_of_lin (Q := fun s a' => ∀ w', C s w' → Q .normal a' w') (fun _ _ w' hw' h => h w' hw') _ _ s _ _ hC ?_)
  have := wpAnyL_lexC (C := C) (md := .any) calls_some hch hB.1 l 0 (Array.replicate l.toArray.size false) s a ⟨_, hC⟩ (fun j oj hj hl => by
      rcases Nat.lt_or_ge j l.toArray.size with h' | h'
      · rw [List.size_toArray] at h'; simp [h'] at hl
      · rw [List.size_toArray] at h'; simp [h'] at hl) (fun j hj => by omega) (by simp) (by simpa using hB.2) (h ⟨⟨_, s, hC⟩⟩)
  simpa using this

/-- a call whose answer is known -/
theorem lin_call {Q : σ → Act → Prop} {s : σ} {o : Oper} {rest : List Oper} {a : Act} (hw : Region.wanted o (yielded ops a.tmps) = true) (hm : mv o = true) (f : FuncId) (args : Array Value) (u : Value) (s' : σ)
    (hrun : ∀ W, (execOp a.eval o).run P W = .ok (.enter f args) W) (hcall : ∀ W, C s W → Calls P f args W fun e w' => e = .returned u ∧ C s' w') (hk : wpLin P ops C Q rest s' (a.put o.dst u)) : wpLin P ops C Q (o :: rest) s a :=
  lin_move hw hm fun w hC => by
    rw [hrun]
    exact (hcall w hC).mono fun e w' h => ⟨u, h.1, s', h.2, hk⟩
end
end Go.Proofs.Ytbbcckopkbiojaa.Mv
