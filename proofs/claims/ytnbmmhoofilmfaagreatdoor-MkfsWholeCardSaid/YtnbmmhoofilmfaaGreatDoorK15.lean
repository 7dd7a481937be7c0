/- Texts of this claim, merged by a program (a claim may have 60 files): Move2, Bar2. -/
import Derived.Test.YtnbmmhoofilmfaaGreatDoorK09
import Derived.Test.YtnbmmhoofilmfaaGreatDoorK14
/- As XMove's law, each mover bound to wait for the one ahead of it at however many steps (through plain operations too). -/
namespace Go.Proofs.YtnbmmhoofilmfaaGreatDoor.Mv
open Go.RowKit Go.Proofs.YtnbmmhoofilmfaaGreatDoor
set_option linter.unusedVariables false

def reachB (md : Region.Mode) (ops : Array Oper) : Nat → Nat → Nat → Bool
  | 0, _, _ => false
  | fuel + 1, j, i => match ops[j]? with
    | none => false
    | some oj => oj.after.any fun e => Region.binds md e && (e.on == i || reachB md ops fuel e.on i)
def chainC (md : Region.Mode) (ops : Array Oper) : Bool :=
  (List.range ops.size).all fun j => (List.range j).all fun i => match ops[j]?, ops[i]? with
    | some oj, some oi => !(mv oi && mv oj) || reachB md ops ops.size j i
    | _, _ => true
section
variable {P : Program} {ops : Array Oper} {md : Region.Mode} {σ : Type} {C : σ → World → Prop}
theorem chainC_spec (h : chainC md ops = true) {i j : Nat} {oi oj : Oper} (hi : ops[i]? = some oi) (hj : ops[j]? = some oj) (ci : mv oi = true) (cj : mv oj = true) (hij : i < j) : reachB md ops ops.size j i = true := by
  unfold chainC at h
  rw [List.all_eq_true] at h
  have h1 := h j (List.mem_range.2 (Array.getElem?_eq_some_iff.1 hj).1)
  rw [List.all_eq_true] at h1
  have h2 := h1 i (List.mem_range.2 hij)
  rw [hi, hj] at h2
  simpa only [ci, cj, Bool.and_true, Bool.not_true, Bool.false_or] using h2
/-- what a listed operation waits for is listed -/
def Cl (md : Region.Mode) (ops : Array Oper) (listed : Array Bool) : Prop := ∀ j oj, ops[j]? = some oj → listed.getD j false = true → ∀ e ∈ oj.after, Region.binds md e = true → listed.getD e.on false = true
theorem Cl.next {listed : Array Bool} (h : Cl md ops listed) {j : Nat} (hj : j ∈ Region.ready md ops listed) : Cl md ops (listed.setIfInBounds j true) := by
  intro k ok hk hl e he hb
  obtain ⟨hun, oj, hoj, hall⟩ := mem_ready.1 hj
  refine getD_set_true ?_
  by_cases hjk : j = k
  · subst hjk
    rw [hoj] at hk; cases hk
    exact hall e he hb
  · rw [getD_set_ne false hjk] at hl
    exact h k ok hk hl e he hb
theorem Cl.reach {listed : Array Bool} (h : Cl md ops listed) : ∀ {fuel j i : Nat} {oj : Oper}, (∀ e ∈ oj.after, Region.binds md e = true → listed.getD e.on false = true) → ops[j]? = some oj → reachB md ops fuel j i = true → listed.getD i false = true
  | 0, _, _, _, _, _, hr => by cases hr
  | fuel + 1, j, i, oj, hall, hj, hr => by
    unfold reachB at hr
    rw [hj] at hr
    simp only [Array.any_eq_true', Bool.and_eq_true, Bool.or_eq_true, beq_iff_eq] at hr
    obtain ⟨e, he, hb, hr⟩ := hr
    have h1 := hall e he hb
    rcases hr with rfl | hr
    · exact h1
    · cases ho : ops[e.on]? with
      | none =>
        cases fuel with
        | zero => cases hr
        | succ f => unfold reachB at hr; rw [ho] at hr; cases hr
      | some oe => exact Cl.reach h (h _ oe ho h1) ho hr
theorem wpAnyL_firstC (hex : ∀ f args w (R' : Ending → World → Prop), Calls P f args w R' → ∃ e w', R' e w') (hch : chainC md ops = true) {Q : σ → Act → Prop} {i : Nat} {oi : Oper} (hi : ops[i]? = some oi) (hsel : ∀ (j : Nat) (o : Oper) cs b, ops[j]? = some o → o.op ≠ .select cs b) :
    ∀ (fuel : Nat) (listed : Array Bool) (s : σ) (a : Act), NE C s → Cl md ops listed → (∀ j, j < i → listed.getD j true = true) →
      (∀ j oj, ops[j]? = some oj → j ≠ i → listed.getD j true = false → (∀ e ∈ oj.after, Region.binds md e = true → e.on ≠ i) → oi.apart ops oj = true) →
      i ∈ Region.ready md ops listed → LX P ops C oi a s (wpAnyL P md ops C Q fuel (listed.setIfInBounds i true)) → wpAnyL P md ops C Q (fuel + 1) listed s a := by
  intro fuel
  induction fuel with
  | zero =>
    intro listed s a hne _ _ _ hr H
    refine ⟨fun h => (by rw [h] at hr; cases hr), fun j hj => ?_⟩
    by_cases hji : j = i
    · subst hji; exact H.linOp hi
    · have h1 := ready_mono hj hji
      have h2 : Region.ready md ops (listed.setIfInBounds i true) = [] := by
        obtain ⟨w0, hC0⟩ := hne
        rcases H with ⟨_, ⟨_, hk⟩ | ⟨_, v, _, hk⟩⟩ | ⟨_, hk⟩
        · obtain ⟨_, _, s', _, hL⟩ := movesUpon_some (hk w0 hC0) hex
          exact hL.1
        · exact hk.1
        · exact hk.1
      rw [h2] at h1
      cases h1
  | succ fuel ih =>
    intro listed s a hne hpre hlow hfree hr H
    refine ⟨fun h => (by rw [h] at hr; cases hr), fun j hj => ?_⟩
    by_cases hji : j = i
    · subst hji; exact H.linOp hi
    · have H1 : LX P ops C oi a s (fun s1 a1 => Mv.linOp P ops C j (wpAnyL P md ops C Q fuel ((listed.setIfInBounds i true).setIfInBounds j true)) s1 a1) :=
        H.mono hne fun s1 a1 _ h => h.2 j (ready_mono hj hji)
      obtain ⟨hjun, oj, hoj, hall⟩ := mem_ready.1 hj
      have hnot : ∀ e ∈ oj.after, Region.binds md e = true → e.on ≠ i := fun e he hb heq => by
        have h1 := hall e he hb
        have h0 := getD_both (mem_ready.1 hr).1
        rw [heq, h0] at h1
        cases h1
      have hij : i < j := by
        rcases Nat.lt_or_ge j i with h' | h'
        · rw [hlow j h'] at hjun; cases hjun
        · omega
      have hcc : mv oi = false ∨ mv oj = false := by
        cases ci : mv oi with
        | false => exact .inl rfl
        | true =>
          refine .inr ?_
          cases cj : mv oj with
          | false => rfl
          | true =>
            have h0 := getD_both (mem_ready.1 hr).1
            have := hpre.reach hall hoj (chainC_spec hch hi hoj ci cj hij)
            rw [h0] at this; cases this
      have h2 := linOp_put hex hoj (hfree j oj hoj hji hjun hnot) (fun cs b => hsel i oi cs b hi) (fun cs b => hsel j oj cs b hoj) hcc hne H1
      have hfree' : ∀ k ok, ops[k]? = some ok → k ≠ i → (listed.setIfInBounds j true).getD k true = false →
          (∀ e ∈ ok.after, Region.binds md e = true → e.on ≠ i) → oi.apart ops ok = true := fun k ok hk hki hun hno => by
        refine hfree k ok hk hki ?_ hno
        by_cases hjk : j = k
        · subst hjk; exact hjun
        · rw [getD_set_ne true hjk] at hun; exact hun
      have hlow' : ∀ m, m < i → (listed.setIfInBounds j true).getD m true = true := fun m hm => by rw [getD_set_ne true (by omega)]; exact hlow m hm
      refine linOp_mono hne (fun s' a' hne' h3 => ?_) h2
      refine ih (listed.setIfInBounds j true) s' a' hne' (hpre.next hj) hlow' hfree' (ready_mono hr (Ne.symm hji)) ?_
      rw [Array.setIfInBounds_comm _ _ hji]
      exact h3

theorem wpAnyL_lexC (hex : ∀ f args w (R' : Ending → World → Prop), Calls P f args w R' → ∃ e w', R' e w') (hch : chainC md ops = true) {Q : σ → Act → Prop} (hs : Region.noSelect ops = true) : ∀ (l : List Oper) (n : Nat) (listed : Array Bool) (s : σ) (a : Act), NE C s → Cl md ops listed → (∀ j, j < n → listed.getD j true = true) → (∀ j, l[j]? = ops[n + j]?) →
    Region.lexFrom md ops l.length n listed = true → wpLin P ops C Q l s a → wpAnyL P md ops C Q l.length listed s a
  | [], _, _, _, _, _, _, _, _, hB, h => ⟨by simpa [Region.lexFrom] using hB, h⟩
  | o :: l, n, listed, s, a, hne, hpre, hlow, hl, hB, h => by
    have h0 : ops[n]? = some o := by simpa using (hl 0).symm
    simp only [List.length_cons, Region.lexFrom, Bool.and_eq_true] at hB
    obtain ⟨⟨hr, hf⟩, hB'⟩ := hB
    have hr' : n ∈ Region.ready md ops listed := by simpa using hr
    refine wpAnyL_firstC hex hch h0 (Region.noSelect_spec hs) l.length listed s a hne hpre hlow (Region.free_spec h0 hf) hr' ?_
    refine LX.mono hne (fun s' a' hne' h' => ?_) h
    refine wpAnyL_lexC hex hch hs l (n + 1) _ _ _ hne' (hpre.next hr') (fun j hj => ?_) (fun j => by have := hl (j + 1); simpa [Nat.add_assoc, Nat.add_comm 1 j] using this) hB' h'
    by_cases hjn : n = j
    · subst hjn
      rcases Nat.lt_or_ge n listed.size with h' | h'
      · simp [h']
      · simp [h']
    · rw [getD_set_ne true hjn]; exact hlow j (by omega)

/-- **One walk of the lexical order serves every order.** -/
theorem wp_region_mc (C : σ → World → Prop) (s : σ) {id : Nat} {Q : Exit → Act → World → Prop} {a : Act} {w : World} {l : List Oper} (hm : P.follows .mixedOrders = true) (hB : Region.lexB .any l.toArray = true) (hch : chainC .any l.toArray = true) (hC : C s { w with drawn := w.drawn + 1 })
    (h : Nonempty (InW fun w => ∃ s, C s w) → wpLin P l.toArray C (fun s a' => ∀ w', C s w' → Q .normal a' w') l s a) : (Code.region id l.toArray true).wp P Q a w := by
  simp only [Region.lexB, Bool.and_eq_true] at hB
  refine wp_region_any hm (wpAny_of_lin (Q := fun s a' => ∀ w', C s w' → Q .normal a' w') (fun _ _ w' hw' h => h w' hw') _ _ s _ _ hC ?_)
  have := wpAnyL_lexC (C := C) (md := .any) calls_some hch hB.1 l 0 (Array.replicate l.toArray.size false) s a ⟨_, hC⟩ (fun j oj hj hl => by
      rcases Nat.lt_or_ge j l.toArray.size with h' | h'
      · rw [List.size_toArray] at h'; simp [h'] at hl
      · rw [List.size_toArray] at h'; simp [h'] at hl) (fun j hj => by omega) (by simp) (by simpa using hB.2) (h ⟨⟨_, s, hC⟩⟩)
  simpa using this

/-- a call whose answer is known -/
theorem lin_call {Q : σ → Act → Prop} {s : σ} {o : Oper} {rest : List Oper} {a : Act} (hw : Region.wanted o (yielded ops a.tmps) = true) (hm : mv o = true) (f : FuncId) (args : Array Value) (u : Value) (s' : σ)
    (hrun : ∀ W, (execOp a.eval o).run P W = .ok (.enter f args) W) (hcall : ∀ W, C s W → Calls P f args W fun e w' => e = .returned u ∧ C s' w') (hk : wpLin P ops C Q rest s' (a.put o.dst u)) : wpLin P ops C Q (o :: rest) s a :=
  lin_move hw hm fun w hC => by
    rw [hrun]
    exact (hcall w hC).mono fun e w' h => ⟨u, h.1, s', h.2, hk⟩
end
end Go.Proofs.YtnbmmhoofilmfaaGreatDoor.Mv

/- As XBar, but an operation behind the bar may wait for those ahead of it through others. A drawn region in two phases: the first n operations in whatever order, each quiet in a class of worlds; the others wait for all that stand ahead of them, so they come one behind the other. No program in sight. -/
namespace Go.Proofs.YtnbmmhoofilmfaaGreatDoor
open Go.RowKit
set_option linter.unusedVariables false

/-- from n on each operation waits for all ahead of it; ahead of n the guards stand ahead of n -/
def barB2 (md : Region.Mode) (n : Nat) (ops : Array Oper) : Bool :=
  (List.range ops.size).all fun j => match ops[j]? with
    | none => true
    | some o => if j < n then (match o.guard with | none => true | some (g, _) => decide (g < n)) else (List.range j).all fun i => Mv.reachB md ops ops.size j i

section
variable {P : Program} {md : Region.Mode} {ops : Array Oper}
theorem barB_wait2 {n : Nat} (h : barB2 md n ops = true) {j : Nat} {o : Oper} (hj : ops[j]? = some o) (hn : n ≤ j) {i : Nat} (hi : i < j) : Mv.reachB md ops ops.size j i = true := by
  unfold barB2 at h
  rw [List.all_eq_true] at h
  have h1 := h j (List.mem_range.2 (Array.getElem?_eq_some_iff.1 hj).1)
  simp only [hj, if_neg (show ¬ j < n by omega), List.all_eq_true] at h1
  exact h1 i (List.mem_range.2 hi)
theorem barB_guard2 {n : Nat} (h : barB2 md n ops = true) {j : Nat} {o : Oper} (hj : ops[j]? = some o) (hn : j < n) {g : Nat} {b : Bool} (hg : o.guard = some (g, b)) : g < n := by
  unfold barB2 at h
  rw [List.all_eq_true] at h
  have h1 := h j (List.mem_range.2 (Array.getElem?_eq_some_iff.1 hj).1)
  simp only [hj, if_pos hn, hg, decide_eq_true_eq] at h1
  exact h1

theorem bar_tail2 {n : Nat} (hb : barB2 md n ops = true) (hd : downB md ops = true) {Q : Exit → Act → World → Prop} : ∀ (l : List Oper) (k x : Nat) (listed : Array Bool) (a : Act) (w : World), n ≤ k → (∀ j, l[j]? = ops[k + j]?) → listed.size = ops.size →
    (∀ i, i < k → listed.getD i false = true) → (∀ i, k ≤ i → i < ops.size → listed.getD i true = false) → wpList P ops Q l a w → wpAny P md ops Q (l.length + x) listed a w
  | [], k, x, listed, a, w, hk, hl, hs, h1, h0, h => by
    have hsz : ops.size ≤ k := by have := (hl 0).symm; simp at this; omega
    have hr : Region.ready md ops listed = [] := by
      cases hr : Region.ready md ops listed with
      | nil => rfl
      | cons i r =>
        have hi : i ∈ Region.ready md ops listed := by rw [hr]; simp
        obtain ⟨hu, o, ho, _⟩ := mem_ready.1 hi
        have hlt := (Array.getElem?_eq_some_iff.1 ho).1
        have := h1 i (by omega)
        rw [Array.getD_eq_getD_getElem?, Array.getElem?_eq_getElem (by omega)] at hu this
        simp at hu this
        rw [this] at hu; cases hu
    cases x with
    | zero => exact ⟨hr, h⟩
    | succ x =>
      rw [show ([] : List Oper).length + (x + 1) = x + 1 by simp]
      exact ⟨fun _ => h, fun i hi => by rw [hr] at hi; cases hi⟩
  | o :: l, k, x, listed, a, w, hk, hl, hs, h1, h0, h => by
    have ho : ops[k]? = some o := by simpa using (hl 0).symm
    have hlt := (Array.getElem?_eq_some_iff.1 ho).1
    have hin : k ∈ Region.ready md ops listed := mem_ready.2 ⟨h0 k (Nat.le_refl _) hlt, o, ho, fun e he hbe => h1 _ (downB_spec hd ho he hbe)⟩
    rw [show (o :: l).length + x = (l.length + x) + 1 by simp; omega]
    refine ⟨fun hr => (by rw [hr] at hin; cases hin), fun i hi => ?_⟩
    obtain ⟨hu, oi, hoi, hall⟩ := mem_ready.1 hi
    have hilt := (Array.getElem?_eq_some_iff.1 hoi).1
    have hik : i = k := by
      rcases Nat.lt_trichotomy i k with hh | hh | hh
      · have := h1 i hh
        rw [Array.getD_eq_getD_getElem?, Array.getElem?_eq_getElem (by omega)] at hu this
        simp at hu this
        rw [this] at hu; cases hu
      · exact hh
      · have hcl : Mv.Cl md ops listed := fun j oj hj hlj e he hbe => by
          have hjk : j < k := by
            rcases Nat.lt_or_ge j k with h' | h'
            · exact h'
            · have h2 := h0 j h' (Array.getElem?_eq_some_iff.1 hj).1
              rw [Array.getD_eq_getD_getElem?, Array.getElem?_eq_getElem (by have := (Array.getElem?_eq_some_iff.1 hj).1; omega)] at h2 hlj
              simp at h2 hlj
              rw [h2] at hlj; cases hlj
          have := downB_spec hd hj he hbe
          exact h1 _ (by omega)
        have hx := hcl.reach hall hoi (barB_wait2 hb hoi (by omega) hh)
        have h2 := h0 k (Nat.le_refl _) hlt
        rw [Array.getD_eq_getD_getElem?, Array.getElem?_eq_getElem (by omega)] at hx h2
        simp at hx h2
        rw [hx] at h2; cases h2
    subst hik
    have key : wpOp P ops Q i (wpList P ops Q l) a w := by
      unfold wpOp
      simp only [ho]
      exact h
    refine wpOp_mono (fun a' w' h' => bar_tail2 hb hd l (i + 1) x _ a' w' (by omega) (fun j => by have := hl (j + 1); simpa [Nat.add_assoc, Nat.add_comm 1 j] using this) (by simpa using hs) (fun j hj => ?_) (fun j hj hjs => ?_) h') key
    · by_cases hji : j = i
      · subst hji; simp [Array.getD_eq_getD_getElem?, hs, hlt]
      · rw [Array.getD_eq_getD_getElem?, Array.getElem?_setIfInBounds_ne (Ne.symm hji), ← Array.getD_eq_getD_getElem?]; exact h1 j (by omega)
    · rw [Array.getD_eq_getD_getElem?, Array.getElem?_setIfInBounds_ne (by omega), ← Array.getD_eq_getD_getElem?]; exact h0 j (by omega) hjs

theorem bar_head2 {n : Nat} {ops1 : Array Oper} {l2 : List Oper} {C : World → Prop} (hb : barB2 md n ops = true) (hd : downB md ops = true) (hd1 : downB md ops1 = true) (hn1 : ops1.size = n) (h1 : ∀ i, i < n → ops1[i]? = ops[i]?) (hl : ∀ j, l2[j]? = ops[n + j]?)
    {Q : Exit → Act → World → Prop} {Q1 : Act → Prop} (hQ : ∀ a w, C w → Q1 a → wpList P ops Q l2 a w) : ∀ (fuel : Nat) (listed1 listed : Array Bool) (a : Act) (w : World), C w → Mv.Cl md ops listed → listed1.size = n → listed.size = ops.size →
      (∀ i, i < n → listed1[i]? = listed[i]?) → (∀ i, n ≤ i → i < ops.size → listed.getD i true = false) → wpAnyQ P md ops1 C Q1 fuel listed1 a → wpAny P md ops Q (l2.length + fuel) listed a w := by
  have hnn : n ≤ ops.size := by
    rcases Nat.lt_or_ge ops.size n with h | h
    · have := h1 ops.size h
      rw [Array.getElem?_eq_none (Nat.le_refl _), Array.getElem?_eq_none_iff] at this
      omega
    · exact h
  have done : ∀ (fuel : Nat) (listed1 listed : Array Bool) (a : Act) (w : World), C w → listed1.size = n → listed.size = ops.size → (∀ i, i < n → listed1[i]? = listed[i]?) → (∀ i, n ≤ i → i < ops.size → listed.getD i true = false) →
      Region.ready md ops1 listed1 = [] → Q1 a → wpAny P md ops Q (l2.length + fuel) listed a w := fun fuel listed1 listed a w hw hs1 hs hll h0 hr hq => by
    refine bar_tail2 hb hd l2 n fuel listed a w (Nat.le_refl _) hl hs (fun i hi => ?_) h0 (hQ a w hw hq)
    have := ready_nil hd1 (by omega) hr i (by omega)
    rw [Array.getD_eq_getD_getElem?, hll i hi, ← Array.getD_eq_getD_getElem?] at this
    exact this
  intro fuel
  induction fuel with
  | zero => intro listed1 listed a w hw hcl hs1 hs hll h0 h; exact done 0 listed1 listed a w hw hs1 hs hll h0 h.1 h.2
  | succ fuel ih =>
    intro listed1 listed a w hw hcl hs1 hs hll h0 h
    by_cases hr : Region.ready md ops1 listed1 = []
    · exact done _ listed1 listed a w hw hs1 hs hll h0 hr (h.1 hr)
    · obtain ⟨i0, hi0⟩ := List.exists_mem_of_ne_nil _ hr
      obtain ⟨hu0, o0, ho0, hall0⟩ := mem_ready.1 hi0
      have hi0n : i0 < n := by rw [← hn1]; exact (Array.getElem?_eq_some_iff.1 ho0).1
      have get : ∀ i, i < n → ∀ d, listed1.getD i d = listed.getD i d := fun i hi d => by rw [Array.getD_eq_getD_getElem?, Array.getD_eq_getD_getElem?, hll i hi]
      have up : i0 ∈ Region.ready md ops listed := mem_ready.2 ⟨by rw [← get i0 hi0n]; exact hu0, o0, by rw [← h1 i0 hi0n]; exact ho0, fun e he hbe => by
        have hlt := downB_spec hd1 ho0 he hbe
        rw [← get e.on (by omega)]; exact hall0 e he hbe⟩
      rw [show l2.length + (fuel + 1) = (l2.length + fuel) + 1 by omega]
      refine ⟨fun hrr => (by rw [hrr] at up; cases up), fun i hi => ?_⟩
      obtain ⟨hu, o, ho, hall⟩ := mem_ready.1 hi
      have hin : i < n := by
        rcases Nat.lt_or_ge i n with hh | hh
        · exact hh
        · have hx := hcl.reach hall ho (barB_wait2 hb ho hh (i := i0) (by omega))
          rw [← get i0 hi0n] at hx
          rw [Array.getD_eq_getD_getElem?, Array.getElem?_eq_getElem (by omega)] at hx hu0
          simp at hx hu0
          rw [hx] at hu0; cases hu0
      have ho1 : ops1[i]? = some o := by rw [h1 i hin]; exact ho
      have hi1 : i ∈ Region.ready md ops1 listed1 := mem_ready.2 ⟨by rw [get i hin]; exact hu, o, ho1, fun e he hbe => by
        have hlt := downB_spec hd1 ho1 he hbe
        rw [get e.on (by omega)]; exact hall e he hbe⟩
      have hq := h.2 i hi1
      have hwant : ∀ a : Act, Region.wanted o (yielded ops1 a.tmps) = Region.wanted o (yielded ops a.tmps) := fun a => by
        unfold Region.wanted
        cases hg : o.guard with
        | none => rfl
        | some p =>
          obtain ⟨g, b⟩ := p
          have := barB_guard2 hb ho hin hg
          simp only [yielded, h1 g this]
      have hq' : qOp P ops C i (wpAnyQ P md ops1 C Q1 fuel (listed1.setIfInBounds i true)) a := by
        unfold qOp at hq ⊢
        simp only [ho1] at hq
        simp only [ho]
        rw [← hwant]
        exact hq
      refine wpOp_of_qOp hw (fun a' w' hw' h' => ih (listed1.setIfInBounds i true) (listed.setIfInBounds i true) a' w' hw' (hcl.next hi) (by simpa using hs1) (by simpa using hs) (fun j hj => ?_) (fun j hj hjs => ?_) h') hq'
      · by_cases hji : i = j
        · subst hji; simp [hs1, hs, hj, show i < ops.size by omega]
        · rw [Array.getElem?_setIfInBounds_ne hji, Array.getElem?_setIfInBounds_ne hji]; exact hll j hj
      · rw [Array.getD_eq_getD_getElem?, Array.getElem?_setIfInBounds_ne (by omega), ← Array.getD_eq_getD_getElem?]; exact h0 j hj hjs

/-- **A drawn region in two phases.** -/
theorem wp_region_bar2 (S : World → Prop) (n : Nat) {id : Nat} {Q : Exit → Act → World → Prop} {a : Act} {w : World} {L : List Oper} (hm : P.follows .mixedOrders = true) (hB : Region.lexB .any (L.take n).toArray = true)
    (hb : barB2 .any n L.toArray = true) (hd : downB .any L.toArray = true) (hd1 : downB .any (L.take n).toArray = true) (hn : n ≤ L.length) (hS : S { w with drawn := w.drawn + 1 })
    (h : Nonempty (InW S) → wpQuiet P (L.take n).toArray (fun w' => ∃ s : InW S, w' = s.W) (fun a' => ∀ w', InS S w' → wpList P L.toArray Q (L.drop n) a' w') (L.take n) a) : (Code.region id L.toArray true).wp P Q a w := by
  have hC : ∃ s : InW S, { w with drawn := w.drawn + 1 } = s.W := ⟨⟨_, hS⟩, rfl⟩
  simp only [Region.lexB, Bool.and_eq_true] at hB
  have hq := wpAnyQ_lex (C := fun w' => ∃ s : InW S, w' = s.W) (md := .any) hB.1 (L.take n) 0 (Array.replicate n false) a (by simp) (by have := hB.2; simpa [Nat.min_eq_left hn] using this) (h ⟨⟨_, hS⟩⟩)
  have hlen : (L.take n).length = n := by simp [Nat.min_eq_left hn]
  rw [hlen] at hq
  have := bar_head2 (P := P) (md := .any) (ops := L.toArray) (ops1 := (L.take n).toArray) (l2 := L.drop n) (n := n) (C := fun w' => ∃ s : InW S, w' = s.W) hb hd hd1 (by simp [Nat.min_eq_left hn]) (fun i hi => by simp [hi]) (fun j => by simp)
    (Q := Q) (Q1 := fun a' => ∀ w', InS S w' → wpList P L.toArray Q (L.drop n) a' w') (fun a w hw h => h w hw) n (Array.replicate n false) (Array.replicate L.length false) a { w with drawn := w.drawn + 1 } hC (fun j oj hj hl e he hbe => by
      rcases Nat.lt_or_ge j L.length with h' | h'
      · simp [h'] at hl
      · simp [h'] at hl) (by simp) (by simp)
    (fun i hi => by simp [hi, show i < L.length by omega]) (fun i hi hs => by simp at hs; simp [hs]) hq
  rw [show (L.drop n).length + n = L.length by simp; omega] at this
  refine wp_region_any hm ?_
  simpa using this
end
end Go.Proofs.YtnbmmhoofilmfaaGreatDoor
