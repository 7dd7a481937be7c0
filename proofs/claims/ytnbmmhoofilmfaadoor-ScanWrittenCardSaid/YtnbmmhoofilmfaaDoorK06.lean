/- Texts of this claim, merged by a program (a claim may have 60 files): Chain. -/
import Derived.Test.YtnbmmhoofilmfaaDoorK05
/- A region that draws its order and holds calls that write, each call bound to wait for the one ahead of it: one walk of the lexical order, the worlds' class stepping on at each call (C 0, C 1, ..). Every other operation yields one value in every world of whatever class. No program in sight. -/
namespace Go.Proofs.YtnbmmhoofilmfaaDoor
open Go.RowKit
set_option linter.unusedVariables false

def isCall (o : Oper) : Bool := match o.op with | .call _ => true | _ => false
def plainOp (o : Oper) : Bool := match o.op with | .move _ | .assign _ | .pick _ _ _ | .build _ _ | .load _ _ | .binOp _ _ _ _ _ | .unOp _ _ _ | .convert _ _ _ | .fieldAddr _ _ _ | .field _ _ _ | .indexAddr _ _ _ | .index _ _ _ | .extract _ _ | .slice _ _ _ _ _ => true | _ => false
/-- each call waits for the one ahead of it -/
def chainB (md : Region.Mode) (ops : Array Oper) : Bool :=
  (List.range ops.size).all fun j => (List.range j).all fun i => match ops[j]?, ops[i]? with
    | some oj, some oi => !(isCall oi && isCall oj) || (List.range j).any fun p => decide (i ≤ p) && ((ops[p]?).map isCall).getD false && oj.after.any fun e => Region.binds md e && e.on == p
    | _, _ => true

section
variable {P : Program} {ops : Array Oper} {md : Region.Mode} {C : Nat → World → Prop}

theorem chainB_spec (h : chainB md ops = true) {i j : Nat} {oi oj : Oper} (hi : ops[i]? = some oi) (hj : ops[j]? = some oj) (ci : isCall oi = true) (cj : isCall oj = true) (hij : i < j) :
    ∃ p op, i ≤ p ∧ p < j ∧ ops[p]? = some op ∧ isCall op = true ∧ ∃ e ∈ oj.after, Region.binds md e = true ∧ e.on = p := by
  unfold chainB at h
  rw [List.all_eq_true] at h
  have h1 := h j (List.mem_range.2 (Array.getElem?_eq_some_iff.1 hj).1)
  rw [List.all_eq_true] at h1
  have h2 := h1 i (List.mem_range.2 hij)
  rw [hi, hj] at h2
  simp only [ci, cj, Bool.and_true, Bool.not_true, Bool.false_or, List.any_eq_true, Bool.and_eq_true, decide_eq_true_eq] at h2
  obtain ⟨p, hp, ⟨hip, hc⟩, hany⟩ := h2
  rw [Array.any_eq_true'] at hany
  obtain ⟨e, he, hb⟩ := hany
  rw [Bool.and_eq_true, beq_iff_eq] at hb
  cases ho : ops[p]? with
  | none => rw [ho] at hc; cases hc
  | some op => rw [ho] at hc; exact ⟨p, op, hip, List.mem_range.1 hp, ho, by simpa using hc, e, he, hb.1, hb.2⟩

/-- what the operation yields in the world w, the world left as it is -/
def stillUpon (w : World) (v : Value) : Result Next → Prop
  | .ok (.value u) w' => w' = w ∧ u = v
  | .ok .skip w' => w' = w ∧ v = undef
  | _ => False
def entersUpon (P : Program) (w : World) (R : Ending → World → Prop) : Result Next → Prop
  | .ok (.enter f args) w' => w' = w ∧ Calls P f args w R
  | _ => False
def stillIn (P : Program) (C : Nat → World → Prop) (o : Oper) (a : Act) (v : Value) : Prop := ∀ w, (∃ k, C k w) → stillUpon w v ((execOp a.eval o).run P w)
def callIn (P : Program) (C : Nat → World → Prop) (k : Nat) (o : Oper) (a : Act) (v : Value) : Prop := ∀ w, C k w → entersUpon P w (fun e w' => e = .returned v ∧ C (k + 1) w') ((execOp a.eval o).run P w)

/-- in state a, at step k, operation o leaves v, and step k' -/
def LY (P : Program) (ops : Array Oper) (C : Nat → World → Prop) (o : Oper) (v : Value) (a : Act) (k k' : Nat) : Prop :=
  (Region.wanted o (yielded ops a.tmps) = true ∧ ((isCall o = true ∧ callIn P C k o a v ∧ k' = k + 1) ∨ (isCall o = false ∧ stillIn P C o a v ∧ k' = k))) ∨
  (Region.wanted o (yielded ops a.tmps) = false ∧ v = undef ∧ k' = k)

def linOp (P : Program) (ops : Array Oper) (C : Nat → World → Prop) (i : Nat) (K : Nat → Act → Prop) (k : Nat) (a : Act) : Prop :=
  match ops[i]? with
  | none => K k a
  | some o => ∃ v k', LY P ops C o v a k k' ∧ K k' (a.put o.dst v)

def wpAnyL (P : Program) (md : Region.Mode) (ops : Array Oper) (C : Nat → World → Prop) (Q : Nat → Act → Prop) : Nat → Array Bool → Nat → Act → Prop
  | 0, listed, k, a => Region.ready md ops listed = [] ∧ Q k a
  | fuel + 1, listed, k, a => (Region.ready md ops listed = [] → Q k a) ∧ ∀ i ∈ Region.ready md ops listed, linOp P ops C i (wpAnyL P md ops C Q fuel (listed.setIfInBounds i true)) k a

theorem linOp_mono {i k : Nat} {a : Act} {K K' : Nat → Act → Prop} (h : ∀ k a, K k a → K' k a) (hh : linOp P ops C i K k a) : linOp P ops C i K' k a := by
  unfold linOp at *
  cases ho : ops[i]? with
  | none => rw [ho] at hh; exact h _ _ hh
  | some o => rw [ho] at hh; obtain ⟨v, k', h1, h2⟩ := hh; exact ⟨v, k', h1, h _ _ h2⟩

theorem wpOp_of_lin {i k : Nat} {a : Act} {K : Nat → Act → Prop} {K' : Act → World → Prop} {Q' : Exit → Act → World → Prop} {w : World} (hC : C k w) (h : ∀ k a w', C k w' → K k a → K' a w') (hh : linOp P ops C i K k a) : wpOp P ops Q' i K' a w := by
  unfold linOp at hh
  unfold wpOp
  split
  · rename_i ho; simp only [ho] at hh; exact h _ _ _ hC hh
  · rename_i o ho
    simp only [ho] at hh
    obtain ⟨v, k', hy, hK⟩ := hh
    rcases hy with ⟨hw, hy⟩ | ⟨hw, rfl, rfl⟩
    · simp only [hw, if_true]
      refine .inl ?_
      unfold Oper.wp
      rcases hy with ⟨_, hc, rfl⟩ | ⟨_, hs, rfl⟩
      · have h3 := hc w hC
        generalize (execOp a.eval o).run P w = r at *
        cases r with
        | ok n w' =>
          cases n <;> simp only [entersUpon] at h3 <;> simp only [Oper.upon]
          obtain ⟨rfl, hc⟩ := h3
          exact hc.mono fun e w'' ⟨he, hw''⟩ => by subst he; exact h _ _ _ hw'' hK
        | halt x w' => simp only [entersUpon] at h3
      · have h3 := hs w ⟨_, hC⟩
        generalize (execOp a.eval o).run P w = r at *
        cases r with
        | ok n w' =>
          cases n <;> simp only [stillUpon] at h3 <;> simp only [Oper.upon]
          · obtain ⟨rfl, rfl⟩ := h3; exact h _ _ _ hC hK
          · obtain ⟨rfl, rfl⟩ := h3; exact h _ _ _ hC hK
        | halt x w' => simp only [stillUpon] at h3
    · simp only [hw]; exact h _ _ _ hC hK

theorem wpAny_of_lin {Q : Nat → Act → Prop} {Q' : Exit → Act → World → Prop} (hQ : ∀ k a w, C k w → Q k a → Q' .normal a w) : ∀ (fuel : Nat) (listed : Array Bool) (k : Nat) (a : Act) (w : World), C k w →
    wpAnyL P md ops C Q fuel listed k a → wpAny P md ops Q' fuel listed a w
  | 0, _, _, _, _, hw, h => ⟨h.1, hQ _ _ _ hw h.2⟩
  | fuel + 1, _, _, _, _, hw, h => ⟨fun h0 => hQ _ _ _ hw (h.1 h0), fun i hi => wpOp_of_lin hw (fun k' a' w' hw' => wpAny_of_lin hQ fuel _ k' a' w' hw') (h.2 i hi)⟩

theorem LY.linOp {i k k' : Nat} {o : Oper} {v : Value} {a : Act} (hi : ops[i]? = some o) (hy : LY P ops C o v a k k') {K : Nat → Act → Prop} (h : K k' (a.put o.dst v)) : linOp P ops C i K k a := by
  unfold Proofs.YtnbmmhoofilmfaaDoor.linOp
  simp only [hi]
  exact ⟨v, k', hy, h⟩

theorem LY.of_same {o : Oper} {v : Value} {a a' : Act} {k k' : Nat} (hy : LY P ops C o v a k k') (he : execOp a'.eval o = execOp a.eval o)
    (hw : Region.wanted o (yielded ops a'.tmps) = Region.wanted o (yielded ops a.tmps)) : LY P ops C o v a' k k' := by
  unfold LY callIn stillIn at *
  rw [he, hw]
  exact hy
/-- an operation that is no call does not look at the step -/
theorem LY.step {o : Oper} {v : Value} {a : Act} {k k' : Nat} (hy : LY P ops C o v a k k') (hc : isCall o = false) : k' = k ∧ ∀ m, LY P ops C o v a m m := by
  rcases hy with ⟨hw, ⟨h, _⟩ | ⟨h, hs, rfl⟩⟩ | ⟨hw, rfl, rfl⟩
  · rw [hc] at h; cases h
  · exact ⟨rfl, fun m => .inl ⟨hw, .inr ⟨h, hs, rfl⟩⟩⟩
  · exact ⟨rfl, fun m => .inr ⟨hw, rfl, rfl⟩⟩

theorem linOp_put {j k k1 : Nat} {oi oj : Oper} {v : Value} (hj : ops[j]? = some oj) (hap : oi.apart ops oj = true)
    (hsi : ∀ cs b, oi.op ≠ .select cs b) (hsj : ∀ cs b, oj.op ≠ .select cs b) (hcc : isCall oi = false ∨ isCall oj = false) {K : Nat → Act → Prop} {a : Act}
    (hy : LY P ops C oi v a k k1) (h : linOp P ops C j K k1 (a.put oi.dst v)) :
    linOp P ops C j (fun k' a' => ∃ k1', LY P ops C oi v a' k' k1' ∧ K k1' (a'.put oi.dst v)) k a := by
  obtain ⟨h1, h2, h3⟩ := Oper.apart_spec hap
  have keep : ∀ (u : Value) (m m' : Nat), LY P ops C oi v a m m' → LY P ops C oi v (a.put oj.dst u) m m' := fun u m m' hy =>
    hy.of_same (execOp_put oi hsi a oj.dst u h3) (wanted_put oi a oj.dst u h3)
  unfold linOp at *
  simp only [hj] at *
  obtain ⟨u, k2, hu, hK⟩ := h
  have hu' : LY P ops C oj u a k1 k2 := hu.of_same (execOp_put oj hsj a oi.dst v h1).symm (wanted_put oj a oi.dst v h1).symm
  rw [Act.put_comm a v u h2] at hK
  rcases hcc with hc | hc
  · obtain ⟨rfl, hany⟩ := hy.step hc
    exact ⟨u, k2, hu', k2, keep u _ _ (hany k2), hK⟩
  · obtain ⟨rfl, hany⟩ := hu'.step hc
    exact ⟨u, k, hany k, k2, keep u _ _ hy, hK⟩

/-- the calls that are listed have all calls ahead of them listed -/
def Pre (ops : Array Oper) (listed : Array Bool) : Prop := ∀ i j oi oj, ops[i]? = some oi → ops[j]? = some oj → isCall oi = true → isCall oj = true → i < j → listed.getD j false = true → listed.getD i false = true

theorem getD_both {listed : Array Bool} {i : Nat} (h : listed.getD i true = false) : listed.getD i false = false := by
  rcases Nat.lt_or_ge i listed.size with h' | h'
  · simp [h'] at h ⊢; exact h
  · simp [Array.getElem?_eq_none h']

theorem Pre.next (hch : chainB md ops = true) {listed : Array Bool} (h : Pre ops listed) {j : Nat} (hj : j ∈ Region.ready md ops listed) : Pre ops (listed.setIfInBounds j true) := by
  intro i m oi om hi hm ci cm him hl
  obtain ⟨hun, oj, hoj, hall⟩ := mem_ready.1 hj
  by_cases hmj : j = m
  · subst hmj
    rw [hoj] at hm; cases hm
    obtain ⟨p, op, hip, hpj, hp, cp, e, he, hb, heq⟩ := chainB_spec hch hi hoj ci cm him
    have hp' := hall e he hb
    rw [heq] at hp'
    refine getD_set_true ?_
    by_cases hpi : i = p
    · subst hpi; exact hp'
    · exact h i p oi op hi hp ci cp (by omega) hp'
  · rw [getD_set_ne false hmj] at hl
    exact getD_set_true (h i m oi om hi hm ci cm him hl)

theorem wpAnyL_first (hch : chainB md ops = true) {Q : Nat → Act → Prop} {i : Nat} {oi : Oper} {v : Value} (hi : ops[i]? = some oi) (hsel : ∀ (j : Nat) (o : Oper) cs b, ops[j]? = some o → o.op ≠ .select cs b) :
    ∀ (fuel : Nat) (listed : Array Bool) (k k1 : Nat) (a : Act), Pre ops listed → (∀ j, j < i → listed.getD j true = true) →
      (∀ j oj, ops[j]? = some oj → j ≠ i → listed.getD j true = false → (∀ e ∈ oj.after, Region.binds md e = true → e.on ≠ i) → oi.apart ops oj = true) →
      i ∈ Region.ready md ops listed → LY P ops C oi v a k k1 →
      wpAnyL P md ops C Q fuel (listed.setIfInBounds i true) k1 (a.put oi.dst v) → wpAnyL P md ops C Q (fuel + 1) listed k a := by
  intro fuel
  induction fuel with
  | zero =>
    intro listed k k1 a _ _ _ hr hy H
    refine ⟨fun h => (by rw [h] at hr; cases hr), fun j hj => ?_⟩
    by_cases hji : j = i
    · subst hji; exact hy.linOp hi H
    · have := ready_mono hj hji
      rw [H.1] at this
      cases this
  | succ fuel ih =>
    intro listed k k1 a hpre hlow hfree hr hy H
    refine ⟨fun h => (by rw [h] at hr; cases hr), fun j hj => ?_⟩
    by_cases hji : j = i
    · subst hji; exact hy.linOp hi H
    · have h1 := H.2 j (ready_mono hj hji)
      obtain ⟨hjun, oj, hoj, hall⟩ := mem_ready.1 hj
      have hnot : ∀ e ∈ oj.after, Region.binds md e = true → e.on ≠ i := fun e he hb heq => by
        have h1 := hall e he hb
        have h0 := getD_both (mem_ready.1 hr).1
        rw [heq, h0] at h1
        cases h1
      have hij : i < j := by
        rcases Nat.lt_or_ge j i with h' | h'
        · rw [hlow j h'] at hjun; cases hjun
        · omega
      have hcc : isCall oi = false ∨ isCall oj = false := by
        cases ci : isCall oi with
        | false => exact .inl rfl
        | true =>
          refine .inr ?_
          cases cj : isCall oj with
          | false => rfl
          | true =>
            obtain ⟨p, op, hip, hpj, hp, cp, e, he, hb, heq⟩ := chainB_spec hch hi hoj ci cj hij
            have hp' := hall e he hb
            rw [heq] at hp'
            have h0 := getD_both (mem_ready.1 hr).1
            by_cases hpi : i = p
            · subst hpi; rw [h0] at hp'; cases hp'
            · have := hpre i p oi op hi hp ci cp (by omega) hp'
              rw [h0] at this; cases this
      have h2 := linOp_put hoj (hfree j oj hoj hji hjun hnot) (fun cs b => hsel i oi cs b hi) (fun cs b => hsel j oj cs b hoj) hcc hy h1
      have hfree' : ∀ k ok, ops[k]? = some ok → k ≠ i → (listed.setIfInBounds j true).getD k true = false →
          (∀ e ∈ ok.after, Region.binds md e = true → e.on ≠ i) → oi.apart ops ok = true := fun k ok hk hki hun hno => by
        refine hfree k ok hk hki ?_ hno
        by_cases hjk : j = k
        · subst hjk; exact hjun
        · rw [getD_set_ne true hjk] at hun; exact hun
      have hlow' : ∀ m, m < i → (listed.setIfInBounds j true).getD m true = true := fun m hm => by rw [getD_set_ne true (by omega)]; exact hlow m hm
      refine linOp_mono (fun k' a' h3 => ?_) h2
      obtain ⟨k1', hy', hK'⟩ := h3
      refine ih (listed.setIfInBounds j true) k' k1' a' (hpre.next hch hj) hlow' hfree' (ready_mono hr (Ne.symm hji)) hy' ?_
      rw [Array.setIfInBounds_comm _ _ hji]
      exact hK'

/-- the lexical walk -/
def wpLin (P : Program) (ops : Array Oper) (C : Nat → World → Prop) (Q : Nat → Act → Prop) : List Oper → Nat → Act → Prop
  | [], k, a => Q k a
  | o :: rest, k, a => ∃ v k', LY P ops C o v a k k' ∧ wpLin P ops C Q rest k' (a.put o.dst v)

theorem wpAnyL_lex (hch : chainB md ops = true) {Q : Nat → Act → Prop} (hs : Region.noSelect ops = true) : ∀ (l : List Oper) (n : Nat) (listed : Array Bool) (k : Nat) (a : Act), Pre ops listed → (∀ j, j < n → listed.getD j true = true) → (∀ j, l[j]? = ops[n + j]?) →
    Region.lexFrom md ops l.length n listed = true → wpLin P ops C Q l k a → wpAnyL P md ops C Q l.length listed k a
  | [], _, _, _, _, _, _, _, hB, h => ⟨by simpa [Region.lexFrom] using hB, h⟩
  | o :: l, n, listed, k, a, hpre, hlow, hl, hB, h => by
    have h0 : ops[n]? = some o := by simpa using (hl 0).symm
    simp only [List.length_cons, Region.lexFrom, Bool.and_eq_true] at hB
    obtain ⟨⟨hr, hf⟩, hB'⟩ := hB
    have hr' : n ∈ Region.ready md ops listed := by simpa using hr
    obtain ⟨v, k', hy, hK⟩ := h
    refine wpAnyL_first hch h0 (Region.noSelect_spec hs) l.length listed k k' a hpre hlow (Region.free_spec h0 hf) hr' hy
      (wpAnyL_lex hch hs l (n + 1) _ _ _ (hpre.next hch hr') (fun j hj => ?_) (fun j => by have := hl (j + 1); simpa [Nat.add_assoc, Nat.add_comm 1 j] using this) hB' hK)
    by_cases hjn : n = j
    · subst hjn
      rcases Nat.lt_or_ge n listed.size with h' | h'
      · simp [h']
      · simp [h']
    · rw [getD_set_ne true hjn]; exact hlow j (by omega)

/-! ### Steps of the walk -/
theorem v_no_enter (s : Sem Value) (w : World) (f : FuncId) (args : Array Value) (w' : World) : (do pure (.value (← s)) : Sem Next).run P w ≠ .ok (.enter f args) w' := by
  rw [Sem.run_bind]
  cases s.run P w <;> simp [Result.andThen, Sem.run_pure]
theorem plain_no_enter {o : Oper} (ho : plainOp o = true) (a : Act) (w : World) (f : FuncId) (args : Array Value) (w' : World) : (execOp a.eval o).run P w ≠ .ok (.enter f args) w' := by
  unfold plainOp at ho
  unfold execOp
  split at ho
  case h_3 c x y hop =>
    simp only [hop]
    rw [Sem.run_bind]
    cases (asBool (a.eval c)).run P w <;> simp [Result.andThen, Sem.run_pure]
  case h_15 => cases ho
  all_goals
    rename_i hop
    simp only [hop]
    first | exact v_no_enter _ w f args w' | (rw [Sem.run_pure]; intro h; cases h)

theorem wpLin_nil {Q : Nat → Act → Prop} {k : Nat} {a : Act} (h : Q k a) : wpLin P ops C Q [] k a := h
/-- operations that are no calls -/
theorem lin_seg {Q : Nat → Act → Prop} {k : Nat} : ∀ (seg rest : List Oper) (a : Act), seg.all (fun o => plainOp o && !isCall o) = true →
    wpQuiet P ops (fun w' => ∃ s : InW (fun w => ∃ k, C k w), w' = s.W) (fun a' => wpLin P ops C Q rest k a') seg a → wpLin P ops C Q (seg ++ rest) k a
  | [], rest, a, _, h => h
  | o :: seg, rest, a, hp, h => by
    rw [List.all_cons, Bool.and_eq_true, Bool.and_eq_true, Bool.not_eq_true'] at hp
    obtain ⟨⟨hpl, hnc⟩, hp'⟩ := hp
    unfold wpQuiet at h
    by_cases hw : Region.wanted o (yielded ops a.tmps) = true
    · rw [if_pos hw] at h
      obtain ⟨v, h1, h2⟩ := h
      refine ⟨v, k, .inl ⟨hw, .inr ⟨hnc, fun w hC => ?_, rfl⟩⟩, lin_seg seg rest _ hp' h2⟩
      have h3 := h1 w ⟨⟨w, hC⟩, rfl⟩
      unfold Oper.quietAt at h3
      have h4 := fun f args w' => plain_no_enter (P := P) hpl a w f args w'
      generalize (execOp a.eval o).run P w = r at *
      cases r with
      | ok n w' =>
        cases n <;> simp only [Oper.quietUpon] at h3 <;> simp only [stillUpon]
        · exact h3
        · exact h3
        · exact (h4 _ _ _ rfl).elim
      | halt x w' => simp only [Oper.quietUpon] at h3
    · rw [if_neg hw] at h
      exact ⟨undef, k, .inr ⟨by simpa using hw, rfl, rfl⟩, lin_seg seg rest _ hp' h⟩
theorem lin_take {Q : Nat → Act → Prop} {k : Nat} (n : Nat) {l : List Oper} {a : Act} (hp : (l.take n).all (fun o => plainOp o && !isCall o) = true)
    (h : wpQuiet P ops (fun w' => ∃ s : InW (fun w => ∃ k, C k w), w' = s.W) (fun a' => wpLin P ops C Q (l.drop n) k a') (l.take n) a) : wpLin P ops C Q l k a := by
  have := lin_seg (l.take n) (l.drop n) a hp h
  rwa [List.take_append_drop] at this
/-- a call -/
theorem lin_call {Q : Nat → Act → Prop} {k : Nat} {o : Oper} {rest : List Oper} {a : Act} (hw : Region.wanted o (yielded ops a.tmps) = true) (hc : isCall o = true) (f : FuncId) (args : Array Value) (v : Value)
    (he : ∀ w, (execOp a.eval o).run P w = .ok (.enter f args) w) (hcall : ∀ w, C k w → Calls P f args w fun e w' => e = .returned v ∧ C (k + 1) w')
    (h : wpLin P ops C Q rest (k + 1) (a.put o.dst v)) : wpLin P ops C Q (o :: rest) k a :=
  ⟨v, k + 1, .inl ⟨hw, .inl ⟨hc, fun w hC => by rw [he]; exact ⟨rfl, hcall w hC⟩, rfl⟩⟩, h⟩
/-- a call that is passed over -/
theorem lin_skip {Q : Nat → Act → Prop} {k : Nat} {o : Oper} {rest : List Oper} {a : Act} (hw : Region.wanted o (yielded ops a.tmps) = false)
    (h : wpLin P ops C Q rest k (a.put o.dst undef)) : wpLin P ops C Q (o :: rest) k a :=
  ⟨undef, k, .inr ⟨hw, rfl, rfl⟩, h⟩

/-- **One walk of the lexical order serves every order.** -/
theorem wp_region_lin (C : Nat → World → Prop) {id : Nat} {Q : Exit → Act → World → Prop} {a : Act} {w : World} {l : List Oper} (hm : P.follows .mixedOrders = true) (hB : Region.lexB .any l.toArray = true) (hch : chainB .any l.toArray = true) (hC : C 0 { w with drawn := w.drawn + 1 })
    (h : Nonempty (InW fun w => ∃ k, C k w) → wpLin P l.toArray C (fun k a' => ∀ w', C k w' → Q .normal a' w') l 0 a) : (Code.region id l.toArray true).wp P Q a w := by
  simp only [Region.lexB, Bool.and_eq_true] at hB
  refine wp_region_any hm (wpAny_of_lin (Q := fun k a' => ∀ w', C k w' → Q .normal a' w') (fun _ _ w' hw' h => h w' hw') _ _ 0 _ _ hC ?_)
  have := wpAnyL_lex (C := C) (md := .any) hch hB.1 l 0 (Array.replicate l.toArray.size false) 0 a (fun i j oi oj hi hj ci cj hij hl => by
      rcases Nat.lt_or_ge j l.toArray.size with h' | h'
      · rw [List.size_toArray] at h'; simp [h'] at hl
      · rw [List.size_toArray] at h'; simp [h'] at hl) (fun j hj => by omega) (by simp) (by simpa using hB.2) (h ⟨⟨_, 0, hC⟩⟩)
  simpa using this
end
/-- the frame written out -/
theorem wpLin_frame {P : Program} {ops : Array Oper} {C : Nat → World → Prop} {Q : Nat → Act → Prop} {l : List Oper} {k : Nat} {a a' : Act} (e : a = a') (h : wpLin P ops C Q l k a') : wpLin P ops C Q l k a := e ▸ h
end Go.Proofs.YtnbmmhoofilmfaaDoor
