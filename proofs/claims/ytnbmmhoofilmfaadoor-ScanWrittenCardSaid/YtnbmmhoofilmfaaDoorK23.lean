/- Texts of this claim, merged by a program (a claim may have 60 files): New. -/
import Derived.Test.YtnbmmhoofilmfaaDoorK22
/- A drawn region that makes one new variable at whatever time: the first n operations in whatever order, each quiet in a class of worlds that grows, the making of a variable among them, and behind them all the others, one behind the other. No program in sight. -/
namespace Go.Proofs.YtnbmmhoofilmfaaDoor
open Go.RowKit
set_option linter.unusedVariables false

def Cl (R : World → Prop) : Prop := ∀ W W', R W → Below W.heap.size W W' → R W'
abbrev cls (S R : World → Prop) : World → Prop := fun w' => ∃ s : InW (fun W => S W ∧ R W), w' = s.W
/-- which operations are apart from the making, and wait -/
def newB (md : Region.Mode) (n : Nat) (ops : Array Oper) : Bool :=
  (List.range ops.size).all fun j => match ops[j]? with
    | none => true
    | some o => if j < n then (match o.guard with | none => true | some (g, _) => decide (g < n)) && ((ops[n]?).map fun al => al.apart ops o).getD false && (List.range n).all (fun i => i == j || ((ops[i]?).map fun oi => (match o.dst with | none => true | some d => oi.dst != some d)).getD true) && (match o.op with | .select _ _ => false | _ => true)
      else if j = n then true else (List.range j).all fun i => o.after.any fun e => Region.binds md e && e.on == i

section
variable {P : Program} {md : Region.Mode} {ops ops1 : Array Oper} {S : World → Prop} {A : Act}

def Fam (P : Program) (md : Region.Mode) (ops1 : Array Oper) (S : World → Prop) (A : Act) (fuel : Nat) (listed : Array Bool) (a : Act) : Prop :=
  ∀ R, Cl R → Nonempty (InW (fun W => S W ∧ R W)) → wpAnyQ P md ops1 (cls S R) (fun a' => a' = A) fuel listed a

theorem put_size' (a : Act) (d : Option Nat) (v : Value) : (a.put d v).tmps.size = a.tmps.size := by cases d <;> simp [Act.put]
theorem put_get_ne (a : Act) (x : Option Nat) (v : Value) (d : Nat) (h : x ≠ some d) : (a.put x v).tmps[d]? = a.tmps[d]? := by
  cases x with
  | none => rfl
  | some e => simp only [Act.put]; rw [Array.getElem?_setIfInBounds_ne]; intro h'; exact h (by rw [h'])
theorem put_get (a : Act) (v : Value) (d : Nat) (h : d < a.tmps.size) : (a.put (some d) v).tmps[d]? = some v := by simp [Act.put, h]

theorem anyQ_keep {C : World → Prop} : ∀ (fuel : Nat) (listed : Array Bool) (a : Act), wpAnyQ P md ops1 C (fun a' => a' = A) fuel listed a → ∀ d, (∀ j o, ops1[j]? = some o → listed.getD j true = false → o.dst ≠ some d) → A.tmps[d]? = a.tmps[d]?
  | 0, listed, a, h, d, hd => by rw [h.2]
  | fuel + 1, listed, a, h, d, hd => by
    by_cases hr : Region.ready md ops1 listed = []
    · rw [h.1 hr]
    · obtain ⟨i, hi⟩ := List.exists_mem_of_ne_nil _ hr
      obtain ⟨hu, o, ho, _⟩ := mem_ready.1 hi
      obtain ⟨v, _, hK⟩ := yieldsIn_of_qOp ho (h.2 i hi)
      rw [anyQ_keep fuel _ _ hK d fun j oj hj hl => ?_, put_get_ne _ _ _ _ (hd i o ho hu)]
      by_cases hji : i = j
      · subst hji
        have hlt : i < listed.size := by
          rcases Nat.lt_or_ge i listed.size with h' | h'
          · exact h'
          · rw [Array.getD_eq_getD_getElem?, Array.getElem?_eq_none h'] at hu; cases hu
        simp [Array.getD_eq_getD_getElem?, hlt] at hl
      · rw [Array.getD_eq_getD_getElem?, Array.getElem?_setIfInBounds_ne hji, ← Array.getD_eq_getD_getElem?] at hl
        exact hd j oj hj hl

theorem fam_step {fuel i : Nat} {listed : Array Bool} {a : Act} {o : Oper} (hG : Fam P md ops1 S A (fuel + 1) listed a) (hi : i ∈ Region.ready md ops1 listed) (ho : ops1[i]? = some o)
    (hd : ∀ d, o.dst = some d → d < a.tmps.size ∧ ∀ j oj, j ≠ i → ops1[j]? = some oj → oj.dst ≠ some d) (hne : Nonempty (InW (fun W => S W ∧ True))) :
    ∃ a', (∀ R, Cl R → Nonempty (InW (fun W => S W ∧ R W)) → ∃ v, a.put o.dst v = a' ∧ YieldsIn P ops1 (cls S R) o v a) ∧ Fam P md ops1 S A fuel (listed.setIfInBounds i true) a' := by
  have hu := (mem_ready.1 hi).1
  have hlt : i < listed.size := by
    rcases Nat.lt_or_ge i listed.size with h' | h'
    · exact h'
    · rw [Array.getD_eq_getD_getElem?, Array.getElem?_eq_none h'] at hu; cases hu
  obtain ⟨v0, _, hK0⟩ := yieldsIn_of_qOp ho ((hG (fun _ => True) (fun _ _ _ _ => trivial) hne).2 i hi)
  have same : ∀ R, Cl R → Nonempty (InW (fun W => S W ∧ R W)) → ∃ v, a.put o.dst v = a.put o.dst v0 ∧ YieldsIn P ops1 (cls S R) o v a ∧ wpAnyQ P md ops1 (cls S R) (fun a' => a' = A) fuel (listed.setIfInBounds i true) (a.put o.dst v) := fun R hR hn => by
    obtain ⟨v, hy, hK⟩ := yieldsIn_of_qOp ho ((hG R hR hn).2 i hi)
    refine ⟨v, ?_, hy, hK⟩
    cases hdd : o.dst with
    | none => rfl
    | some d =>
      obtain ⟨hds, hdn⟩ := hd d hdd
      rw [hdd] at hK hK0
      have no : ∀ j oj, ops1[j]? = some oj → (listed.setIfInBounds i true).getD j true = false → oj.dst ≠ some d := fun j oj hj hl => by
        by_cases hji : j = i
        · subst hji; simp [Array.getD_eq_getD_getElem?, hlt] at hl
        · exact hdn j oj hji hj
      have e1 := anyQ_keep _ _ _ hK d no
      have e0 := anyQ_keep _ _ _ hK0 d no
      rw [put_get _ _ _ hds] at e1 e0
      rw [e1] at e0
      injection e0 with e0
      rw [e0]
  exact ⟨a.put o.dst v0, fun R hR hn => let ⟨v, h1, h2, _⟩ := same R hR hn; ⟨v, h1, h2⟩, fun R hR hn => by
    obtain ⟨v, h1, _, h3⟩ := same R hR hn
    rw [h1] at h3
    exact h3⟩

theorem wpOp_of_yields {C : World → Prop} {i : Nat} {o : Oper} {v : Value} {a ar : Act} {w : World} {K : Act → World → Prop} {Q : Exit → Act → World → Prop} (hi : ops[i]? = some o) (hy : YieldsIn P ops1 C o v a)
    (he : execOp ar.eval o = execOp a.eval o) (hw : Region.wanted o (yielded ops ar.tmps) = Region.wanted o (yielded ops1 a.tmps)) (hC : C w) (h : ∀ w', C w' → K (ar.put o.dst v) w') : wpOp P ops Q i K ar w := by
  have hy' : YieldsIn P ops C o v ar := by
    unfold YieldsIn Oper.quietAt at *
    rw [he, hw]
    exact hy
  exact wpOp_of_qOp hC (K := fun a' => a' = ar.put o.dst v) (fun a' w' hw' e => by rw [e]; exact h w' hw') (hy'.qOp hi rfl)

variable {n d : Nat} {al : Oper} {l2 : List Oper} {T : TypeId} {cs : Array Value} {Q : Exit → Act → World → Prop} {base : Nat}

theorem newB_pre (h : newB md n ops = true) {j : Nat} {o : Oper} (hj : ops[j]? = some o) (hn : j < n) (hal : ops[n]? = some al) :
    (∀ g b, o.guard = some (g, b) → g < n) ∧ al.apart ops o = true ∧ (∀ d, o.dst = some d → ∀ i oi, i < n → i ≠ j → ops[i]? = some oi → oi.dst ≠ some d) ∧ (∀ cs b, o.op ≠ .select cs b) := by
  unfold newB at h
  rw [List.all_eq_true] at h
  have h1 := h j (List.mem_range.2 (Array.getElem?_eq_some_iff.1 hj).1)
  simp only [hj, if_pos hn, hal, Option.map_some, Option.getD_some, Bool.and_eq_true] at h1
  obtain ⟨⟨⟨h1, h2⟩, h3⟩, h4⟩ := h1
  refine ⟨fun g b hg => ?_, h2, fun d hd i oi hi hij hoi => ?_, fun cs b hs => by rw [hs] at h4; cases h4⟩
  · rw [hg] at h1; simpa using h1
  · rw [List.all_eq_true] at h3
    have := h3 i (List.mem_range.2 hi)
    rw [hd] at this
    simp only [hoi, Option.map_some, Option.getD_some, Bool.or_eq_true, beq_iff_eq] at this
    rcases this with h | h
    · exact absurd h hij
    · simpa using h
theorem newB_bar (h : newB md n ops = true) : ∀ {j : Nat} {o : Oper}, ops[j]? = some o → n < j → ∀ {i : Nat}, i < j → ∃ e ∈ o.after, Region.binds md e = true ∧ e.on = i := fun {j o} hj hn {i} hi => by
  unfold newB at h
  rw [List.all_eq_true] at h
  have h1 := h j (List.mem_range.2 (Array.getElem?_eq_some_iff.1 hj).1)
  simp only [hj, if_neg (show ¬ j < n by omega), if_neg (show ¬ j = n by omega), List.all_eq_true] at h1
  have h2 := h1 i (List.mem_range.2 hi)
  rw [Array.any_eq_true'] at h2
  obtain ⟨e, he, hb⟩ := h2
  rw [Bool.and_eq_true, beq_iff_eq] at hb
  exact ⟨e, he, hb.1, hb.2⟩
theorem barB_of (hb : ∀ {j : Nat} {o : Oper}, ops[j]? = some o → n < j → ∀ {i : Nat}, i < j → ∃ e ∈ o.after, Region.binds md e = true ∧ e.on = i) (hg : ∀ j o g b, ops[j]? = some o → j < n + 1 → o.guard = some (g, b) → g < n + 1) : barB md (n + 1) ops = true := by
  unfold barB
  rw [List.all_eq_true]
  intro j hj
  cases ho : ops[j]? with
  | none => rfl
  | some o =>
    by_cases h : j < n + 1
    · simp only [if_pos h]
      cases hgd : o.guard with
      | none => rfl
      | some p => simpa using hg j o p.1 p.2 ho h hgd
    · simp only [if_neg h, List.all_eq_true]
      intro i hi
      obtain ⟨e, he, h1, h2⟩ := hb ho (by omega) (List.mem_range.1 hi)
      rw [Array.any_eq_true']
      exact ⟨e, he, by simp [h1, h2]⟩

structure Setup (P : Program) (md : Region.Mode) (ops ops1 : Array Oper) (S : World → Prop) (A : Act) (n d : Nat) (al : Oper) (l2 : List Oper) (T : TypeId) (cs : Array Value) (Q : Exit → Act → World → Prop) (base : Nat) : Prop where
  nb : newB md n ops = true
  bar : barB md (n + 1) ops = true
  dn : downB md ops = true
  dn1 : downB md ops1 = true
  size1 : ops1.size = n
  same : ∀ i, i < n → ops1[i]? = ops[i]?
  atn : ops[n]? = some al
  gd : al.guard = none
  dst : al.dst = some d
  rest : ∀ j, l2[j]? = ops[n + 1 + j]?
  dsz : ∀ i o x, i < n → ops[i]? = some o → o.dst = some x → x < A.tmps.size
  cl : Cl S
  run : ∀ (a : Act) W, (execOp a.eval al).run P W = .ok (.value (.pointer (some ⟨W.heap.size, 0, none⟩))) (W.alloc (.cells cs T))
  grow : ∀ W, S W → base ≤ W.heap.size
  cont : ∀ w p, S w → w.heap[p]? = some (.cells cs T (0, 0)) → base ≤ p → wpList P ops Q l2 (A.put (some d) (.pointer (some ⟨p, 0, none⟩))) w

theorem Setup.nle (h : Setup P md ops ops1 S A n d al l2 T cs Q base) : n < ops.size := (Array.getElem?_eq_some_iff.1 h.atn).1

theorem Setup.want (H : Setup P md ops ops1 S A n d al l2 T cs Q base) {i : Nat} {o : Oper} (hi : i < n) (ho : ops[i]? = some o) (a : Act) : Region.wanted o (yielded ops a.tmps) = Region.wanted o (yielded ops1 a.tmps) := by
  unfold Region.wanted
  cases hg : o.guard with
  | none => rfl
  | some p =>
    obtain ⟨g, b⟩ := p
    have := (newB_pre H.nb ho hi H.atn).1 g b hg
    simp only [yielded, H.same g this]

/-- behind the making -/
theorem new_B (H : Setup P md ops ops1 S A n d al l2 T cs Q base) (p : Nat) (hp : base ≤ p) : ∀ (fuel : Nat) (listed1 listed : Array Bool) (a : Act) (w : World), S w → w.heap[p]? = some (.cells cs T (0, 0)) → a.tmps.size = A.tmps.size → listed1.size = n → listed.size = ops.size →
    (∀ i, i < n → listed1[i]? = listed[i]?) → listed.getD n false = true → (∀ i, n < i → i < ops.size → listed.getD i true = false) → Fam P md ops1 S A fuel listed1 a → wpAny P md ops Q (l2.length + fuel) listed (a.put (some d) (.pointer (some ⟨p, 0, none⟩))) w := by
  have hnn := H.nle
  have hcl : Cl (fun W => W.heap[p]? = some (.cells cs T (0, 0))) := fun W W' h hb => (hb.block p (Array.getElem?_eq_some_iff.1 h).1).trans h
  have done : ∀ (fuel : Nat) (listed1 listed : Array Bool) (a : Act) (w : World), S w → w.heap[p]? = some (.cells cs T (0, 0)) → listed1.size = n → listed.size = ops.size → (∀ i, i < n → listed1[i]? = listed[i]?) → listed.getD n false = true → (∀ i, n < i → i < ops.size → listed.getD i true = false) →
      Region.ready md ops1 listed1 = [] → a = A → wpAny P md ops Q (l2.length + fuel) listed (a.put (some d) (.pointer (some ⟨p, 0, none⟩))) w := fun fuel listed1 listed a w hw hA hs1 hs hll hn h0 hr hq => by
    subst hq
    refine bar_tail H.bar H.dn l2 (n + 1) fuel listed _ w (Nat.le_refl _) H.rest hs (fun i hi => ?_) (fun i hi => h0 i (by omega)) (H.cont w p hw hA hp)
    by_cases hin : i = n
    · rw [hin]; exact hn
    · have := ready_nil H.dn1 (by rw [hs1, H.size1]) hr i (by rw [H.size1]; omega)
      rw [Array.getD_eq_getD_getElem?, hll i (by omega), ← Array.getD_eq_getD_getElem?] at this
      exact this
  intro fuel
  induction fuel with
  | zero =>
    intro listed1 listed a w hw hA hsz hs1 hs hll hn h0 h
    have h' := h (fun W => W.heap[p]? = some (.cells cs T (0, 0))) hcl ⟨⟨w, hw, hA⟩⟩
    exact done 0 listed1 listed a w hw hA hs1 hs hll hn h0 h'.1 h'.2
  | succ fuel ih =>
    intro listed1 listed a w hw hA hsz hs1 hs hll hn h0 h
    by_cases hr : Region.ready md ops1 listed1 = []
    · exact done _ listed1 listed a w hw hA hs1 hs hll hn h0 hr ((h (fun W => W.heap[p]? = some (.cells cs T (0, 0))) hcl ⟨⟨w, hw, hA⟩⟩).1 hr)
    · obtain ⟨i0, hi0⟩ := List.exists_mem_of_ne_nil _ hr
      obtain ⟨hu0, o0, ho0, hall0⟩ := mem_ready.1 hi0
      have hi0n : i0 < n := by rw [← H.size1]; exact (Array.getElem?_eq_some_iff.1 ho0).1
      have get : ∀ i, i < n → ∀ x, listed1.getD i x = listed.getD i x := fun i hi x => by rw [Array.getD_eq_getD_getElem?, Array.getD_eq_getD_getElem?, hll i hi]
      have up : i0 ∈ Region.ready md ops listed := mem_ready.2 ⟨by rw [← get i0 hi0n]; exact hu0, o0, by rw [← H.same i0 hi0n]; exact ho0, fun e he hbe => by
        have hlt := downB_spec H.dn1 ho0 he hbe
        rw [← get e.on (by omega)]; exact hall0 e he hbe⟩
      rw [show l2.length + (fuel + 1) = (l2.length + fuel) + 1 by omega]
      refine ⟨fun hrr => (by rw [hrr] at up; cases up), fun i hi => ?_⟩
      obtain ⟨hu, o, ho, hall⟩ := mem_ready.1 hi
      have hin : i < n := by
        rcases Nat.lt_trichotomy i n with hh | hh | hh
        · exact hh
        · subst hh
          rw [Array.getD_eq_getD_getElem?, Array.getElem?_eq_getElem (by omega)] at hu hn
          simp at hu hn
          rw [hn] at hu; cases hu
        · obtain ⟨e, he, hbe, hon⟩ := newB_bar H.nb ho hh (i := i0) (by omega)
          have hx := hall e he hbe
          rw [hon, ← get i0 hi0n] at hx
          rw [Array.getD_eq_getD_getElem?, Array.getElem?_eq_getElem (by omega)] at hx hu0
          simp at hx hu0
          rw [hx] at hu0; cases hu0
      have ho1 : ops1[i]? = some o := by rw [H.same i hin]; exact ho
      have hi1 : i ∈ Region.ready md ops1 listed1 := mem_ready.2 ⟨by rw [get i hin]; exact hu, o, ho1, fun e he hbe => by
        have hlt := downB_spec H.dn1 ho1 he hbe
        rw [get e.on (by omega)]; exact hall e he hbe⟩
      obtain ⟨_, hap, hds, hsel⟩ := newB_pre H.nb ho hin H.atn
      obtain ⟨a', hy, hG⟩ := fam_step h hi1 ho1 (fun x hx => ⟨by rw [hsz]; exact H.dsz i o x hin ho hx, fun j oj hj hoj => by
        have hjn : j < n := by rw [← H.size1]; exact (Array.getElem?_eq_some_iff.1 hoj).1
        exact hds x hx j oj hjn hj (by rw [← H.same j hjn]; exact hoj)⟩) ⟨⟨w, hw, trivial⟩⟩
      obtain ⟨v, hv, hyy⟩ := hy (fun W => W.heap[p]? = some (.cells cs T (0, 0))) hcl ⟨⟨w, hw, hA⟩⟩
      obtain ⟨h1, h2, h3⟩ := Oper.apart_spec hap
      refine wpOp_of_yields ho hyy (execOp_put (ops := ops) o hsel a (some d) _ (fun x hx => h1 x (by rw [H.dst]; exact hx))) ?_ ⟨⟨w, hw, hA⟩, rfl⟩ (fun w' hw' => ?_)
      · rw [wanted_put o a (some d) _ (fun x hx => h1 x (by rw [H.dst]; exact hx))]
        exact H.want hin ho a
      · obtain ⟨s, rfl⟩ := hw'
        rw [Act.put_comm a _ _ (fun x hx => h2 x (by rw [H.dst]; exact hx)), hv]
        refine ih (listed1.setIfInBounds i true) (listed.setIfInBounds i true) a' s.W s.h.1 s.h.2 (by rw [← hv, put_size']; exact hsz) (by simpa using hs1) (by simpa using hs) (fun j hj => ?_) ?_ (fun j hj hjs => ?_) hG
        · by_cases hji : i = j
          · subst hji; simp [hs1, hs, hj, show i < ops.size by omega]
          · rw [Array.getElem?_setIfInBounds_ne hji, Array.getElem?_setIfInBounds_ne hji]; exact hll j hj
        · rw [Array.getD_eq_getD_getElem?, Array.getElem?_setIfInBounds_ne (by omega), ← Array.getD_eq_getD_getElem?]; exact hn
        · rw [Array.getD_eq_getD_getElem?, Array.getElem?_setIfInBounds_ne (by omega), ← Array.getD_eq_getD_getElem?]; exact h0 j hj hjs

/-- ahead of the making -/
theorem new_A (H : Setup P md ops ops1 S A n d al l2 T cs Q base) : ∀ (fuel : Nat) (listed1 listed : Array Bool) (a : Act) (w : World), S w → a.tmps.size = A.tmps.size → listed1.size = n → listed.size = ops.size →
    (∀ i, i < n → listed1[i]? = listed[i]?) → listed.getD n true = false → (∀ i, n < i → i < ops.size → listed.getD i true = false) → Fam P md ops1 S A fuel listed1 a → wpAny P md ops Q (l2.length + fuel + 1) listed a w := by
  have hnn := H.nle
  intro fuel
  induction fuel with
  | zero | succ fuel ih =>
    intro listed1 listed a w hw hsz hs1 hs hll hn h0 h
    have get : ∀ i, i < n → ∀ x, listed1.getD i x = listed.getD i x := fun i hi x => by rw [Array.getD_eq_getD_getElem?, Array.getD_eq_getD_getElem?, hll i hi]
    have hne : Nonempty (InW (fun W => S W ∧ True)) := ⟨⟨w, hw, trivial⟩⟩
    have hT := h (fun _ => True) (fun _ _ _ _ => trivial) hne
    have hnlt : listed.getD n false = false := by
      rw [Array.getD_eq_getD_getElem?, Array.getElem?_eq_getElem (by omega)] at hn ⊢; simpa using hn
    refine ⟨fun hrr => ?_, fun i hi => ?_⟩
    · exfalso
      have := ready_nil H.dn hs hrr n hnn
      rw [this] at hnlt; cases hnlt
    · obtain ⟨hu, o, ho, hall⟩ := mem_ready.1 hi
      rcases Nat.lt_trichotomy i n with hh | hh | hh
      · have ho1 : ops1[i]? = some o := by rw [H.same i hh]; exact ho
        have hi1 : i ∈ Region.ready md ops1 listed1 := mem_ready.2 ⟨by rw [get i hh]; exact hu, o, ho1, fun e he hbe => by
          have hlt := downB_spec H.dn1 ho1 he hbe
          rw [get e.on (by omega)]; exact hall e he hbe⟩
        first
        | (rw [hT.1] at hi1; cases hi1)
        | (obtain ⟨_, hap, hds, hsel⟩ := newB_pre H.nb ho hh H.atn
           obtain ⟨a', hy, hG⟩ := fam_step h hi1 ho1 (fun x hx => ⟨by rw [hsz]; exact H.dsz i o x hh ho hx, fun j oj hj hoj => by
             have hjn : j < n := by rw [← H.size1]; exact (Array.getElem?_eq_some_iff.1 hoj).1
             exact hds x hx j oj hjn hj (by rw [← H.same j hjn]; exact hoj)⟩) hne
           obtain ⟨v, hv, hyy⟩ := hy (fun _ => True) (fun _ _ _ _ => trivial) hne
           refine wpOp_of_yields ho hyy rfl (H.want hh ho a) ⟨⟨w, hw, trivial⟩, rfl⟩ (fun w' hw' => ?_)
           obtain ⟨s, rfl⟩ := hw'
           rw [hv]
           refine ih (listed1.setIfInBounds i true) (listed.setIfInBounds i true) a' s.W s.h.1 (by rw [← hv, put_size']; exact hsz) (by simpa using hs1) (by simpa using hs) (fun j hj => ?_) ?_ (fun j hj hjs => ?_) hG
           · by_cases hji : i = j
             · subst hji; simp [hs1, hs, hj, show i < ops.size by omega]
             · rw [Array.getElem?_setIfInBounds_ne hji, Array.getElem?_setIfInBounds_ne hji]; exact hll j hj
           · rw [Array.getD_eq_getD_getElem?, Array.getElem?_setIfInBounds_ne (by omega), ← Array.getD_eq_getD_getElem?]; exact hn
           · rw [Array.getD_eq_getD_getElem?, Array.getElem?_setIfInBounds_ne (by omega), ← Array.getD_eq_getD_getElem?]; exact h0 j hj hjs)
      · subst hh
        obtain rfl : al = o := by rw [H.atn] at ho; injection ho
        have hwant : Region.wanted al (yielded ops a.tmps) = true := by unfold Region.wanted; rw [H.gd]
        unfold wpOp
        simp only [ho, hwant, if_true]
        refine .inl ?_
        unfold Oper.wp
        rw [H.run a w]
        simp only [Oper.upon]
        rw [H.dst]
        refine new_B H w.heap.size (H.grow w hw) _ listed1 (listed.setIfInBounds i true) a (w.alloc (.cells cs T)) (H.cl _ _ hw ((Below.refl _ _).alloc (Nat.le_refl _) _)) (heap_alloc_new w _) hsz hs1 (by simpa using hs) (fun j hj => ?_) ?_ (fun j hj hjs => ?_) h
        · rw [Array.getElem?_setIfInBounds_ne (by omega)]; exact hll j hj
        · simp [Array.getD_eq_getD_getElem?, show i < listed.size by omega]
        · rw [Array.getD_eq_getD_getElem?, Array.getElem?_setIfInBounds_ne (by omega), ← Array.getD_eq_getD_getElem?]; exact h0 j hj hjs
      · exfalso
        obtain ⟨e, he, hbe, hon⟩ := newB_bar H.nb ho hh (i := n) hh
        have hx := hall e he hbe
        rw [hon, hnlt] at hx; cases hx

/-- **A drawn region that makes a variable.** A: the frame when the first n operations have come up. -/
theorem wp_region_new (S : World → Prop) (n d : Nat) (T : TypeId) (cs : Array Value) (base : Nat) (A : Act) {id : Nat} {Q : Exit → Act → World → Prop} {a : Act} {w : World} {L : List Oper} (hm : P.follows .mixedOrders = true) (hB : Region.lexB .any (L.take n).toArray = true)
    (hnb : newB .any n L.toArray = true) (hd : downB .any L.toArray = true) (hd1 : downB .any (L.take n).toArray = true)
    (hg : (List.range (n + 1)).all (fun j => (L[j]?.map fun o => match o.guard with | none => true | some (g, _) => decide (g < n + 1)).getD true) = true)
    (hdz : (L.take n).all (fun o => match o.dst with | none => true | some x => decide (x < a.tmps.size)) = true) (al : Oper) (hal : L[n]? = some al) (hgd : al.guard = none) (hdst : al.dst = some d)
    (hrun : ∀ (a : Act) W, (execOp a.eval al).run P W = .ok (.value (.pointer (some ⟨W.heap.size, 0, none⟩))) (W.alloc (.cells cs T)))
    (hcl : Cl S) (hgrow : ∀ W, S W → base ≤ W.heap.size) (hS : S { w with drawn := w.drawn + 1 })
    (h : ∀ R, Cl R → Nonempty (InW (fun W => S W ∧ R W)) → wpQuiet P (L.take n).toArray (fun w' => ∃ s : InW (fun W => S W ∧ R W), w' = s.W) (fun a' => a' = A) (L.take n) a)
    (hcont : ∀ w p, S w → w.heap[p]? = some (.cells cs T (0, 0)) → base ≤ p → wpList P L.toArray Q (L.drop (n + 1)) (A.put (some d) (.pointer (some ⟨p, 0, none⟩))) w) : (Code.region id L.toArray true).wp P Q a w := by
  have hn : n < L.length := (List.getElem?_eq_some_iff.1 hal).1
  simp only [Region.lexB, Bool.and_eq_true] at hB
  have hlen : (L.take n).length = n := by simp; omega
  have hG : Fam P .any (L.take n).toArray S A n (Array.replicate n false) a := fun R hR hne => by
    have := wpAnyQ_lex (C := cls S R) (md := .any) hB.1 (L.take n) 0 (Array.replicate n false) a (by simp) (by have := hB.2; simpa [Nat.min_eq_left (Nat.le_of_lt hn)] using this) (h R hR hne)
    rwa [hlen] at this
  have hsz : a.tmps.size = A.tmps.size := by
    have key : ∀ (l : List Oper) (a : Act) (C : World → Prop) (ops : Array Oper), wpQuiet P ops C (fun a' => a' = A) l a → a.tmps.size = A.tmps.size := fun l => by
      induction l with
      | nil => intro a C ops h; rw [show a = A from h]
      | cons o l ih =>
        intro a C ops h
        unfold wpQuiet at h
        split at h
        · obtain ⟨v, _, h2⟩ := h; have := ih _ _ _ h2; rwa [put_size'] at this
        · have := ih _ _ _ h; rwa [put_size'] at this
    exact key _ _ _ _ (h (fun _ => True) (fun _ _ _ _ => trivial) ⟨⟨_, hS, trivial⟩⟩)
  have H : Setup P .any L.toArray (L.take n).toArray S A n d al (L.drop (n + 1)) T cs Q base := {
    nb := hnb, dn := hd, dn1 := hd1, size1 := by simpa using hlen, same := fun i hi => by simp [hi], atn := by simpa using hal, gd := hgd, dst := hdst
    bar := barB_of (newB_bar hnb) (fun j o g b ho hj hgg => by
      rw [List.all_eq_true] at hg
      have := hg j (List.mem_range.2 hj)
      rw [show L[j]? = some o by simpa using ho] at this
      simp only [Option.map_some, Option.getD_some, hgg] at this
      simpa using this)
    rest := fun j => by simp, cl := hcl, run := hrun, grow := hgrow, cont := hcont
    dsz := fun i o x hi ho hx => by
      rw [List.all_eq_true] at hdz
      have := hdz o (List.mem_of_getElem? (i := i) (by simpa [hi] using ho))
      rw [hx] at this
      rw [← hsz]; simpa using this }
  have := new_A H n (Array.replicate n false) (Array.replicate L.length false) a { w with drawn := w.drawn + 1 } hS hsz (by simp) (by simp) (fun i hi => by simp [hi, show i < L.length by omega])
    (by simp [hn]) (fun i hi hs => by simp at hs; simp [hs]) hG
  rw [show (L.drop (n + 1)).length + n + 1 = L.length by simp; omega] at this
  refine wp_region_any hm ?_
  simpa using this
end
end Go.Proofs.YtnbmmhoofilmfaaDoor
