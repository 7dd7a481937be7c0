/- Texts merged: CopyQ, Tab, TabB, Pk17, Pk18, Pk19, Pk20. -/
import Derived.Test.YthkalmdpbhjafaaDoorMg1
import Derived.Test.YthkalmdpbhjafaaDoorPk16
import Derived.Test.YthkalmdpbhjafaaDoorR9d
import Derived.Laws.OwnMore
import Derived.Test.YthkalmdpbhjafaaDoorPk12
/- Small words on frames. No program in sight. -/
namespace Go.Proofs.YthkalmdpbhjafaaDoor.Tb
open Go.RowKit
set_option linter.unusedVariables false

theorem wpOp_of {P : Program} {ops : Array Oper} {Q : Exit → Act → World → Prop} {i : Nat} {o : Oper} {K : Act → World → Prop} {a : Act} {w : World} (hi : ops[i]? = some o) (hg : o.guard = none) (h : o.wp P a w K Q) : wpOp P ops Q i K a w := by
  unfold wpOp
  rw [hi]
  have : Region.wanted o (yielded ops a.tmps) = true := by unfold Region.wanted; rw [hg]
  simp only [this, if_true]
  exact .inl h
theorem put_size (a : Act) (d : Nat) (v : Value) : (a.put (some d) v).tmps.size = a.tmps.size := by simp [Act.put]
theorem put_same (a : Act) (d : Nat) (v : Value) (h : d < a.tmps.size) : (a.put (some d) v).tmps.getD d undef = v := by simp [Act.put, Array.getD_eq_getD_getElem?, h]
theorem put_other (a : Act) (d s : Nat) (v : Value) (h : s ≠ d) : (a.put (some d) v).tmps.getD s undef = a.tmps.getD s undef := by
  simp only [Act.put, Array.getD_eq_getD_getElem?, Array.getElem?_setIfInBounds_ne (Ne.symm h)]
end Go.Proofs.YthkalmdpbhjafaaDoor.Tb

/- A drawn region of plain operations, new blocks and stores into these, in whatever order they may come: by one walk of its plain operations in their text's order. No program in sight. -/
namespace Go.Proofs.YthkalmdpbhjafaaDoor.Tb
open Go.RowKit
set_option linter.unusedVariables false

/-- a block that the region makes: operation i lays it, its pointer into slot d; operation st stores into it -/
structure Al where
  i : Nat
  d : Nat
  T : TypeId
  cs : Array Value
  st : Nat
  cs1 : Array Value

def inSt (sk : List (Nat × Nat × Nat)) (n : Nat) : Bool := sk.any fun x => x.2.2 == n
def inAl (sk : List (Nat × Nat × Nat)) (n : Nat) : Bool := sk.any fun x => x.1 == n
/-- the operations that are neither of the makings nor of the stores -/
def plain (sk : List (Nat × Nat × Nat)) : Nat → List Oper → List Oper
  | _, [] => []
  | n, o :: l => if inAl sk n || inSt sk n then plain sk (n + 1) l else o :: plain sk (n + 1) l
def readsT (o : Oper) (s : Nat) : Bool := o.op.operands.toList.any fun x => match x with | .tmp t => t == s | _ => false
/-- each operation's own look -/
def okOp (md : Region.Mode) (ops : Array Oper) (sk : List (Nat × Nat × Nat)) (n : Nat) (o : Oper) : Bool :=
  (match o.guard with | none => true | some _ => false) && (match o.op with | .select _ _ => false | _ => true) &&
  -- what it reads has come up, or nobody writes it
  (List.range ops.size).all (fun j => match ops[j]? with
    | none => true
    | some oj => match oj.dst with
      | none => true
      | some d => (!readsT o d || o.after.any fun e => Region.binds md e && e.on == j) && (decide (j = n) || (match o.dst with | none => true | some d' => d != d')) && (!(inAl sk j) || inSt sk n || !readsT o d)) &&
  (if inSt sk n then (match o.dst with | none => true | some _ => false) && !inAl sk n && sk.all (fun x => x.2.2 != n || o.after.any fun e => Region.binds md e && e.on == x.1)
   else (match o.dst with | none => false | some _ => true) && sk.all (fun x => if x.1 == n then o.dst == some x.2.1 else o.dst != some x.2.1))
def okB (md : Region.Mode) (ops : Array Oper) (sk : List (Nat × Nat × Nat)) : Bool :=
  (List.range ops.size).all fun n => match ops[n]? with
    | none => true
    | some o => okOp md ops sk n o
/-- its slots lie in the frame -/
def slotsB (L : List Oper) (sz : Nat) : Bool := L.all fun o => match o.dst with | none => true | some d => decide (d < sz)
/-- the blocks are told apart -/
def apartB : List (Nat × Nat × Nat) → Bool
  | [] => true
  | x :: l => l.all (fun y => x.1 != y.1 && x.2.1 != y.2.1 && x.2.2 != y.2.2 && x.1 != y.2.2 && x.2.2 != y.1) && x.1 != x.2.2 && apartB l

section
variable {P : Program}
theorem eval_same {a b : Act} {x : Operand} (h : ∀ s, x = .tmp s → a.tmps.getD s undef = b.tmps.getD s undef) : a.eval x = b.eval x := by
  cases x with
  | tmp t => exact h t rfl
  | const v => rfl
  | global g => rfl
  | func f => rfl
theorem reads_mem {o : Oper} {x : Operand} {s : Nat} (hx : x ∈ o.op.operands) (he : x = .tmp s) : readsT o s = true := by
  unfold readsT
  rw [List.any_eq_true]
  exact ⟨x, by simpa using hx, by rw [he]; simp⟩
/-- the last frame of a plain walk holds each operation's value, and each operation yields it there -/
theorem walk_get {ops : Array Oper} {C : World → Prop} {A : Act} : ∀ (l : List Oper) (a : Act), (∀ o ∈ l, o.guard = none ∧ (∀ cs b, o.op ≠ .select cs b) ∧ ∃ d, o.dst = some d ∧ d < a.tmps.size) → l.Pairwise (fun x y => x.dst ≠ y.dst ∧ (∀ d, y.dst = some d → readsT x d = false)) → (∀ o ∈ l, ∀ d, o.dst = some d → readsT o d = false) →
    wpQuiet P ops C (fun a' => a' = A) l a → A.defers = a.defers ∧ A.tmps.size = a.tmps.size ∧ (∀ s, (∀ o ∈ l, o.dst ≠ some s) → A.tmps.getD s undef = a.tmps.getD s undef) ∧ ∀ o ∈ l, ∀ d, o.dst = some d → ∀ w, C w → o.quietAt P A C w (A.tmps.getD d undef)
  | [], a, _, _, _, h => by
    have h : a = A := h
    subst h
    exact ⟨rfl, rfl, fun _ _ => rfl, fun o ho => by cases ho⟩
  | o :: l, a, hg, hp, hr, h => by
    obtain ⟨hgo, hso, d, hd, hlt⟩ := hg o (by simp)
    obtain ⟨hp1, hp2⟩ := List.pairwise_cons.1 hp
    unfold wpQuiet at h
    rw [if_pos (by unfold Region.wanted; rw [hgo])] at h
    obtain ⟨v, hv, hk⟩ := h
    rw [hd] at hk
    obtain ⟨i1, i2, i3, i4⟩ := walk_get l (a.put (some d) v) (fun o' ho' => by
      obtain ⟨h1, h2, d', h3, h4⟩ := hg o' (by simp [ho'])
      exact ⟨h1, h2, d', h3, by rw [put_size]; exact h4⟩) hp2 (fun o' ho' => hr o' (by simp [ho'])) hk
    have hAd : A.tmps.getD d undef = v := by
      rw [i3 d (fun o' ho' e => (hp1 o' ho').1 (hd.trans e.symm))]
      exact put_same _ _ _ hlt
    have hoth : ∀ s, (∀ o' ∈ o :: l, o'.dst ≠ some s) → A.tmps.getD s undef = a.tmps.getD s undef := fun s hs => by
      rw [i3 s (fun o' ho' => hs o' (by simp [ho']))]
      exact put_other _ _ _ _ (fun e => hs o (by simp) (by rw [hd, e]))
    refine ⟨i1, i2.trans (put_size _ _ _), hoth, ?_⟩
    intro o' ho' d' hd' w hw
    rcases List.mem_cons.1 ho' with rfl | ho'
    · have e : d = d' := by rw [hd] at hd'; injection hd'
      subst e
      rw [hAd]
      have := hv w hw
      unfold Oper.quietAt at this ⊢
      rw [execOp_congr (ρ := A.eval) (ρ' := a.eval) o' hso fun x hx => eval_same fun s hs => ?_]
      · exact this
      · refine hoth s fun o2 ho2 e => ?_
        have h1 := reads_mem hx hs
        rcases List.mem_cons.1 ho2 with rfl | ho2
        · rw [hr o2 (by simp) s e] at h1; cases h1
        · rw [(hp1 o2 ho2).2 s e] at h1; cases h1
    · exact i4 o' ho' d' hd' w hw

def skOf (als : List Al) : List (Nat × Nat × Nat) := als.map fun x => (x.i, x.d, x.st)
def ptrOf : Value → Nat
  | .pointer (some p) => p.block
  | _ => 0
theorem plain_mem {sk : List (Nat × Nat × Nat)} {o : Oper} : ∀ (L : List Oper) (n : Nat), o ∈ plain sk n L → ∃ i, L[i]? = some o ∧ inAl sk (n + i) = false ∧ inSt sk (n + i) = false
  | [], _, h => by cases h
  | o' :: L, n, h => by
    unfold plain at h
    split at h
    · obtain ⟨i, h1, h2, h3⟩ := plain_mem L (n + 1) h
      exact ⟨i + 1, by simpa using h1, by rw [← h2]; congr 1; omega, by rw [← h3]; congr 1; omega⟩
    · next hc =>
      rcases List.mem_cons.1 h with rfl | h
      · refine ⟨0, rfl, ?_, ?_⟩ <;> rw [Nat.add_zero] <;> revert hc <;> cases inAl sk n <;> cases inSt sk n <;> simp
      · obtain ⟨i, h1, h2, h3⟩ := plain_mem L (n + 1) h
        exact ⟨i + 1, by simpa using h1, by rw [← h2]; congr 1; omega, by rw [← h3]; congr 1; omega⟩
theorem mem_plain {sk : List (Nat × Nat × Nat)} {o : Oper} : ∀ (L : List Oper) (n i : Nat), L[i]? = some o → inAl sk (n + i) = false → inSt sk (n + i) = false → o ∈ plain sk n L
  | [], _, i, h, _, _ => by simp at h
  | o' :: L, n, 0, h, h1, h2 => by
    have : o' = o := by simpa using h
    subst this
    unfold plain
    rw [if_neg (by rw [Nat.add_zero] at h1 h2; rw [h1, h2]; simp)]
    simp
  | o' :: L, n, i + 1, h, h1, h2 => by
    have := mem_plain (sk := sk) (o := o) L (n + 1) i (by simpa using h) (by rw [← h1]; congr 1; omega) (by rw [← h2]; congr 1; omega)
    unfold plain
    split
    · exact this
    · simp [this]
theorem plain_pair {sk : List (Nat × Nat × Nat)} {R : Oper → Oper → Prop} : ∀ (L : List Oper) (n : Nat), (∀ (i j : Nat) (x y : Oper), i < j → L[i]? = some x → L[j]? = some y → inSt sk (n + i) = false → R x y) → (plain sk n L).Pairwise R
  | [], _, _ => List.Pairwise.nil
  | o :: L, n, h => by
    have ih := plain_pair (sk := sk) (R := R) L (n + 1) (fun i j x y hij hx hy hs => h (i + 1) (j + 1) x y (by omega) (by simpa using hx) (by simpa using hy) (by rw [← hs]; congr 1; omega))
    unfold plain
    split
    · exact ih
    · next hc =>
      refine List.pairwise_cons.2 ⟨fun y hy => ?_, ih⟩
      obtain ⟨i, hi, _⟩ := plain_mem L (n + 1) hy
      exact h 0 (i + 1) o y (by omega) rfl (by simpa using hi) (by rw [Nat.add_zero]; revert hc; cases inAl sk n <;> cases inSt sk n <;> simp)

structure Ok (md : Region.Mode) (L : List Oper) (sk : List (Nat × Nat × Nat)) (i : Nat) (o : Oper) : Prop where
  g : o.guard = none
  s : ∀ cs b, o.op ≠ .select cs b
  r : ∀ j oj d, L[j]? = some oj → oj.dst = some d → readsT o d = true → ∃ e ∈ o.after, Region.binds md e = true ∧ e.on = j
  d : ∀ j oj d, L[j]? = some oj → oj.dst = some d → j ≠ i → o.dst ≠ some d
  a : ∀ j oj d, L[j]? = some oj → oj.dst = some d → inAl sk j = true → inSt sk i = false → readsT o d = false
  st : inSt sk i = true → o.dst = none ∧ inAl sk i = false ∧ ∀ x ∈ sk, x.2.2 = i → ∃ e ∈ o.after, Region.binds md e = true ∧ e.on = x.1
  ns : inSt sk i = false → (∃ d, o.dst = some d) ∧ ∀ x ∈ sk, (x.1 = i → o.dst = some x.2.1) ∧ (x.1 ≠ i → o.dst ≠ some x.2.1)
theorem ok_of {md : Region.Mode} {L : List Oper} {sk : List (Nat × Nat × Nat)} (h : okB md L.toArray sk = true) {i : Nat} {o : Oper} (hi : L[i]? = some o) : Ok md L sk i o := by
  unfold okB at h
  rw [List.all_eq_true] at h
  have hlt : i < L.length := (List.getElem?_eq_some_iff.1 hi).1
  have h1 := h i (List.mem_range.2 (by simpa using hlt))
  rw [show L.toArray[i]? = some o by simpa using hi] at h1
  simp only at h1
  unfold okOp at h1
  simp only [Bool.and_eq_true] at h1
  obtain ⟨⟨⟨hg, hs⟩, hr⟩, hk⟩ := h1
  have hgn : o.guard = none := by cases hgg : o.guard with | none => rfl | some x => rw [hgg] at hg; cases hg
  have hsn : ∀ cs b, o.op ≠ .select cs b := fun cs b e => by rw [e] at hs; cases hs
  rw [List.all_eq_true] at hr
  have key : ∀ j oj d, L[j]? = some oj → oj.dst = some d → (!readsT o d || o.after.any fun e => Region.binds md e && e.on == j) = true ∧ (decide (j = i) || (match o.dst with | none => true | some d' => d != d')) = true ∧ (!(inAl sk j) || inSt sk i || !readsT o d) = true := fun j oj d hj hd => by
    have h2 := hr j (List.mem_range.2 (by simpa using (List.getElem?_eq_some_iff.1 hj).1))
    rw [show L.toArray[j]? = some oj by simpa using hj] at h2
    simp only [hd, Bool.and_eq_true] at h2
    exact ⟨h2.1.1, h2.1.2, h2.2⟩
  refine ⟨hgn, hsn, fun j oj d hj hd hrd => ?_, fun j oj d hj hd hne e => ?_, fun j oj d hj hd ha hb => ?_, fun hst => ?_, fun hns => ?_⟩
  · have := (key j oj d hj hd).1
    rw [hrd, Bool.not_true, Bool.false_or, Array.any_eq_true'] at this
    obtain ⟨e, he, hbe⟩ := this
    simp only [Bool.and_eq_true, beq_iff_eq] at hbe
    exact ⟨e, he, hbe.1, hbe.2⟩
  · have := (key j oj d hj hd).2.1
    rw [e] at this
    simp [hne] at this
  · have := (key j oj d hj hd).2.2
    rw [ha, hb] at this
    simpa using this
  · rw [hst] at hk
    simp only [if_true, Bool.and_eq_true] at hk
    obtain ⟨⟨k1, k2⟩, k3⟩ := hk
    have k1' : o.dst = none := by
      cases hdd : o.dst with
      | none => rfl
      | some x => rw [hdd] at k1; cases k1
    refine ⟨k1', by simpa using k2, fun x hx hxi => ?_⟩
    rw [List.all_eq_true] at k3
    have := k3 x hx
    rw [hxi, bne_self_eq_false, Bool.false_or, Array.any_eq_true'] at this
    obtain ⟨e, he, hbe⟩ := this
    simp only [Bool.and_eq_true, beq_iff_eq] at hbe
    exact ⟨e, he, hbe.1, hbe.2⟩
  · rw [hns] at hk
    simp only [Bool.false_eq_true, if_false, Bool.and_eq_true] at hk
    obtain ⟨k1, k2⟩ := hk
    have k1' : ∃ d, o.dst = some d := by
      cases hdd : o.dst with
      | none => rw [hdd] at k1; cases k1
      | some x => exact ⟨x, rfl⟩
    refine ⟨k1', fun x hx => ?_⟩
    rw [List.all_eq_true] at k2
    have := k2 x hx
    constructor
    · intro e
      rw [if_pos (by simpa using e)] at this
      simpa using this
    · intro e
      rw [if_neg (by simpa using e)] at this
      simpa using this
structure Ap (als : List Al) : Prop where
  i : ∀ x ∈ als, ∀ y ∈ als, x ≠ y → x.i ≠ y.i ∧ x.d ≠ y.d ∧ x.st ≠ y.st
  s : ∀ x ∈ als, ∀ y ∈ als, x.i ≠ y.st
theorem ap_of : ∀ (als : List Al), apartB (skOf als) = true → Ap als
  | [], _ => ⟨fun x hx => by (cases hx), fun x hx => by (cases hx)⟩
  | a :: l, h => by
    unfold skOf at h
    rw [List.map_cons, apartB] at h
    simp only [Bool.and_eq_true] at h
    obtain ⟨⟨h1, h2⟩, h3⟩ := h
    have ih := ap_of l h3
    rw [List.all_eq_true] at h1
    have hx : ∀ y ∈ l, a.i ≠ y.i ∧ a.d ≠ y.d ∧ a.st ≠ y.st ∧ a.i ≠ y.st ∧ a.st ≠ y.i := fun y hy => by
      have := h1 (y.i, y.d, y.st) (List.mem_map.2 ⟨y, hy, rfl⟩)
      simp only [Bool.and_eq_true, bne_iff_ne, ne_eq] at this
      exact ⟨this.1.1.1.1, this.1.1.1.2, this.1.1.2, this.1.2, this.2⟩
    have h2' : a.i ≠ a.st := by simpa using h2
    refine ⟨fun x hxm y hym hne => ?_, fun x hxm y hym => ?_⟩
    · rcases List.mem_cons.1 hxm with e1 | hx1 <;> rcases List.mem_cons.1 hym with e2 | hy1
      · exact absurd (e1.trans e2.symm) hne
      · have := hx y hy1; rw [e1]; exact ⟨this.1, this.2.1, this.2.2.1⟩
      · have := hx x hx1; rw [e2]; exact ⟨this.1.symm, this.2.1.symm, this.2.2.1.symm⟩
      · exact ih.i x hx1 y hy1 hne
    · rcases List.mem_cons.1 hxm with e1 | hx1 <;> rcases List.mem_cons.1 hym with e2 | hy1
      · rw [e1, e2]; exact h2'
      · rw [e1]; exact (hx y hy1).2.2.2.1
      · rw [e2]; exact (hx x hx1).2.2.2.2.symm
      · exact ih.s x hx1 y hy1

/-- what holds on the way -/
structure Iv (L : List Oper) (a A : Act) (als : List Al) (S : World → Prop) (base : Nat) (l : Nat → Bool) (a' : Act) (w' : World) : Prop where
  defers : a'.defers = a.defers
  size : a'.tmps.size = a.tmps.size
  agree : ∀ s, (∀ i o, L[i]? = some o → o.dst = some s → l i = true) → (∀ x ∈ als, x.d ≠ s) → a'.tmps.getD s undef = A.tmps.getD s undef
  s : S w'
  al : ∀ x ∈ als, l x.i = true → ∃ p, a'.tmps.getD x.d undef = .pointer (some ⟨p, 0, none⟩) ∧ base ≤ p ∧ w'.heap[p]? = some (.cells (if l x.st = true then x.cs1 else x.cs) x.T (0, 0))
  ne : ∀ x ∈ als, ∀ y ∈ als, x ≠ y → l x.i = true → l y.i = true → a'.tmps.getD x.d undef ≠ a'.tmps.getD y.d undef
  wt : ∀ x ∈ als, l x.st = true → l x.i = true
theorem steps_of {md : Region.Mode} {ops : Array Oper} {Q : Exit → Act → World → Prop} {I : (Nat → Bool) → Act → World → Prop} : ∀ (l : List Oper) (n : Nat), (∀ i o, l[i]? = some o → ∀ l' a w, l' (n + i) = false → upB md o l' = true → I l' a w → wpOp P ops Q (n + i) (I (fun j => j == (n + i) || l' j)) a w) → StepsI P md ops Q I n l
  | [], _, _ => trivial
  | o :: l, n, h => ⟨fun l' a w h1 h2 h3 => h 0 o rfl l' a w h1 h2 h3, steps_of l (n + 1) fun i o' hi l' a w h1 h2 h3 => by
      have := h (i + 1) o' (by simpa using hi) l' a w (by rw [show n + (i + 1) = n + 1 + i by omega]; exact h1) h2 h3
      rwa [show n + (i + 1) = n + 1 + i by omega] at this⟩
theorem up_of {md : Region.Mode} {o : Oper} {l : Nat → Bool} (h : upB md o l = true) {e : Edge} (he : e ∈ o.after) (hb : Region.binds md e = true) : l e.on = true := by
  unfold upB at h
  rw [Array.all_eq_true'] at h
  have := h e he
  rwa [hb, Bool.not_true, Bool.false_or] at this
theorem fold_get (p : Nat → Nat) : ∀ (als : List Al) (A : Act), (als.foldl (fun A x => A.put (some x.d) (.pointer (some ⟨p x.d, 0, none⟩))) A).tmps.size = A.tmps.size ∧ (als.foldl (fun A x => A.put (some x.d) (.pointer (some ⟨p x.d, 0, none⟩))) A).defers = A.defers ∧
    (∀ s, (∀ x ∈ als, x.d ≠ s) → (als.foldl (fun A x => A.put (some x.d) (.pointer (some ⟨p x.d, 0, none⟩))) A).tmps.getD s undef = A.tmps.getD s undef) ∧
    ∀ x ∈ als, x.d < A.tmps.size → (als.foldl (fun A x => A.put (some x.d) (.pointer (some ⟨p x.d, 0, none⟩))) A).tmps.getD x.d undef = .pointer (some ⟨p x.d, 0, none⟩)
  | [], A => ⟨rfl, rfl, fun _ _ => rfl, fun x hx => by cases hx⟩
  | y :: l, A => by
    obtain ⟨h1, h2, h3, h4⟩ := fold_get p l (A.put (some y.d) (.pointer (some ⟨p y.d, 0, none⟩)))
    rw [List.foldl_cons]
    refine ⟨h1.trans (put_size _ _ _), h2, fun s hs => (h3 s fun x hx => hs x (by simp [hx])).trans (put_other _ _ _ _ (fun e => hs y (by simp) e.symm)), fun x hx hlt => ?_⟩
    rcases List.mem_cons.1 hx with rfl | hx
    · by_cases hm : ∃ z ∈ l, z.d = x.d
      · obtain ⟨z, hz, he⟩ := hm
        have := h4 z hz (by rw [put_size, he]; exact hlt)
        rwa [he] at this
      · rw [h3 x.d (fun z hz e => hm ⟨z, hz, e⟩)]
        exact put_same _ _ _ hlt
    · exact h4 x hx (by rw [put_size]; exact hlt)

/-- **A drawn region of plain operations, new blocks and stores into these.** A: the frame when the plain operations have come up. -/
theorem wp_region_tab (als : List Al) (S : World → Prop) (base : Nat) (A : Act) {id : Nat} {Q : Exit → Act → World → Prop} {a : Act} {w : World} {L : List Oper} (hm : P.follows .mixedOrders = true) (hd : downB .any L.toArray = true)
    (hok : okB .any L.toArray (skOf als) = true) (hap : apartB (skOf als) = true) (hsl : slotsB L a.tmps.size = true) (hix : als.all (fun x => decide (x.i < L.length) && decide (x.st < L.length)) = true)
    (hcl : ∀ W W', S W → Below W.heap.size W W' → S W') (hon : ∀ W W' p, S W → base ≤ p → Only p W W' → S W') (hgrow : ∀ W, S W → base ≤ W.heap.size) (hS : S { w with drawn := w.drawn + 1 })
    (hwalk : ∀ R : World → Prop, (∀ W W', R W → Below W.heap.size W W' → R W') → Nonempty (InW (fun W => S W ∧ R W)) → wpQuiet P (plain (skOf als) 0 L).toArray (fun w' => ∃ s : InW (fun W => S W ∧ R W), w' = s.W) (fun a' => a' = A) (plain (skOf als) 0 L) a)
    (hal : ∀ x ∈ als, ∀ o, L[x.i]? = some o → ∀ (a' : Act) W, (execOp a'.eval o).run P W = .ok (.value (.pointer (some ⟨W.heap.size, 0, none⟩))) (W.alloc (.cells x.cs x.T)))
    (hst : ∀ x ∈ als, ∀ o, L[x.st]? = some o → ∀ (a' : Act) W p (K : Act → World → Prop) (Q' : Exit → Act → World → Prop), (∀ y ∈ o.op.operands, (∀ z ∈ als, y ≠ .tmp z.d) → a'.eval y = A.eval y) → a'.eval (.tmp x.d) = .pointer (some ⟨p, 0, none⟩) → W.heap[p]? = some (.cells x.cs x.T (0, 0)) →
      (∀ W', W'.heap[p]? = some (.cells x.cs1 x.T (0, 0)) → Only p W W' → K (a'.put o.dst undef) W') → o.wp P a' W K Q')
    (hend : ∀ (p : Nat → Nat) w', S w' → (∀ x ∈ als, base ≤ p x.d ∧ w'.heap[p x.d]? = some (.cells x.cs1 x.T (0, 0))) → (∀ x ∈ als, ∀ y ∈ als, x ≠ y → p x.d ≠ p y.d) → Q .normal (als.foldl (fun A x => A.put (some x.d) (.pointer (some ⟨p x.d, 0, none⟩))) A) w') :
    (Code.region id L.toArray true).wp P Q a w := by
  have hAp := ap_of als hap
  have hlen : ∀ x ∈ als, x.i < L.length ∧ x.st < L.length := fun x hx => by
    rw [List.all_eq_true] at hix
    have := hix x hx
    simpa using this
  have hsz : ∀ (i : Nat) (o : Oper) (d : Nat), L[i]? = some o → o.dst = some d → d < a.tmps.size := fun i o d hi hdd => by
    unfold slotsB at hsl
    rw [List.all_eq_true] at hsl
    have := hsl o (List.mem_of_getElem? hi)
    rw [hdd] at this
    simpa using this
  have isAl : ∀ x ∈ als, inAl (skOf als) x.i = true := fun x hx => by
    unfold inAl skOf; rw [List.any_eq_true]; exact ⟨_, List.mem_map.2 ⟨x, hx, rfl⟩, by simp⟩
  have isSt : ∀ x ∈ als, inSt (skOf als) x.st = true := fun x hx => by
    unfold inSt skOf; rw [List.any_eq_true]; exact ⟨_, List.mem_map.2 ⟨x, hx, rfl⟩, by simp⟩
  have ofAl : ∀ n, inAl (skOf als) n = true → ∃ x ∈ als, x.i = n := fun n h => by
    unfold inAl skOf at h; rw [List.any_eq_true] at h
    obtain ⟨y, hy, he⟩ := h
    obtain ⟨x, hx, rfl⟩ := List.mem_map.1 hy
    exact ⟨x, hx, by simpa using he⟩
  have ofSt : ∀ n, inSt (skOf als) n = true → ∃ x ∈ als, x.st = n := fun n h => by
    unfold inSt skOf at h; rw [List.any_eq_true] at h
    obtain ⟨y, hy, he⟩ := h
    obtain ⟨x, hx, rfl⟩ := List.mem_map.1 hy
    exact ⟨x, hx, by simpa using he⟩
  have skm : ∀ x ∈ als, (x.i, x.d, x.st) ∈ skOf als := fun x hx => List.mem_map.2 ⟨x, hx, rfl⟩
  -- an alloc's slot
  have dAl : ∀ x ∈ als, ∀ o, L[x.i]? = some o → o.dst = some x.d := fun x hx o ho => by
    have hOk := ok_of hok ho
    have hns : inSt (skOf als) x.i = false := by
      cases h : inSt (skOf als) x.i with
      | false => rfl
      | true => obtain ⟨y, hy, he⟩ := ofSt _ h; exact absurd he.symm (hAp.s x hx y hy)
    exact ((hOk.ns hns).2 _ (skm x hx)).1 rfl
  have hdz : ∀ x ∈ als, x.d < a.tmps.size := fun x hx => by
    have ho := List.getElem?_eq_getElem (hlen x hx).1
    exact hsz _ _ _ ho (dAl x hx _ ho)
  -- the walk
  have getW : ∀ R : World → Prop, (∀ W W', R W → Below W.heap.size W W' → R W') → (∃ W, S W ∧ R W) → A.defers = a.defers ∧ A.tmps.size = a.tmps.size ∧ (∀ s, (∀ o ∈ plain (skOf als) 0 L, o.dst ≠ some s) → A.tmps.getD s undef = a.tmps.getD s undef) ∧ ∀ (o : Oper), o ∈ plain (skOf als) 0 L → ∀ d, o.dst = some d → ∀ w, S w ∧ R w → o.quietAt P A (fun w' => ∃ s : InW (fun W => S W ∧ R W), w' = s.W) w (A.tmps.getD d undef) := fun R hR ⟨W, hW⟩ => by
    refine (fun (h : A.defers = a.defers ∧ A.tmps.size = a.tmps.size ∧ (∀ s, (∀ o ∈ plain (skOf als) 0 L, o.dst ≠ some s) → A.tmps.getD s undef = a.tmps.getD s undef) ∧ ∀ (o : Oper), o ∈ plain (skOf als) 0 L → ∀ d, o.dst = some d → ∀ w, (fun w' => ∃ s : InW (fun W => S W ∧ R W), w' = s.W) w → o.quietAt P A (fun w' => ∃ s : InW (fun W => S W ∧ R W), w' = s.W) w (A.tmps.getD d undef)) => ⟨h.1, h.2.1, h.2.2.1, fun o ho d hdo w hw => h.2.2.2 o ho d hdo w ⟨⟨w, hw⟩, rfl⟩⟩) (walk_get _ a (fun o ho => ?_) (plain_pair L 0 fun i j x y hij hx hy hns => ⟨fun e => ?_, fun d hdy => ?_⟩) (fun o ho d hdo => ?_) (hwalk R hR ⟨⟨W, hW⟩⟩))
    · obtain ⟨i, hi, h1, h2⟩ := plain_mem L 0 ho
      rw [Nat.zero_add] at h1 h2
      have hOk := ok_of hok hi
      obtain ⟨d, hdd⟩ := (hOk.ns h2).1
      exact ⟨hOk.g, hOk.s, d, hdd, hsz i o d hi hdd⟩
    · rw [Nat.zero_add] at hns
      obtain ⟨d, hxd⟩ := ((ok_of hok hx).ns hns).1
      exact (ok_of hok hy).d i x d hx hxd (by omega) (by rw [← e, hxd])
    · cases hr : readsT x d with
      | false => rfl
      | true =>
        obtain ⟨e, he, hb, hon⟩ := (ok_of hok hx).r j y d hy hdy hr
        have := downB_spec hd (i := i) (by simpa using hx) he hb
        omega
    · obtain ⟨i, hi, h1, h2⟩ := plain_mem L 0 ho
      cases hr : readsT o d with
      | false => rfl
      | true =>
        obtain ⟨e, he, hb, hon⟩ := (ok_of hok hi).r i o d hi hdo hr
        have := downB_spec hd (i := i) (by simpa using hi) he hb
        omega
  have hdef : A.defers = a.defers ∧ A.tmps.size = a.tmps.size ∧ ∀ s, (∀ o ∈ plain (skOf als) 0 L, o.dst ≠ some s) → A.tmps.getD s undef = a.tmps.getD s undef := by
    obtain ⟨h1, h2, h3, _⟩ := getW (fun _ => True) (fun _ _ _ _ => trivial) ⟨_, hS, trivial⟩
    exact ⟨h1, h2, h3⟩
  refine wp_region_inv (Iv L a A als S base) hm hd (fun l l' a' w' he h => ?_) ?_ (steps_of L 0 fun i o hi l a' w' hl hu h => ?_) (fun a' w' h => ?_)
  · exact ⟨h.defers, h.size, fun s hs hn => h.agree s (fun i o hi hdd => by rw [he i (List.getElem?_eq_some_iff.1 hi).1]; exact hs i o hi hdd) hn, h.s,
      fun x hx hl => by have h1 := hlen x hx; rw [← he x.i h1.1] at hl; rw [← he x.st h1.2]; exact h.al x hx hl,
      fun x hx y hy hne h1 h2 => h.ne x hx y hy hne (by rw [he x.i (hlen x hx).1]; exact h1) (by rw [he y.i (hlen y hy).1]; exact h2),
      fun x hx h1 => by rw [← he x.i (hlen x hx).1]; exact h.wt x hx (by rw [he x.st (hlen x hx).2]; exact h1)⟩
  · refine ⟨rfl, rfl, fun s hs hn => (hdef.2.2 s fun o ho e => ?_).symm, hS, (fun x hx h => by cases h), (fun x hx y hy _ h _ => by cases h), (fun x hx h => by cases h)⟩
    obtain ⟨i, hi, _, _⟩ := plain_mem L 0 ho
    have := hs i o hi e
    cases this
  · rw [Nat.zero_add] at hl ⊢
    have hOk := ok_of hok hi
    have hi' : L.toArray[i]? = some o := by simpa using hi
    cases hSt : inSt (skOf als) i with
    | true =>
      obtain ⟨x, hx, rfl⟩ := ofSt i hSt
      obtain ⟨hdn, _, hwt⟩ := hOk.st hSt
      obtain ⟨e, he, hb, hon1⟩ := hwt _ (skm x hx) rfl
      have hxi : l x.i = true := by have := up_of hu he hb; rwa [hon1] at this
      obtain ⟨p, hp1, hp2, hp3⟩ := h.al x hx hxi
      rw [hl, if_neg (by simp)] at hp3
      refine wpOp_of hi' hOk.g (hst x hx o hi a' w' p _ _ (fun y hy hny => eval_same fun s hs => ?_) hp1 hp3 fun W' hW' ho => ?_)
      · refine h.agree s (fun j oj hj hdj => ?_) (fun z hz e => hny z hz (by rw [hs, e]))
        obtain ⟨e2, he2, hb2, hon2⟩ := hOk.r j oj s hj hdj (reads_mem hy hs)
        have := up_of hu he2 hb2
        rwa [hon2] at this
      · rw [hdn]
        have hxst : ∀ y ∈ als, (y.i == x.st) = false := fun y hy => by
          have := hAp.s y hy x hx
          simpa using this
        refine ⟨h.defers, h.size, fun s hs hn => h.agree s (fun j oj hj hdj => ?_) hn, hon _ _ p h.s hp2 ho, fun y hy hly => ?_, fun y hy z hz hne h1 h2 => ?_, fun y hy hly => ?_⟩
        · have h1 := hs j oj hj hdj
          cases hjx : j == x.st with
          | false => rwa [hjx, Bool.false_or] at h1
          | true =>
            have e1 : j = x.st := by simpa using hjx
            rw [e1, hi] at hj
            injection hj with hj
            rw [← hj, hdn] at hdj
            cases hdj
        · rw [hxst y hy, Bool.false_or] at hly
          by_cases hyx : y = x
          · subst hyx
            exact ⟨p, hp1, hp2, by rw [if_pos (by simp)]; exact hW'⟩
          · obtain ⟨q, q1, q2, q3⟩ := h.al y hy hly
            have hne := h.ne y hy x hx hyx hly hxi
            have hpq : q ≠ p := fun e => hne (by rw [q1, hp1, e])
            refine ⟨q, q1, q2, ?_⟩
            have hst2 : (y.st == x.st) = false := by have := (hAp.i y hy x hx hyx).2.2; simpa using this
            rw [hst2, Bool.false_or]
            exact (ho.block q hpq).trans q3
        · rw [hxst y hy, Bool.false_or] at h1
          rw [hxst z hz, Bool.false_or] at h2
          exact h.ne y hy z hz hne h1 h2
        · rw [hxst y hy, Bool.false_or]
          cases hyx : y.st == x.st with
          | false => rw [hyx, Bool.false_or] at hly; exact h.wt y hy hly
          | true =>
            by_cases hyx2 : y = x
            · rw [hyx2]; exact hxi
            · exact absurd (by simpa using hyx) (hAp.i y hy x hx hyx2).2.2
    | false =>
      obtain ⟨⟨d, hdd⟩, hns⟩ := hOk.ns hSt
      cases hAl : inAl (skOf als) i with
      | true =>
        obtain ⟨x, hx, rfl⟩ := ofAl i hAl
        have hdx := dAl x hx o hi
        have hlst : l x.st = false := by
          cases e : l x.st with
          | false => rfl
          | true => rw [h.wt x hx e] at hl; cases hl
        have hxst : ∀ y ∈ als, (y.st == x.i) = false := fun y hy => by
          have := hAp.s x hx y hy
          simpa using fun e => this e.symm
        refine wpOp_of hi' hOk.g ?_
        unfold Oper.wp
        rw [hal x hx o hi]
        show Iv L a A als S base (fun j => j == x.i || l j) (a'.put o.dst (.pointer (some ⟨w'.heap.size, 0, none⟩))) (w'.alloc (.cells x.cs x.T))
        rw [hdx]
        refine ⟨h.defers, (put_size _ _ _).trans h.size, fun s hs hn => ?_, hcl _ _ h.s ((Below.refl _ _).alloc (Nat.le_refl _) _), fun y hy hly => ?_, fun y hy z hz hne h1 h2 => ?_, fun y hy hly => ?_⟩
        · rw [put_other _ _ _ _ (fun e => hn x hx e.symm)]
          refine h.agree s (fun j oj hj hdj => ?_) hn
          have h1 := hs j oj hj hdj
          cases hjx : j == x.i with
          | false => rwa [hjx, Bool.false_or] at h1
          | true =>
            have e1 : j = x.i := by simpa using hjx
            rw [e1, hi] at hj
            injection hj with hj
            rw [← hj, hdx] at hdj
            injection hdj with hdj
            exact absurd hdj (hn x hx)
        · rw [hxst y hy, Bool.false_or]
          by_cases hyx : y = x
          · subst hyx
            refine ⟨w'.heap.size, put_same _ _ _ (by rw [h.size]; exact hdz y hy), hgrow _ h.s, ?_⟩
            rw [hlst, if_neg (by simp)]
            exact heap_alloc_new w' _
          · have hyi : (y.i == x.i) = false := by have := (hAp.i y hy x hx hyx).1; simpa using this
            rw [hyi, Bool.false_or] at hly
            obtain ⟨q, q1, q2, q3⟩ := h.al y hy hly
            refine ⟨q, ?_, q2, ?_⟩
            · rw [put_other _ _ _ _ (hAp.i y hy x hx hyx).2.1]; exact q1
            · exact (Below.heap_alloc w' _ q (Array.getElem?_eq_some_iff.1 q3).1).trans q3
        · have key : ∀ y ∈ als, y ≠ x → l y.i = true → ∃ q, (a'.put (some x.d) (.pointer (some ⟨w'.heap.size, 0, none⟩))).tmps.getD y.d undef = .pointer (some ⟨q, 0, none⟩) ∧ q ≠ w'.heap.size := fun y hy hyx hly => by
            obtain ⟨q, q1, q2, q3⟩ := h.al y hy hly
            exact ⟨q, by rw [put_other _ _ _ _ (hAp.i y hy x hx hyx).2.1]; exact q1, by have := (Array.getElem?_eq_some_iff.1 q3).1; omega⟩
          have hpx : (a'.put (some x.d) (.pointer (some ⟨w'.heap.size, 0, none⟩))).tmps.getD x.d undef = .pointer (some ⟨w'.heap.size, 0, none⟩) := put_same _ _ _ (by rw [h.size]; exact hdz x hx)
          by_cases hyx : y = x
          · have hzx : z ≠ x := fun e => hne (hyx.trans e.symm)
            have hzi : (z.i == x.i) = false := by have := (hAp.i z hz x hx hzx).1; simpa using this
            rw [hzi, Bool.false_or] at h2
            obtain ⟨q, q1, q2⟩ := key z hz hzx h2
            rw [hyx, hpx, q1]
            intro e; injection e with e; injection e with e; injection e with e; exact q2 e.symm
          · have hyi : (y.i == x.i) = false := by have := (hAp.i y hy x hx hyx).1; simpa using this
            rw [hyi, Bool.false_or] at h1
            obtain ⟨q, q1, q2⟩ := key y hy hyx h1
            by_cases hzx : z = x
            · rw [hzx, hpx, q1]
              intro e; injection e with e; injection e with e; injection e with e; exact q2 e
            · have hzi : (z.i == x.i) = false := by have := (hAp.i z hz x hx hzx).1; simpa using this
              rw [hzi, Bool.false_or] at h2
              rw [put_other _ _ _ _ (hAp.i y hy x hx hyx).2.1, put_other _ _ _ _ (hAp.i z hz x hx hzx).2.1]
              exact h.ne y hy z hz hne h1 h2
        · rw [hxst y hy, Bool.false_or] at hly
          rw [h.wt y hy hly, Bool.or_true]
      | false =>
        have hmem : o ∈ plain (skOf als) 0 L := mem_plain L 0 i hi (by rw [Nat.zero_add]; exact hAl) (by rw [Nat.zero_add]; exact hSt)
        have hni : ∀ x ∈ als, (x.i == i) = false := fun x hx => by
          cases e : x.i == i with
          | false => rfl
          | true => have e1 : x.i = i := by simpa using e
                    rw [← e1, isAl x hx] at hAl; cases hAl
        have hnst : ∀ x ∈ als, (x.st == i) = false := fun x hx => by
          cases e : x.st == i with
          | false => rfl
          | true => have e1 : x.st = i := by simpa using e
                    rw [← e1, isSt x hx] at hSt; cases hSt
        have hnd : ∀ x ∈ als, x.d ≠ d := fun x hx e => (hns _ (skm x hx)).2 (by have := hni x hx; simpa using this) (by rw [hdd, ← e])
        obtain ⟨_, _, _, hq⟩ := getW (fun W => Below w'.heap.size w' W) (fun W W' h1 h2 => h1.trans (h2.mono h1.size)) ⟨w', h.s, Below.refl _ _⟩
        have hqo := hq o hmem d hdd
        have hev : execOp a'.eval o = execOp A.eval o := execOp_congr o hOk.s fun y hy => eval_same fun s hs => by
          have hrd := reads_mem hy hs
          refine h.agree s (fun j oj hj hdj => ?_) (fun x hx e => ?_)
          · obtain ⟨e2, he2, hb2, hon2⟩ := hOk.r j oj s hj hdj hrd
            have := up_of hu he2 hb2
            rwa [hon2] at this
          · have ho2 := List.getElem?_eq_getElem (hlen x hx).1
            have := hOk.a x.i _ s ho2 (by rw [← e]; exact dAl x hx _ ho2) (isAl x hx) hSt
            rw [this] at hrd; cases hrd
        refine wpOp_of hi' hOk.g (Oper.wp_of_quiet (C := fun w1 => ∃ s : InW (fun W => S W ∧ Below w'.heap.size w' W), w1 = s.W) (K := fun b => b = a'.put (some d) (A.tmps.getD d undef)) ⟨⟨w', h.s, Below.refl _ _⟩, rfl⟩ (fun b W hWW hb => ?_) ⟨A.tmps.getD d undef, fun W hWW => ?_, by rw [hdd]⟩)
        · obtain ⟨s0, rfl⟩ := hWW
          have hW := s0.h
          subst hb
          refine ⟨h.defers, (put_size _ _ _).trans h.size, fun s hs hn => ?_, hW.1, fun x hx hlx => ?_, fun x hx y hy hne h1 h2 => ?_, fun x hx hlx => ?_⟩
          · by_cases hsd : s = d
            · subst hsd; exact put_same _ _ _ (by rw [h.size]; exact hsz i o s hi hdd)
            · rw [put_other _ _ _ _ hsd]
              refine h.agree s (fun j oj hj hdj => ?_) hn
              have h1 := hs j oj hj hdj
              cases hji : j == i with
              | false => rwa [hji, Bool.false_or] at h1
              | true =>
                have e1 : j = i := by simpa using hji
                rw [e1, hi] at hj
                injection hj with hj
                rw [← hj, hdd] at hdj
                injection hdj with hdj
                exact absurd hdj.symm hsd
          · rw [hni x hx, Bool.false_or] at hlx
            rw [hnst x hx, Bool.false_or]
            obtain ⟨q, q1, q2, q3⟩ := h.al x hx hlx
            exact ⟨q, by rw [put_other _ _ _ _ (hnd x hx)]; exact q1, q2, (hW.2.block q (Array.getElem?_eq_some_iff.1 q3).1).trans q3⟩
          · rw [hni x hx, Bool.false_or] at h1
            rw [hni y hy, Bool.false_or] at h2
            rw [put_other _ _ _ _ (hnd x hx), put_other _ _ _ _ (hnd y hy)]
            exact h.ne x hx y hy hne h1 h2
          · rw [hnst x hx, Bool.false_or] at hlx
            rw [h.wt x hx hlx, Bool.or_true]
        · obtain ⟨s0, rfl⟩ := hWW
          have := hqo s0.W s0.h
          unfold Oper.quietAt at this ⊢
          rw [hev]; exact this
  · have hall : ∀ x ∈ als, ∃ p, a'.tmps.getD x.d undef = .pointer (some ⟨p, 0, none⟩) ∧ base ≤ p ∧ w'.heap[p]? = some (.cells x.cs1 x.T (0, 0)) := fun x hx => by
      obtain ⟨p, p1, p2, p3⟩ := h.al x hx rfl
      exact ⟨p, p1, p2, by simpa using p3⟩
    have hp : ∀ x ∈ als, a'.tmps.getD x.d undef = .pointer (some ⟨ptrOf (a'.tmps.getD x.d undef), 0, none⟩) := fun x hx => by
      obtain ⟨p, p1, _, _⟩ := hall x hx
      rw [p1]; rfl
    have := hend (fun d => ptrOf (a'.tmps.getD d undef)) w' h.s (fun x hx => by
      obtain ⟨p, p1, p2, p3⟩ := hall x hx
      simp only [p1, ptrOf]; exact ⟨p2, p3⟩) (fun x hx y hy hne e => by
      have h1 := h.ne x hx y hy hne rfl rfl
      rw [hp x hx, hp y hy, e] at h1
      exact h1 rfl)
    obtain ⟨f1, f2, f3, f4⟩ := fold_get (fun d => ptrOf (a'.tmps.getD d undef)) als A
    have e : a' = als.foldl (fun A x => A.put (some x.d) (.pointer (some ⟨ptrOf (a'.tmps.getD x.d undef), 0, none⟩))) A := by
      obtain ⟨tm, df⟩ := a'
      generalize hB : als.foldl (fun A x => A.put (some x.d) (.pointer (some ⟨ptrOf (({ tmps := tm, defers := df } : Act).tmps.getD x.d undef), 0, none⟩))) A = B at *
      obtain ⟨tb, db⟩ := B
      have h1 : df = db := h.defers.trans (hdef.1.symm.trans f2.symm)
      have h2 : tm = tb := by
        apply Array.ext
        · exact h.size.trans (hdef.2.1.symm.trans f1.symm)
        · intro s hs1 hs2
          have key : tm.getD s undef = tb.getD s undef := by
            by_cases hx : ∃ x ∈ als, x.d = s
            · obtain ⟨x, hx, rfl⟩ := hx
              have := f4 x hx (by rw [hdef.2.1]; exact hdz x hx)
              exact (hp x hx).trans this.symm
            · have h3 := f3 s (fun x hx' e => hx ⟨x, hx', e⟩)
              exact (h.agree s (fun _ _ _ _ => rfl) (fun x hx' e => hx ⟨x, hx', e⟩)).trans h3.symm
          simpa [Array.getD_eq_getD_getElem?, hs1, hs2] using key
      rw [h1, h2]
    rw [e]
    exact this
end
end Go.Proofs.YthkalmdpbhjafaaDoor.Tb

/- Stores of blocks in a drawn region with new blocks. -/
namespace Go.Proofs.YthkalmdpbhjafaaDoor.Tb
open Go.RowKit
set_option linter.unusedVariables false

theorem alloc_tab {o : Oper} (ho : o.op = .alloc 40) (a : Act) (W : World) : (execOp a.eval o).run Tryd.prog W = .ok (.value (.pointer (some ⟨W.heap.size, 0, none⟩))) (W.alloc (.cells (Ks .u8 256 fun _ => 0).toArray 40)) := by
  have hz := zero_block
  unfold execOp
  simp only [ho, Instr.alloc, Sem.run_bind, hz, Result.andThen_ok]
  rfl
theorem store_tab {als : List Al} {x : Al} {A : Act} {o : Oper} (s : Nat) (z old : Nat → Int) (hgd : o.op = .store 40 (.tmp x.d) (.tmp s)) (hA : A.eval (.tmp s) = bval z) (hs : ∀ y ∈ als, y.d ≠ s) (hT : x.T = 40) (hc : x.cs = (Ks .u8 256 old).toArray) (hc1 : x.cs1 = (Ks .u8 256 z).toArray)
    (a' : Act) (W : World) (p : Nat) (K : Act → World → Prop) (Q' : Exit → Act → World → Prop) (hev : ∀ y ∈ o.op.operands, (∀ z ∈ als, y ≠ .tmp z.d) → a'.eval y = A.eval y) (hp : a'.eval (.tmp x.d) = .pointer (some ⟨p, 0, none⟩)) (hB : W.heap[p]? = some (.cells x.cs x.T (0, 0)))
    (hK : ∀ W', W'.heap[p]? = some (.cells x.cs1 x.T (0, 0)) → Only p W W' → K (a'.put o.dst undef) W') : o.wp Tryd.prog a' W K Q' := by
  rw [hc, hT] at hB
  rw [hc1, hT] at hK
  have hB' : Blk W p 40 256 old := hB
  have hy : a'.eval (.tmp s) = bval z := by
    rw [hev (.tmp s) (by rw [hgd]; simp [Op.operands]) (fun y hy e => by injection e with e; exact hs y hy e.symm), hA]
  refine wp_store_row 40 (.tmp x.d) (.tmp s) hgd p (Ks .u8 256 z).toArray hp hy 40 _ hB' (info_block' _) (by rw [Ks_size, Ks_size]) (Ks_one _ _ _) ?_
  exact hK _ (hB'.setRow z) (only_setRow W p _ hB' (by rw [Ks_size, Ks_size]))
end Go.Proofs.YthkalmdpbhjafaaDoor.Tb

/- The reference of chapter 15, plainly; quernref15.May. -/
namespace Go.Proofs.YthkalmdpbhjafaaDoor
open Go.RowKit
set_option linter.unusedVariables false

/-- blocks, one behind the other, as bytes -/
def flat (B : Nat → Nat → Int) (i : Nat) : Int := B (i / 256) (i % 256)
theorem flat_byt {B : Nat → Nat → Int} (h : ∀ i, Byt (B i)) : Byt (flat B) := fun i => h _ _
theorem foldN_split (v : Nat) (z : Nat → Int) (a b : Nat) : foldN v z (a + b) = foldN (foldN v z a) (fun i => z (a + i)) b := by
  induction b with
  | zero => rfl
  | succ b ih => show stepN (foldN v z (a + b)) _ = stepN _ _; rw [ih]; rfl
theorem foldN_flat (v : Nat) (B : Nat → Nat → Int) (k : Nat) : foldN v (flat B) (k * 256) = foldP v (fun _ => 256) B k := by
  induction k with
  | zero => rw [Nat.zero_mul]; rfl
  | succ k ih =>
    rw [Nat.succ_mul, foldN_split, ih]
    show _ = foldN _ (B k) 256
    refine foldN_congr fun i hi => ?_
    unfold flat
    rw [show (k * 256 + i) / 256 = k by omega, show (k * 256 + i) % 256 = i by omega]
theorem crc_flat (B : Nat → Nat → Int) (k : Nat) : crcZ (flat B) (k * 256) = crcB B k := by unfold crcZ crcB; rw [foldN_flat]
theorem Ks_flat (B : Nat → Nat → Int) (k : Nat) : Ks .u8 (k * 256) (flat B) = Cs (bkF B) k := by
  induction k with
  | zero => rw [Nat.zero_mul]; rfl
  | succ k ih =>
    rw [Cs_succ, ← ih, Nat.succ_mul]
    unfold bkF Ks
    rw [List.range_add, List.map_append, List.map_map]
    congr 1
    refine List.map_congr_left fun i hi => ?_
    have := List.mem_range.1 hi
    show Value.int _ (flat B (k * 256 + i)) = _
    unfold flat
    rw [show (k * 256 + i) / 256 = k by omega, show (k * 256 + i) % 256 = i by omega]
/-- while quernref15.May goes over a transaction -/
structure My15 (w : World) (s : Int) (ca : Option Addr) (n cc : Nat) (ra : Option Addr) (m rc : Nat) (cb : Nat → Int) (cd : Nat → Nat → Int) (rv : Nat → Int) (W : World) : Prop where
  x : At W w.heap.size 28 (tcells s ca n cc ra m rc)
  c : RRow W ca 257 n (cpF cb cd)
  r : RRow W ra 1 m (inF rv)
  bel : Below w.heap.size w W
theorem RRow.at257 {W : World} {b off n : Nat} {cb : Nat → Int} {cd : Nat → Nat → Int} {k : Nat} (h : RRow W (some ⟨b, off, none⟩) 257 n (cpF cb cd)) (hk : k < n) : W.cell? ⟨b, off + k * 257, none⟩ = some (.int .i64 (cb k)) := by
  rcases h with h | ⟨b', off', e, h⟩
  · omega
  · injection e with e; injection e with e1 e2; subst e1 e2; exact h k hk 0 _ rfl
theorem RRow.at1 {W : World} {b off n : Nat} {rv : Nat → Int} {k : Nat} (h : RRow W (some ⟨b, off, none⟩) 1 n (inF rv)) (hk : k < n) : W.cell? ⟨b, off + k, none⟩ = some (.int .i64 (rv k)) := by
  rcases h with h | ⟨b', off', e, h⟩
  · omega
  · injection e with e; injection e with e1 e2; subst e1 e2
    have := h k hk 0 _ rfl
    rwa [Nat.mul_one, Nat.add_zero] at this
theorem RRow.some_of {W : World} {a : Option Addr} {m n : Nat} {f : Nat → List Value} (h : RRow W a m n f) (hn : 0 < n) : ∃ b off, a = some ⟨b, off, none⟩ := by
  rcases h with h | ⟨b, off, e, _⟩
  · omega
  · exact ⟨b, off, e⟩
theorem riseT_ge {b : Nat → Int} {k : Nat} (h : riseT b (k + 1) = true) : 0 ≤ b k := by have := riseT_bd h k (by omega); omega

set_option maxRecDepth 100000 in
set_option maxHeartbeats 4000000 in
theorem rMay15_any (s : Int) (ca : Option Addr) (n cc : Nat) (ra : Option Addr) (m rc : Nat) (cb : Nat → Int) (cd : Nat → Nat → Int) (rv : Nat → Int)
    (hs : 0 ≤ s ∧ s < 4294967296) (hn : (n : Int) ≤ 9223372036854775807) (hm : (m : Int) ≤ 9223372036854775807) (w : World) (hc : RRow w ca 257 n (cpF cb cd)) (hr : RRow w ra 1 m (inF rv)) :
    Calls Tryd.prog 24 #[tval s ca n cc ra m rc] w fun e w' => e = .returned (.bool (mayT s n cb m rv)) ∧ Below w.heap.size w w' := by
  have ST0 : Hid (My15 w s ca n cc ra m rc cb cd rv (w.alloc (.cells (tcells s ca n cc ra m rc) 28))) := ⟨At.new w _ _, hc.alloc _, hr.alloc _, (Below.refl _ _).alloc (Nat.le_refl _) _⟩
  have hc0 : (w.alloc (.cells (tcells s ca n cc ra m rc) 28)).cell? ⟨w.heap.size, 0, none⟩ = some (.int .u32 s) := ST0.out.x.cell (i := 0) rfl
  have hc1 : (w.alloc (.cells (tcells s ca n cc ra m rc) 28)).cell? ⟨w.heap.size, 1, none⟩ = some (.slice ca n cc) := ST0.out.x.cell (i := 1) rfl
  have hc2 : (w.alloc (.cells (tcells s ca n cc ra m rc) 28)).cell? ⟨w.heap.size, 2, none⟩ = some (.slice ra m rc) := ST0.out.x.cell (i := 2) rfl
  have HC := Lib.hid ST0.out.c
  have HR := Lib.hid ST0.out.r
  have HL := Lib.hid ST0.out.bel
  clear hc hr ST0
  go_enter Tryd.func24, Tryd.ntmps24
  obtain ⟨W, hW⟩ : ∃ W, W = w.alloc (.cells (tcells s ca n cc ra m rc) 28) := ⟨_, rfl⟩
  rw [← hW] at hc0 hc1 hc2 HC HR HL
  have hgo : w.alloc (.cells (tcells s ca n cc ra m rc) 28) = W := hW.symm
  clear hW
  go_wp2_with fail
  refine (rSeq_any s W).mono ?_
  rintro e W' ⟨rfl, hww⟩
  obtain rfl : W = W' := hww
  cases hq : seqB s with
  | false =>
    have HO : Hid (mayT s n cb m rv = false) := by show _ = _; unfold mayT; rw [hq]; rfl
    clear hq
    go_wp2_with fail
    go_ret
    exact ⟨by rw [HO.out]; rfl, HL.out⟩
  | true =>
    have HSQ := Lib.hid hq
    clear hq
    by_cases h00 : n = 0 ∧ m = 0
    · obtain ⟨rfl, rfl⟩ := h00
      have HO : Hid (mayT s 0 cb 0 rv = false) := by show _ = _; unfold mayT; simp
      go_wp2_with fail
      go_ret
      exact ⟨by rw [HO.out]; rfl, HL.out⟩
    have HMY : Hid (∀ b, (riseT cb n && riseT rv m) = b → mayT s n cb m rv = b) := fun b hb => by
      unfold mayT; rw [HSQ.out, hb, show decide (0 < n + m) = true from decide_eq_true (by omega)]; rfl
    have hz : ((n : Int) == 0) = false ∨ (((n : Int) == 0) = true ∧ ((m : Int) == 0) = false) := by
      by_cases e : n = 0
      · exact .inr ⟨by rw [beq_iff_eq]; omega, by rw [beq_eq_false_iff_ne]; omega⟩
      · exact .inl (by rw [beq_eq_false_iff_ne]; omega)
    clear h00
    rcases hz with hz1 | ⟨hz1, hz2⟩
    all_goals
      go_wp2_with fail
      go_loop [3, 4] (fun u _ => ∃ k : Nat, k ≤ n ∧ u = .int .i64 (k : Int) ∧ Hid (riseT cb k = true)) (fun u _ => n - (intOf u).toNat)
      case atStart => exact ⟨0, by omega, rfl, rfl⟩
      case round =>
        obtain ⟨k, hk, rfl, HK⟩ := hrel
        by_cases hlt : k < n
        · have hlt' : (k : Int) < (n : Int) := by omega
          have k0 : (0 : Int) ≤ (k : Int) := by omega
          obtain ⟨b, off, rfl⟩ := HC.out.some_of (by omega)
          have hcell := HC.out.at257 hlt
          by_cases c0 : cb k < 0
          · have HO := Lib.hid (HMY.out false (by rw [riseT_no hlt (by
              split
              · omega
              · next h => have := riseT_bd HK.out (k - 1) (by omega); omega)]; rfl))
            go_wp2_with fail
            go_ret
            exact ⟨by rw [HO.out]; rfl, HL.out⟩
          by_cases c2 : 2048 ≤ cb k
          · have HO := Lib.hid (HMY.out false (by rw [riseT_no hlt (by omega)]; rfl))
            go_wp2_with fail
            go_ret
            exact ⟨by rw [HO.out]; rfl, HL.out⟩
          by_cases hk0 : k = 0
          · have HK1 : Hid (riseT cb (k + 1) = true) := by
              show _ = _
              rw [riseT_succ, HK.out, if_pos hk0, decide_eq_true (show -1 < cb k by omega), decide_eq_true (show cb k < 2048 by omega)]; rfl
            have g0 : ¬ (0 : Int) < (k : Int) := by omega
            have g1 : ¬ 0 < k := by omega
            clear hk0
            go_wp2_with fail
            go_round
            case rel => first | exact ⟨k + 1, by omega, by go_num, HK1⟩ | exact ⟨k + 1, by omega, rfl, HK1⟩
            case measure => simp [intOf]; omega
          · have hcell2 := HC.out.at257 (k := k - 1) (by omega)
            have e1 : IntKind.i64.wrap ((k : Int) - 1) = (k : Int) - 1 := IntWalk.i64_in _ (by omega)
            have e2 : (0 : Int) ≤ (k : Int) - 1 := by omega
            have e3 : ((k : Int) - 1).toNat = k - 1 := by omega
            have e4 : (k : Int) - 1 < (n : Int) := by omega
            have g0 : (0 : Int) < (k : Int) := by omega
            have g1 : 0 < k := by omega
            obtain ⟨last, hlast⟩ : ∃ last, last = cb (k - 1) := ⟨_, rfl⟩
            rw [← hlast] at hcell2
            by_cases c3 : cb k ≤ last
            · have HO := Lib.hid (HMY.out false (by rw [riseT_no hlt (by rw [if_neg hk0, ← hlast]; omega)]; rfl))
              clear hlast
              go_wp2_with fail
              go_ret
              exact ⟨by rw [HO.out]; rfl, HL.out⟩
            · have HK1 : Hid (riseT cb (k + 1) = true) := by
                show _ = _
                rw [riseT_succ, HK.out, if_neg hk0, ← hlast, decide_eq_true (show last < cb k by omega), decide_eq_true (show cb k < 2048 by omega)]; rfl
              clear hlast
              go_wp2_with fail
              go_round
              case rel => first | exact ⟨k + 1, by omega, by go_num, HK1⟩ | exact ⟨k + 1, by omega, rfl, HK1⟩
              case measure => simp [intOf]; omega
        · obtain rfl : k = n := by omega
          go_wp2_with fail
          go_loop [5, 6] (fun u _ => ∃ j : Nat, j ≤ m ∧ u = .int .i64 (j : Int) ∧ Hid (riseT rv j = true)) (fun u _ => m - (intOf u).toNat)
          case atStart => exact ⟨0, by omega, rfl, rfl⟩
          case round =>
            obtain ⟨j, hj, rfl, HJ⟩ := hrel
            by_cases hlt2 : j < m
            · have hlt' : (j : Int) < (m : Int) := by omega
              have k0 : (0 : Int) ≤ (j : Int) := by omega
              obtain ⟨b, off, rfl⟩ := HR.out.some_of (by omega)
              have hcell := HR.out.at1 hlt2
              by_cases c0 : rv j < 0
              · have HO := Lib.hid (HMY.out false (by rw [riseT_no hlt2 (by
                  split
                  · omega
                  · next h => have := riseT_bd HJ.out (j - 1) (by omega); omega)]; simp))
                go_wp2_with fail
                go_ret
                exact ⟨by rw [HO.out]; rfl, HL.out⟩
              by_cases c2 : 2048 ≤ rv j
              · have HO := Lib.hid (HMY.out false (by rw [riseT_no hlt2 (by omega)]; simp))
                go_wp2_with fail
                go_ret
                exact ⟨by rw [HO.out]; rfl, HL.out⟩
              by_cases hk0 : j = 0
              · have HJ1 : Hid (riseT rv (j + 1) = true) := by
                  show _ = _
                  rw [riseT_succ, HJ.out, if_pos hk0, decide_eq_true (show -1 < rv j by omega), decide_eq_true (show rv j < 2048 by omega)]; rfl
                have g0 : ¬ (0 : Int) < (j : Int) := by omega
                have g1 : ¬ 0 < j := by omega
                clear hk0
                go_wp2_with fail
                go_round
                case rel => first | exact ⟨j + 1, by omega, by go_num, HJ1⟩ | exact ⟨j + 1, by omega, rfl, HJ1⟩
                case measure => simp [intOf]; omega
              · have hcell2 := HR.out.at1 (k := j - 1) (by omega)
                have e1 : IntKind.i64.wrap ((j : Int) - 1) = (j : Int) - 1 := IntWalk.i64_in _ (by omega)
                have e2 : (0 : Int) ≤ (j : Int) - 1 := by omega
                have e3 : ((j : Int) - 1).toNat = j - 1 := by omega
                have e4 : (j : Int) - 1 < (m : Int) := by omega
                have g0 : (0 : Int) < (j : Int) := by omega
                have g1 : 0 < j := by omega
                obtain ⟨last, hlast⟩ : ∃ last, last = rv (j - 1) := ⟨_, rfl⟩
                rw [← hlast] at hcell2
                by_cases c3 : rv j ≤ last
                · have HO := Lib.hid (HMY.out false (by rw [riseT_no hlt2 (by rw [if_neg hk0, ← hlast]; omega)]; simp))
                  clear hlast
                  go_wp2_with fail
                  go_ret
                  exact ⟨by rw [HO.out]; rfl, HL.out⟩
                · have HJ1 : Hid (riseT rv (j + 1) = true) := by
                    show _ = _
                    rw [riseT_succ, HJ.out, if_neg hk0, ← hlast, decide_eq_true (show last < rv j by omega), decide_eq_true (show rv j < 2048 by omega)]; rfl
                  clear hlast
                  go_wp2_with fail
                  go_round
                  case rel => first | exact ⟨j + 1, by omega, by go_num, HJ1⟩ | exact ⟨j + 1, by omega, rfl, HJ1⟩
                  case measure => simp [intOf]; omega
            · obtain rfl : j = m := by omega
              have HO := Lib.hid (HMY.out true (by rw [HK.out, HJ.out]; rfl))
              go_wp2_with fail
              go_ret
              exact ⟨by rw [HO.out]; rfl, HL.out⟩
end Go.Proofs.YthkalmdpbhjafaaDoor

/- quernref15.Pack. -/
namespace Go.Proofs.YthkalmdpbhjafaaDoor
open Go.RowKit
set_option linter.unusedVariables false

/-- what the reference keeps while it packs -/
structure RpS (w : World) (t : Tr) (ca : Option Addr) (cc : Nat) (ra : Option Addr) (rc : Nat) (la : Option Addr) (cnt lc : Nat) (W : World) : Prop where
  x : At W w.heap.size 28 (tcells t.s ca t.n cc ra t.m rc)
  c : RRow W ca 257 t.n (cpF t.cb t.cd)
  r : RRow W ra 1 t.m (inF t.rv)
  l : RMine W (w.heap.size + 1) 40 256 (.slice la cnt lc) cnt (bkF (pk0 t))
  bel : Below w.heap.size w W
section
variable {w : World} {t : Tr} {ca : Option Addr} {cc : Nat} {ra : Option Addr} {rc : Nat} {la : Option Addr} {cnt lc : Nat} {W W' : World}
theorem RpS.below (h : RpS w t ca cc ra rc la cnt lc W) (hb : Below W.heap.size W W') : RpS w t ca cc ra rc la cnt lc W' :=
  ⟨h.x.below hb h.x.lt, h.c.below (by intro e; cases e) hb, h.r.below (by intro e; cases e) hb, RMine.below h.l hb, h.bel.trans (hb.mono h.bel.size)⟩
theorem RpS.grown (h : RpS w t ca cc ra rc la cnt lc W) {row : Option Nat} (hg : W.grownBy W' row) (hrow : ∀ q, row = some q → w.heap.size < q) (hl : (Value.slice la cnt lc).ownBlock = none ∨ (Value.slice la cnt lc).ownBlock ≠ row)
    (hca : ∀ b off, ca = some ⟨b, off, none⟩ → b < w.heap.size) (hra : ∀ b off, ra = some ⟨b, off, none⟩ → b < w.heap.size) : RpS w t ca cc ra rc la cnt lc W' :=
  ⟨AtGrown h.x hg (fun e => by have := hrow _ e; omega), RRowG h.c hg (fun b off e _ => ⟨by have := hca b off e; have := h.bel.size; omega, fun e2 => by have := hrow _ e2; have := hca b off e; omega⟩), RRowG h.r hg (fun b off e _ => ⟨by have := hra b off e; have := h.bel.size; omega, fun e2 => by have := hrow _ e2; have := hra b off e; omega⟩), World.ownsRow.kept h.l hg hl, h.bel.grown hg h.bel.size (fun q e => by have := hrow q e; omega)⟩
/-- an append to its own row -/
theorem RpS.app (h : RpS w t ca cc ra rc la cnt lc W) {la' : Option Addr} {cnt' lc' : Nat} (hg : W.grownBy W' (Value.slice la cnt lc).ownBlock) (hl : RMine W' (w.heap.size + 1) 40 256 (.slice la' cnt' lc') cnt' (bkF (pk0 t)))
    (hca : ∀ b off, ca = some ⟨b, off, none⟩ → b < w.heap.size) (hra : ∀ b off, ra = some ⟨b, off, none⟩ → b < w.heap.size) : RpS w t ca cc ra rc la' cnt' lc' W' := by
  have hrow : ∀ q, (Value.slice la cnt lc).ownBlock = some q → w.heap.size < q := fun q hq => by have := (World.ownsRow.lt h.l q hq).1; omega
  exact ⟨AtGrown h.x hg (fun e => by have := hrow _ e; omega), RRowG h.c hg (fun b off e _ => ⟨by have := hca b off e; have := h.bel.size; omega, fun e2 => by have := hrow _ e2; have := hca b off e; omega⟩), RRowG h.r hg (fun b off e _ => ⟨by have := hra b off e; have := h.bel.size; omega, fun e2 => by have := hrow _ e2; have := hra b off e; omega⟩), hl, h.bel.grown hg h.bel.size (fun q e => by have := hrow q e; omega)⟩
theorem own_block_ne {base base' k k' size size' : Nat} {e e' : TypeId} {v v' : Value} {xs xs' : List Value} (h : W.ownsRow base e size v k xs) (h' : W.ownsRow base' e' size' v' k' xs') (he : e ≠ e') : v.ownBlock = none ∨ v.ownBlock ≠ v'.ownBlock := by
  cases h1 : v.ownBlock with
  | none => exact .inl rfl
  | some g => exact .inr (fun e2 => own_ne h h' he h1 e2.symm)
end
theorem RMine.snoc {W : World} {base : Nat} {e : TypeId} {m : Nat} {v : Value} {n : Nat} {f : Nat → List Value} {news : List Value} (h : W.ownsRow base e m v (n + 1) (Cs f n ++ news)) (hk : news = f n) : RMine W base e m v (n + 1) f := by
  subst hk; exact h
def tagF (tb : Nat → Int) (te : Nat → Bool) (i : Nat) : List Value := tgL (tb i) (te i)
def numF (m : Nat → Int) (i : Nat) : List Value := [.int .u32 (m i)]
theorem tagF_len (tb : Nat → Int) (te : Nat → Bool) (i : Nat) : (tagF tb te i).length = 2 := rfl
theorem numF_len (m : Nat → Int) (i : Nat) : (numF m i).length = 1 := rfl
theorem tagRow_of {W : World} {a : Option Addr} {n : Nat} {tb : Nat → Int} {te : Nat → Bool} (h : RRow W a 2 n (tagF tb te)) : TagRow W a n tb te := by
  rcases h with h | ⟨b, off, e, h⟩
  · exact .inl h
  · exact .inr ⟨b, off, e, fun i hi => ⟨h i hi 0 _ rfl, h i hi 1 _ rfl⟩⟩
theorem numRow_of {W : World} {a : Option Addr} {n : Nat} {m : Nat → Int} (h : RRow W a 1 n (numF m)) : NumRow W a n m := by
  rcases h with h | ⟨b, off, e, h⟩
  · exact .inl h
  · exact .inr ⟨b, off, e, fun i hi => by have := h i hi 0 _ rfl; rwa [Nat.mul_one, Nat.add_zero] at this⟩
theorem RRow.dat257 {W : World} {b off n : Nat} {cb : Nat → Int} {cd : Nat → Nat → Int} {k : Nat} (h : RRow W (some ⟨b, off, none⟩) 257 n (cpF cb cd)) (hk : k < n) : W.rangeAt b (off + k * 257 + 1) (Ks .u8 256 (cd k)) := fun j v hj => by
  rcases h with h | ⟨b', off', e, h⟩
  · omega
  · injection e with e; injection e with e1 e2; subst e1 e2
    have := h k hk (1 + j) v (by rw [Nat.add_comm]; exact hj)
    rwa [← Nat.add_assoc] at this
/-- while a row of copies is gone over -/
structure RpT (w : World) (t : Tr) (ca : Option Addr) (cc : Nat) (ra : Option Addr) (rc : Nat) (la : Option Addr) (cnt lc r hs j : Nat) (ga : Option Addr) (gc : Nat) (pa : Option Addr) (pc : Nat) (W : World) : Prop where
  s : RpS w t ca cc ra rc la cnt lc W
  g : RMine W (w.heap.size + 1) 67 2 (.slice ga j gc) j (tagF (fun i => t.cb (30 * r + i)) fun i => escB (t.cd (30 * r + i)))
  d : RMine W hs 40 256 (.slice pa j pc) j (bkF fun i => escZ (t.cd (30 * r + i)))
theorem RpT.below {w : World} {t : Tr} {ca : Option Addr} {cc : Nat} {ra : Option Addr} {rc : Nat} {la : Option Addr} {cnt lc r hs j : Nat} {ga : Option Addr} {gc : Nat} {pa : Option Addr} {pc : Nat} {W W' : World} (h : RpT w t ca cc ra rc la cnt lc r hs j ga gc pa pc W) (hb : Below W.heap.size W W') : RpT w t ca cc ra rc la cnt lc r hs j ga gc pa pc W' :=
  ⟨h.s.below hb, RMine.below h.g hb, RMine.below h.d hb⟩
/-- while a row of numbers is gone over -/
structure RpN (w : World) (t : Tr) (ca : Option Addr) (cc : Nat) (ra : Option Addr) (rc : Nat) (la : Option Addr) (cnt lc r j : Nat) (ga : Option Addr) (gc : Nat) (W : World) : Prop where
  s : RpS w t ca cc ra rc la cnt lc W
  g : RMine W (w.heap.size + 1) 22 1 (.slice ga j gc) j (numF fun i => t.rv (60 * r + i))
theorem RpN.below {w : World} {t : Tr} {ca : Option Addr} {cc : Nat} {ra : Option Addr} {rc : Nat} {la : Option Addr} {cnt lc r j : Nat} {ga : Option Addr} {gc : Nat} {W W' : World} (h : RpN w t ca cc ra rc la cnt lc r j ga gc W) (hb : Below W.heap.size W W') : RpN w t ca cc ra rc la cnt lc r j ga gc W' :=
  ⟨h.s.below hb, RMine.below h.g hb⟩
/-- while all bytes are gathered -/
structure RpU (w : World) (t : Tr) (ca : Option Addr) (cc : Nat) (ra : Option Addr) (rc : Nat) (la : Option Addr) (cnt lc k : Nat) (aa : Option Addr) (ac : Nat) (W : World) : Prop where
  s : RpS w t ca cc ra rc la cnt lc W
  a : W.ownsRow (w.heap.size + 1) 5 1 (.slice aa (k * 256) ac) (k * 256) (Cs (bkF (pk0 t)) k)
theorem RpU.below {w : World} {t : Tr} {ca : Option Addr} {cc : Nat} {ra : Option Addr} {rc : Nat} {la : Option Addr} {cnt lc k : Nat} {aa : Option Addr} {ac : Nat} {W W' : World} (h : RpU w t ca cc ra rc la cnt lc k aa ac W) (hb : Below W.heap.size W W') : RpU w t ca cc ra rc la cnt lc k aa ac W' :=
  ⟨h.s.below hb, own_below' h.a hb⟩
structure RpV (w : World) (t : Tr) (ca : Option Addr) (cc : Nat) (ra : Option Addr) (rc : Nat) (la : Option Addr) (cnt lc k : Nat) (aa : Option Addr) (ac : Nat) (base : Nat) (W : World) : Prop where
  u : RpU w t ca cc ra rc la cnt lc k aa ac W
  sz : base ≤ W.heap.size
  hca : ∀ b off, ca = some ⟨b, off, none⟩ → b < w.heap.size
  hra : ∀ b off, ra = some ⟨b, off, none⟩ → b < w.heap.size
  hx : w.heap.size < base
  hl : ∀ q, (Value.slice la cnt lc).ownBlock = some q → q < base
  ha : ∀ q, (Value.slice aa (k * 256) ac).ownBlock = some q → q < base
theorem RpV.below {w : World} {t : Tr} {ca : Option Addr} {cc : Nat} {ra : Option Addr} {rc : Nat} {la : Option Addr} {cnt lc k : Nat} {aa : Option Addr} {ac base : Nat} {W W' : World} (h : RpV w t ca cc ra rc la cnt lc k aa ac base W) (hb : Below W.heap.size W W') : RpV w t ca cc ra rc la cnt lc k aa ac base W' :=
  ⟨h.u.below hb, by have := hb.size; have := h.sz; omega, h.hca, h.hra, h.hx, h.hl, h.ha⟩
theorem RpV.only {w : World} {t : Tr} {ca : Option Addr} {cc : Nat} {ra : Option Addr} {rc : Nat} {la : Option Addr} {cnt lc k : Nat} {aa : Option Addr} {ac base : Nat} {W W' : World} {p : Nat} (h : RpV w t ca cc ra rc la cnt lc k aa ac base W) (hp : base ≤ p) (ho : Only p W W') : RpV w t ca cc ra rc la cnt lc k aa ac base W' := by
  have hx := h.hx
  exact ⟨⟨⟨h.u.s.x.only ho (by omega), RRowO h.u.s.c ho (fun b off e _ => by have := h.hca b off e; omega), RRowO h.u.s.r ho (fun b off e _ => by have := h.hra b off e; omega), own_only h.u.s.l ho (fun e => by have := h.hl _ e; omega), h.u.s.bel.trans (ho.below (by omega))⟩, own_only h.u.a ho (fun e => by have := h.ha _ e; omega)⟩,
    by have := ho.size; have := h.sz; omega, h.hca, h.hra, h.hx, h.hl, h.ha⟩
theorem row_of_flat {W : World} {base : Nat} {e : TypeId} {a : Option Addr} {k c : Nat} {B : Nat → Nat → Int} (h : W.ownsRow base e 1 (.slice a (k * 256) c) (k * 256) (Cs (bkF B) k)) : Row W a (k * 256) (flat B) := by
  rcases h.2 with ⟨_, h0⟩ | ⟨g, cap', cur, hv, hb, hg, hn, hc, hs, ht⟩
  · exact .inl h0
  · injection hv with h1 h2 h3
    subst h1
    refine .inr ⟨g, 0, rfl, fun i hi => ?_⟩
    have hj : (Cs (bkF B) k)[i]? = some (.int .u8 (flat B i)) := by rw [← Ks_flat]; exact Ks_get _ _ _ _ hi
    rw [← ht] at hj
    rw [List.getElem?_take_of_lt (by omega)] at hj
    rw [Nat.zero_add]
    exact cell_of_heap hg (by simpa using hj)
/-- what the reference's Pack answers -/
def RPackPost (w : World) (t : Tr) (e : Ending) (w' : World) : Prop :=
  (packE t ≠ 0 ∧ e = .returned (.tuple #[.slice none 0 0, .int .i64 (packE t)])) ∨ (packE t = 0 ∧ ∃ q cap, e = .returned (.tuple #[.slice (some ⟨q, 0, none⟩) (t.c + 1) cap, .int .i64 0]) ∧ RMine w' (w.heap.size + 1) 40 256 (.slice (some ⟨q, 0, none⟩) (t.c + 1) cap) (t.c + 1) (bkF (pkB t)))

set_option maxRecDepth 100000 in
set_option maxHeartbeats 8000000 in
theorem rPack_any (t : Tr) (ht : t.Ok) (ca : Option Addr) (cc : Nat) (ra : Option Addr) (rc : Nat) (w : World) (hc : RRow w ca 257 t.n (cpF t.cb t.cd)) (hr : RRow w ra 1 t.m (inF t.rv))
    (hca : ∀ b off, ca = some ⟨b, off, none⟩ → b < w.heap.size) (hra : ∀ b off, ra = some ⟨b, off, none⟩ → b < w.heap.size) :
    Calls Tryd.prog 14 #[tval t.s ca t.n cc ra t.m rc] w fun e w' => RPackPost w t e w' ∧ Below w.heap.size w w' := by
  have st0 : Hid (RpS w t ca cc ra rc none 0 0 (w.alloc (.cells (tcells t.s ca t.n cc ra t.m rc) 28))) := ⟨At.new w _ _, hc.alloc _, hr.alloc _, RMine.nil _ _ _ _ _, (Below.refl _ _).alloc (Nat.le_refl _) _⟩
  have hx0 := st0.out.x
  have HOK := Lib.hid ht
  have HCA : Hid (∀ b off, ca = some ⟨b, off, none⟩ → b < w.heap.size) := hca
  have HRA : Hid (∀ b off, ra = some ⟨b, off, none⟩ → b < w.heap.size) := hra
  have hnn := ht.n
  have hmm := ht.m
  have hal := zero_block
  clear hc hr hca hra ht
  go_enter Tryd.func14, Tryd.ntmps14
  go_wp2_with (first | (refine wp_loadAtG rfl 28 (.tmp 1) rfl _ _ _ rfl hx0 Tryd.underlying28 rfl (info_trans _ _ _ _ _ _ _) ?_))
  refine (rMay15_any t.s ca t.n cc ra t.m rc t.cb t.cd t.rv HOK.out.s hnn hmm _ st0.out.c st0.out.r).mono ?_
  rintro e w1 ⟨rfl, hb1⟩
  have st1 := Lib.hid (st0.out.below hb1)
  clear hb1 hx0 st0
  cases hmay : mayT t.s t.n t.cb t.m t.rv with
  | false =>
    have HE : Hid (packE t = 150) := by show _ = _; unfold packE Tr.may; rw [hmay]; rfl
    clear hmay
    go_wp2_with fail
    go_ret2
    exact ⟨.inl ⟨by rw [HE.out]; decide, by rw [HE.out]; rfl⟩, st1.out.bel⟩
  | true =>
  have HMAY : Hid (t.may = true) := hmay
  obtain ⟨hq1, hq2, hq3, hq4⟩ := t.may_iff.1 hmay
  have hn48 := riseT_len hq3
  have hm48 := riseT_len hq4
  have HWC := Lib.hid (wds_of hq3 HOK.out.cb0)
  have HWR := Lib.hid (wds_of hq4 HOK.out.rv0)
  have HSZ : Hid (t.size = ((t.c + 1 : Nat) : Int)) := by show _ = _; rw [size_c hmay]; omega
  have hsz : sizeOf (t.n : Int) (t.m : Int) = ((t.c + 1 : Nat) : Int) := HSZ.out
  have c1 : w1.cell? ⟨w.heap.size, 1, none⟩ = some (.slice ca t.n cc) := st1.out.x.cell (i := 1) rfl
  have c2 : w1.cell? ⟨w.heap.size, 2, none⟩ = some (.slice ra t.m rc) := st1.out.x.cell (i := 2) rfl
  clear hmay hq1 hq2 hq3 hq4
  have hszN : Hid (sizeOf (t.n : Int) (t.m : Int) = ((t.c + 1 : Nat) : Int)) := hsz
  clear hsz
  go_wp2_with fail
  refine (refSize_any (t.n : Int) (t.m : Int) w1).mono ?_
  rintro e w2 ⟨rfl, hw⟩
  obtain rfl : w1 = w2 := hw
  rw [hszN.out]
  obtain ⟨C, hC⟩ : ∃ C, C = t.c := ⟨_, rfl⟩
  rw [← hC]
  by_cases hbig : 255 < C + 1
  · have HE : Hid (packE t = 4) := by show _ = _; unfold packE; rw [HMAY.out, HSZ.out, if_pos rfl, if_neg (by omega)]
    have hb' : (255 : Int) < ((C + 1 : Nat) : Int) := by omega
    clear hC
    go_wp2_with fail
    go_ret2
    exact ⟨.inl ⟨by rw [HE.out]; decide, by rw [HE.out]; rfl⟩, st1.out.bel⟩
  have hb' : ¬ (255 : Int) < ((C + 1 : Nat) : Int) := by omega
  have HE : Hid (packE t = 0) := by show _ = _; unfold packE; rw [HMAY.out, HSZ.out, if_pos rfl, if_pos (by omega)]
  have HC := Lib.hid hC
  clear hC
  have hcs : C ≤ 254 := by omega
  obtain ⟨i0, hi0, hz⟩ := Option.map_eq_some_iff.1 info_blk3
  simp only [Prod.mk.injEq] at hz
  obtain ⟨hz0, hz1, hz2⟩ := hz
  obtain ⟨i1, hi1, hy0, hy1, hy2⟩ := info_parts info_tag'
  clear c1 c2 hszN
  go_wp2_with fail
  go_loopw [4, 5, 6, 7, 8, 9, 10, 11, 12] (fun u i _ _ _ _ _ _ _ wr => ∃ (r : Nat) (la : Option Addr) (lc : Nat), u = .slice la (cntC t.n r) lc ∧ i = .int .i64 ((30 * r : Nat) : Int) ∧ r ≤ (t.n + 29) / 30 ∧ RpS w t ca cc ra rc la (cntC t.n r) lc wr) (fun _ i _ _ _ _ _ _ _ _ => t.n + 30 - (intOf i).toNat)
  case atStart => exact ⟨0, none, 0, by rw [cntC_zero], rfl, Nat.zero_le _, by rw [cntC_zero]; exact st1.out⟩
  case round =>
    clear st1
    obtain ⟨r, la, lc, rfl, rfl, hr, st⟩ := hrel
    have c1 : wr.cell? ⟨w.heap.size, 1, none⟩ = some (.slice ca t.n cc) := st.x.cell (i := 1) rfl
    by_cases hlt : r < (t.n + 29) / 30
    · obtain ⟨e1, e2⟩ := cntC_row hlt
      obtain ⟨kk, hkk⟩ : ∃ kk, kk = min 30 (t.n - 30 * r) := ⟨_, rfl⟩
      have hk1 : 1 ≤ kk := by omega
      have hk2 : kk ≤ 30 := by omega
      have hk3 : 30 * r + kk ≤ t.n := by omega
      have hk4 : kk < 30 → 30 * r + kk = t.n := by omega
      have hi1' : ((30 * r : Nat) : Int) < (t.n : Int) := by omega
      have HE1 := Lib.hid e1
      have HE2 := Lib.hid e2
      have HKK := Lib.hid hkk
      obtain ⟨N, hN⟩ : ∃ N, N = cntC t.n r := ⟨_, rfl⟩
      obtain ⟨R, hR⟩ : ∃ R, R = 30 * r := ⟨_, rfl⟩
      have HR := Lib.hid hR
      have HN := Lib.hid hN
      rw [← hR] at hk3 hk4 hi1'
      rw [← hN] at st
      rw [← hN, ← hR]
      have hN254 : N ≤ 254 := by
        have := HC.out
        unfold Tr.c at this
        have hd := cntC_end t.n
        have : cntC t.n r ≤ dN t.n := by unfold dN; unfold dN at hd; omega
        omega
      have w30 : IntKind.i64.wrap ((R : Int) + 30) = (R : Int) + 30 := IntWalk.i64_in _ (by omega)
      have hsw := st.bel.size
      have hsx := st.x.lt
      have hlq : ∀ q, (Value.slice la N lc).ownBlock = some q → q < wr.heap.size := fun q hq => (World.ownsRow.lt st.l q hq).2
      have HLQ : Hid (∀ q, (Value.slice la N lc).ownBlock = some q → q < wr.heap.size) := hlq
      have stI : Hid (RpT w t ca cc ra rc la N lc r wr.heap.size 0 none 0 none 0 wr) := ⟨st, RMine.nil _ _ _ _ _, RMine.nil _ _ _ _ _⟩
      obtain ⟨hs, hhs⟩ : ∃ hs, hs = wr.heap.size := ⟨_, rfl⟩
      rw [← hhs] at stI hsw hsx HLQ
      have hsr0 : hs ≤ wr.heap.size := by omega
      clear st e1 e2 hkk hN hR hlq hhs
      go_wp2_with fail
      go_loopw [6, 7, 8, 9, 10] (fun g p i _ _ wr => ∃ (j : Nat) (ga : Option Addr) (gc : Nat) (pa : Option Addr) (pc : Nat), g = .slice ga j gc ∧ p = .slice pa j pc ∧ i = .int .i64 ((R + j : Nat) : Int) ∧ j ≤ kk ∧ RpT w t ca cc ra rc la N lc r hs j ga gc pa pc wr ∧ hs ≤ wr.heap.size) (fun _ _ i _ _ _ => R + kk - (intOf i).toNat)
      case atStart => exact ⟨0, none, 0, none, 0, rfl, rfl, rfl, Nat.zero_le _, stI.out, hsr0⟩
      case round =>
        clear stI c1 hsr0
        obtain ⟨j, ga, gc, pa, pc, rfl, rfl, rfl, hj, st, hsr⟩ := hrel
        have c1 : wr.cell? ⟨w.heap.size, 1, none⟩ = some (.slice ca t.n cc) := st.s.x.cell (i := 1) rfl
        by_cases hlt2 : j < kk
        · obtain ⟨I, hI⟩ : ∃ I, I = R + j := ⟨_, rfl⟩
          have hIn : I < t.n := by omega
          have hI1 : (I : Int) < (t.n : Int) := by omega
          have hI2 : (I : Int) < (R : Int) + 30 := by omega
          have hI0 : (0 : Int) ≤ (I : Int) := by omega
          have hIb : I ≤ 2048 := by omega
          have HI := Lib.hid hI
          rw [← hI]
          clear hI
          obtain ⟨b, off, rfl⟩ := st.s.c.some_of (by omega)
          have rg := st.s.c.dat257 hIn
          have hzI := HOK.out.cd I
          go_wp2_with (first | (refine wp_loadMid rfl 40 (.tmp 59) rfl b (off + I * 257 + 1) (Ks .u8 256 (t.cd I)) _ rfl rg Tryd.underlying40 rfl (by rw [Ks_length]; exact info_block) ?_))
          refine (rEscape_any (t.cd I) hzI wr).mono ?_
          rintro e w2 ⟨rfl, hb2⟩
          have st2 := Lib.hid (st.below hb2)
          have hs2 := hb2.size
          have hB2 := Blk.new w2 40 256 (fun _ => 0)
          have hL2 : Below w2.heap.size w2 (w2.alloc (.cells (Ks .u8 256 (fun _ => 0)).toArray 40)) := (Below.refl _ _).alloc (Nat.le_refl _) _
          obtain ⟨y, hy⟩ : ∃ y, y = escZ (t.cd I) := ⟨_, rfl⟩
          obtain ⟨es, hes⟩ : ∃ es, es = escB (t.cd I) := ⟨_, rfl⟩
          have HY := Lib.hid hy
          have HES := Lib.hid hes
          rw [← hy, ← hes]
          clear st hb2 rg hzI hy hes c1
          go_wp2_with (first | (refine wp_storeBlk rfl (.tmp 9) (.tmp 62) rfl w2.heap.size y _ rfl rfl hB2 ?_))
          intro w3 hB3 ho3
          have hL3 := hL2.trans (ho3.below (Nat.le_refl _))
          have st3 := st2.out.below hL3
          have hs3 := hL3.size
          have c1 : w3.cell? ⟨w.heap.size, 1, none⟩ = some (.slice (some ⟨b, off, none⟩) t.n cc) := st3.s.x.cell (i := 1) rfl
          have hcb := st3.s.c.at257 hIn
          have hwb : IntKind.u32.wrap (t.cb I) = t.cb I := by have := HWC.out I; exact IntWalk.u32_in _ (by omega)
          have hbs := run_tag1
          have hown := RMine.alloc st3.g (.cells #[.int .u32 (t.cb I), .bool es] 67)
          have hB4 := hB3.alloc (.cells #[.int .u32 (t.cb I), .bool es] 67)
          have st4 := Lib.hid (st3.below ((Below.refl w3.heap.size w3).alloc (Nat.le_refl _) (.cells #[.int .u32 (t.cb I), .bool es] 67)))
          clear st2 hL2 hL3 ho3 st3 hB2
          go_wp2_with (first | (refine wpList_append_own _ rfl (.tmp 64) (.tmp 74) 63 rfl (w.heap.size + 1) 67 i1 (.agg #[.int .u32 0, .bool false]) 2 8 Tryd.underlying63 hi1 hy0 hy1 hy2 rfl (by decide) (.slice ga j gc) j _ rfl hown ⟨w3.heap.size, 0, none⟩ 1 1 [.int .u32 (t.cb I), .bool es] rfl rfl (tagNews w3 (t.cb I) es) (tagOne (t.cb I) es) (by unfold maxLen; omega) (by omega) (by simp; omega) ?_))
          intro v' w5 ho5 hg5 _
          have hIr : 30 * r + j = I := by have h1 := HI.out; have h2 := HR.out; omega
          have hrow5 : ∀ q, (Value.slice ga j gc).ownBlock = some q → w.heap.size < q := fun q hq => by have := (World.ownsRow.lt hown q hq).1; omega
          have hg5' : RMine w5 (w.heap.size + 1) 67 2 v' (j + 1) (tagF (fun i => t.cb (30 * r + i)) fun i => escB (t.cd (30 * r + i))) := RMine.snoc ho5 (by show _ = [Value.int .u32 (t.cb (30 * r + j)), Value.bool (escB (t.cd (30 * r + j)))]; rw [hIr, HES.out])
          have hs5 := hg5.size
          rw [World.size_alloc] at hs5
          have st5 := st4.out.s.grown hg5 hrow5 (own_block_ne st4.out.s.l hown (by decide)) HCA.out HRA.out
          have hd5 : RMine w5 hs 40 256 (.slice pa j pc) j (bkF fun i => escZ (t.cd (30 * r + i))) := World.ownsRow.kept st4.out.d hg5 (own_block_ne st4.out.d hown (by decide))
          have hB5 : Blk w5 w2.heap.size 40 256 y := AtGrown hB4 hg5 (at_own_ne hB4 hown (by decide))
          obtain ⟨ga', gc', rfl⟩ := hg5'.form
          have HG5 := Lib.hid (RMine.alloc hg5' (.cells (Ks .u8 256 y).toArray 40))
          have st6 := Lib.hid (st5.below ((Below.refl w5.heap.size w5).alloc (Nat.le_refl _) (.cells (Ks .u8 256 y).toArray 40)))
          have hown6 := RMine.alloc hd5 (.cells (Ks .u8 256 y).toArray 40)
          have hnews : ∀ (i : Nat) (u : Value), (Ks .u8 256 y)[i]? = some u → (w5.alloc (.cells (Ks .u8 256 y).toArray 40)).cell? ((⟨w5.heap.size, 0, none⟩ : Addr).add i) = some u := cells_news w5 (Ks .u8 256 y) _
          have hlen : (Ks .u8 256 y).length = 1 * 256 := by simp [Ks]
          clear ho5 hg5 hg5' st4 hown hrow5 st5 hd5 hB4 hB3 hcb hwb hbs c1
          go_wp2_with (first | (refine wp_loadBlkG rfl (.tmp 9) rfl _ _ rfl hB5 ?_) | (refine wpList_slice1 rfl 31 1 0 (.tmp 77) rfl (bval y) rfl _ _ (run_block1 y _) ?_) | (refine wpList_append_own _ rfl (.tmp 76) (.tmp 78) 31 rfl hs 40 i0 (bval fun _ => 0) 256 256 Tryd.underlying31 hi0 hz0 hz1 hz2 (by simp [Value.cells, Ks]) (by decide) (.slice pa j pc) j _ rfl hown6 ⟨w5.heap.size, 0, none⟩ 1 1 (Ks .u8 256 y) rfl hlen hnews (Ks_oneL .u8 256 y) (by unfold maxLen; omega) (by omega) (by simp; omega) ?_))
          intro v' w7 ho7 hg7 _
          have hrow7 : ∀ q, (Value.slice pa j pc).ownBlock = some q → hs ≤ q := fun q hq => (World.ownsRow.lt hown6 q hq).1
          have hd7 : RMine w7 hs 40 256 v' (j + 1) (bkF fun i => escZ (t.cd (30 * r + i))) := RMine.snoc ho7 (by show _ = Ks .u8 256 (escZ (t.cd (30 * r + j))); rw [hIr, HY.out])
          have hs7 := hg7.size
          rw [World.size_alloc] at hs7
          have hlne : (Value.slice la N lc).ownBlock = none ∨ (Value.slice la N lc).ownBlock ≠ (Value.slice pa j pc).ownBlock := by
            cases h1 : (Value.slice la N lc).ownBlock with
            | none => exact .inl rfl
            | some g => exact .inr (fun e2 => by have h3 := hrow7 g e2.symm; have h4 := HLQ.out g h1; omega)
          obtain ⟨pa', pc', rfl⟩ := hd7.form
          have st7 : Hid (RpT w t (some ⟨b, off, none⟩) cc ra rc la N lc r hs (j + 1) ga' gc' pa' pc' w7) := ⟨st6.out.grown hg7 (fun q e => by have := hrow7 q e; omega) hlne HCA.out HRA.out, World.ownsRow.kept HG5.out hg7 (own_block_ne HG5.out hown6 (by decide)), hd7⟩
          have hsr7 : hs ≤ w7.heap.size := by omega
          clear ho7 hg7 hrow7 hd7 hlne st6 hown6 hnews HG5 hB5
          go_wp2_with fail
          have hI9 : R + (j + 1) = I + 1 := by have := HI.out; omega
          go_roundw
          case rel => first | exact ⟨j + 1, ga', gc', pa', pc', rfl, rfl, by rw [hI9]; first | rfl | go_num, by omega, st7.out, hsr7⟩ | ((repeat apply Exists.intro); exact ⟨⟨j + 1, ga', gc', pa', pc', rfl, rfl, by rw [hI9]; first | rfl | go_num, by omega, st7.out, hsr7⟩, rfl⟩)
          case measure => have := HI.out; simp [intOf]; omega
        · obtain rfl : j = kk := by omega
          obtain ⟨I, hI⟩ : ∃ I, I = R + j := ⟨_, rfl⟩
          have hcase : (¬ (I : Int) < (R : Int) + 30) ∨ ((I : Int) < (R : Int) + 30 ∧ ¬ (I : Int) < (t.n : Int)) := by omega
          have hI3 : (I : Int) = (R : Int) + (j : Int) := by omega
          rw [← hI]
          have HI := Lib.hid hI
          have ST := Lib.hid st
          have c0 : wr.cell? ⟨w.heap.size, 0, none⟩ = some (.int .u32 t.s) := st.s.x.cell (i := 0) rfl
          clear hI hI3 st
          rcases hcase with hI1 | ⟨hI1, hI2⟩
          all_goals
            go_wp2_with fail
            refine (rWriteDesc_any t.s ga j gc (fun i => t.cb (30 * r + i)) (fun i => escB (t.cd (30 * r + i))) HOK.out.s (fun i => HWC.out _) (by omega) wr (tagRow_of (RMine.row ST.out.g (tagF_len _ _)))).mono ?_
            rintro e w2 ⟨rfl, hb2⟩
            have st2 := Lib.hid (ST.out.below hb2)
            have hs2 := hb2.size
            have hB2 := Blk.new w2 40 256 (fun _ => 0)
            have hL2 : Below w2.heap.size w2 (w2.alloc (.cells (Ks .u8 256 (fun _ => 0)).toArray 40)) := (Below.refl _ _).alloc (Nat.le_refl _) _
            obtain ⟨y, hy⟩ : ∃ y, y = descZ t.s j (fun i => t.cb (30 * r + i)) (fun i => escB (t.cd (30 * r + i))) := ⟨_, rfl⟩
            have HY := Lib.hid hy
            rw [← hy]
            clear ST hb2 hy c0 c1
            go_wp2_with (first | (refine wp_storeBlk rfl (.tmp 11) (.tmp 85) rfl w2.heap.size y _ rfl rfl hB2 ?_))
            intro w3 hB3 ho3
            have hL3 := hL2.trans (ho3.below (Nat.le_refl _))
            have hs3 := hL3.size
            have st4 := Lib.hid ((st2.out.below hL3).below ((Below.refl w3.heap.size w3).alloc (Nat.le_refl _) (.cells (Ks .u8 256 y).toArray 40)))
            have hown4 := st4.out.s.l
            have hnews4 : ∀ (i : Nat) (u : Value), (Ks .u8 256 y)[i]? = some u → (w3.alloc (.cells (Ks .u8 256 y).toArray 40)).cell? ((⟨w3.heap.size, 0, none⟩ : Addr).add i) = some u := cells_news w3 (Ks .u8 256 y) _
            have hlen : (Ks .u8 256 y).length = 1 * 256 := by simp [Ks]
            clear st2 hL2 hL3 ho3 hB2
            go_wp2_with (first | (refine wp_loadBlkG rfl (.tmp 11) rfl _ _ rfl hB3 ?_) | (refine wpList_slice1 rfl 31 1 0 (.tmp 88) rfl (bval y) rfl _ _ (run_block1 y _) ?_) | (refine wpList_append_own _ rfl (.tmp 87) (.tmp 89) 31 rfl (w.heap.size + 1) 40 i0 (bval fun _ => 0) 256 256 Tryd.underlying31 hi0 hz0 hz1 hz2 (by simp [Value.cells, Ks]) (by decide) (.slice la N lc) N _ rfl hown4 ⟨w3.heap.size, 0, none⟩ 1 1 (Ks .u8 256 y) rfl hlen hnews4 (Ks_oneL .u8 256 y) (by unfold maxLen; omega) (by omega) (by simp; omega) ?_))
            intro v' w5 ho5 hg5 _
            have hN31 : N = 31 * r := HN.out.trans HE1.out
            have hkr : j = min 30 (t.n - 30 * r) := HKK.out
            have hp0 : descZ t.s j (fun i => t.cb (30 * r + i)) (fun i => escB (t.cd (30 * r + i))) = pk0 t N := by
              have := pk0_desc (t := t) hlt (i := 31 * r) (by omega)
              rw [if_neg (by omega), if_pos rfl, ← hkr] at this
              rw [this, hN31]
            have hp1 : ∀ i, i < j → escZ (t.cd (30 * r + i)) = pk0 t (N + 1 + i) := fun i hi => by
              have := pk0_desc (t := t) hlt (i := 31 * r + 1 + i) (by omega)
              rw [if_neg (by omega), if_neg (by omega), show 31 * r + 1 + i - 31 * r - 1 = i by omega] at this
              rw [this, hN31]
            have hl5 : RMine w5 (w.heap.size + 1) 40 256 v' (N + 1) (bkF (pk0 t)) := RMine.snoc ho5 (by show _ = Ks .u8 256 (pk0 t N); rw [← hp0, HY.out])
            obtain ⟨la5, lc5, rfl⟩ := hl5.form
            have hrow5 : ∀ q, (Value.slice la N lc).ownBlock = some q → q < hs := HLQ.out
            have hs5 := hg5.size
            rw [World.size_alloc] at hs5
            have st5 := st4.out.s.app hg5 hl5 HCA.out HRA.out
            have hd5 : RMine w5 hs 40 256 (.slice pa j pc) j (bkF fun i => escZ (t.cd (30 * r + i))) := World.ownsRow.kept st4.out.d hg5 (by
              cases h1 : (Value.slice pa j pc).ownBlock with
              | none => exact .inl rfl
              | some g => exact .inr (fun e2 => by have h3 := hrow5 g e2.symm; have h4 := (World.ownsRow.lt st4.out.d g h1).1; omega))
            obtain ⟨pg, pcap, hpv, hpg1, hpg2, hpg3, hpg4⟩ := hd5.form' (by omega)
            injection hpv with hpv1 hpv2 hpv3
            subst hpv1
            have hown5 := st5.l
            have hnews5 := row_news15 (m := 256) (by omega) (bkF_len _) (RMine.row hd5 (bkF_len _))
            have hlen5 : (Cs (bkF fun i => escZ (t.cd (30 * r + i))) j).length = j * 256 := Cs_length (bkF_len _) _
            have hone5 : ∀ u ∈ Cs (bkF fun i => escZ (t.cd (30 * r + i))) j, u.oneCell' = true := Cs_one (bkF_one _) _
            have ST5 := Lib.hid st5
            have HP1 := Lib.hid hp1
            clear ho5 hg5 hrow5 hl5 st4 hown4 hnews4 hlen hB3 hp0 hp1 st5 hd5 hN31 hkr
            go_wp2_with (first | (refine wpList_append_own _ rfl (.tmp 91) (.tmp 92) 31 rfl (w.heap.size + 1) 40 i0 (bval fun _ => 0) 256 256 Tryd.underlying31 hi0 hz0 hz1 hz2 (by simp [Value.cells, Ks]) (by decide) (.slice la5 (N + 1) lc5) (N + 1) _ rfl hown5 ⟨pg, 0, none⟩ j pc _ rfl hlen5 hnews5 hone5 (by unfold maxLen; omega) (by omega) (by omega) ?_))
            intro v' w6 ho6 hg6 _
            have hl6 : RMine w6 (w.heap.size + 1) 40 256 v' (N + 1 + j) (bkF (pk0 t)) := RMine.append ho6 (Cs_congr fun i hi => congrArg (Ks .u8 256) (HP1.out i hi))
            obtain ⟨la6, lc6, rfl⟩ := hl6.form
            have st6 := ST5.out.app hg6 hl6 HCA.out HRA.out
            have hN' : N + 1 + j = cntC t.n (r + 1) := by have h1 := HN.out; have h2 := HE1.out; have h3 := HE2.out; have h4 := HKK.out; omega
            have hR' : 30 * (r + 1) = R + 30 := by have := HR.out; omega
            rw [hN'] at st6
            rw [hN']
            have ST6 := Lib.hid st6
            have HR' := Lib.hid hR'
            clear ho6 hg6 hl6 ST5 hown5 hnews5 hlen5 hone5 st6 hN' hR'
            go_wp2_with fail
            go_roundw
            case rel => first | exact ⟨r + 1, la6, lc6, rfl, by rw [HR'.out]; first | rfl | go_num, by omega, ST6.out⟩ | ((repeat apply Exists.intro); exact ⟨⟨r + 1, la6, lc6, rfl, by rw [HR'.out]; first | rfl | go_num, by omega, ST6.out⟩, rfl⟩)
            case measure => have := HR.out; simp [intOf]; omega
    · obtain rfl : r = (t.n + 29) / 30 := by omega
      have hRn : ¬ ((30 * ((t.n + 29) / 30) : Nat) : Int) < (t.n : Int) := by omega
      obtain ⟨R, hR⟩ : ∃ R, R = 30 * ((t.n + 29) / 30) := ⟨_, rfl⟩
      rw [cntC_end] at st
      rw [cntC_end]
      rw [← hR] at hRn
      rw [← hR]
      have ST := Lib.hid st
      have hdN : dN t.n ≤ C := by have := HC.out; unfold Tr.c at this; omega
      clear st hR hlt hr
      obtain ⟨i2, hi2, hx0, hx1, hx2⟩ := info_parts info_u32
      go_wp2_with fail
      go_loopw [4, 13, 14, 15, 16, 17] (fun u i _ _ _ _ wr => ∃ (r : Nat) (la : Option Addr) (lc : Nat), u = .slice la (dN t.n + r) lc ∧ i = .int .i64 ((60 * r : Nat) : Int) ∧ r ≤ rN t.m ∧ RpS w t ca cc ra rc la (dN t.n + r) lc wr) (fun _ i _ _ _ _ _ => t.m + 60 - (intOf i).toNat)
      case atStart => exact ⟨0, la, lc, rfl, rfl, Nat.zero_le _, ST.out⟩
      case round =>
        clear ST c1
        obtain ⟨r, la, lc, rfl, rfl, hr, st⟩ := hrel
        have c2 : wr.cell? ⟨w.heap.size, 2, none⟩ = some (.slice ra t.m rc) := st.x.cell (i := 2) rfl
        have hCC : dN t.n + rN t.m = C := by rw [HC.out]; rfl
        by_cases hlt : r < rN t.m
        · have hrm : r < (t.m + 59) / 60 := hlt
          obtain ⟨kk, hkk⟩ : ∃ kk, kk = min 60 (t.m - 60 * r) := ⟨_, rfl⟩
          have hk1 : 1 ≤ kk := by omega
          have hk2 : kk ≤ 60 := by omega
          have hk3 : 60 * r + kk ≤ t.m := by omega
          have hk4 : kk < 60 → 60 * r + kk = t.m := by omega
          have hi1' : ((60 * r : Nat) : Int) < (t.m : Int) := by omega
          have HKK := Lib.hid hkk
          obtain ⟨N, hN⟩ : ∃ N, N = dN t.n + r := ⟨_, rfl⟩
          obtain ⟨R, hR⟩ : ∃ R, R = 60 * r := ⟨_, rfl⟩
          have hN254 : N ≤ 254 := by omega
          have HR := Lib.hid hR
          have HN := Lib.hid hN
          rw [← hR] at hk3 hk4 hi1'
          rw [← hN] at st
          rw [← hN, ← hR]
          have w60 : IntKind.i64.wrap ((R : Int) + 60) = (R : Int) + 60 := IntWalk.i64_in _ (by omega)
          have stI : Hid (RpN w t ca cc ra rc la N lc r 0 none 0 wr) := ⟨st, RMine.nil _ _ _ _ _⟩
          clear st hkk hN hR hCC
          go_wp2_with fail
          go_loopw [14, 15] (fun g i wr => ∃ (j : Nat) (ga : Option Addr) (gc : Nat), g = .slice ga j gc ∧ i = .int .i64 ((R + j : Nat) : Int) ∧ j ≤ kk ∧ RpN w t ca cc ra rc la N lc r j ga gc wr) (fun _ i _ => R + kk - (intOf i).toNat)
          case atStart => exact ⟨0, none, 0, rfl, rfl, Nat.zero_le _, stI.out⟩
          case round =>
            clear stI c2
            obtain ⟨j, ga, gc, rfl, rfl, hj, st⟩ := hrel
            have c2 : wr.cell? ⟨w.heap.size, 2, none⟩ = some (.slice ra t.m rc) := st.s.x.cell (i := 2) rfl
            by_cases hlt2 : j < kk
            · obtain ⟨I, hI⟩ : ∃ I, I = R + j := ⟨_, rfl⟩
              have hIn : I < t.m := by omega
              have hI1 : (I : Int) < (t.m : Int) := by omega
              have hI2 : (I : Int) < (R : Int) + 60 := by omega
              have hI0 : (0 : Int) ≤ (I : Int) := by omega
              have hIb : I ≤ 2048 := by omega
              have HI := Lib.hid hI
              rw [← hI]
              clear hI
              obtain ⟨b, off, rfl⟩ := st.s.r.some_of (by omega)
              have hcb := st.s.r.at1 hIn
              have hwb : IntKind.u32.wrap (t.rv I) = t.rv I := by have := HWR.out I; exact IntWalk.u32_in _ (by omega)
              have hbs := run_num1
              have hown := RMine.alloc st.g (.cells #[.int .u32 (t.rv I)] 22)
              have st4 := Lib.hid (st.below ((Below.refl wr.heap.size wr).alloc (Nat.le_refl _) (.cells #[.int .u32 (t.rv I)] 22)))
              have hsw := st.s.x.lt
              clear st
              go_wp2_with (first | (refine wpList_append_own _ rfl (.tmp 115) (.tmp 122) 70 rfl (w.heap.size + 1) 22 i2 (.int .u32 0) 1 4 Tryd.underlying70 hi2 hx0 hx1 hx2 rfl (by decide) (.slice ga j gc) j _ rfl hown ⟨wr.heap.size, 0, none⟩ 1 1 [.int .u32 (t.rv I)] rfl rfl (numNews wr (t.rv I)) (numOne (t.rv I)) (by unfold maxLen; omega) (by omega) (by simp; omega) ?_))
              intro v' w5 ho5 hg5 _
              have hIr : 60 * r + j = I := by have h1 := HI.out; have h2 := HR.out; omega
              have hrow5 : ∀ q, (Value.slice ga j gc).ownBlock = some q → w.heap.size < q := fun q hq => by have := (World.ownsRow.lt hown q hq).1; omega
              have hg5' : RMine w5 (w.heap.size + 1) 22 1 v' (j + 1) (numF fun i => t.rv (60 * r + i)) := RMine.snoc ho5 (by show _ = [Value.int .u32 (t.rv (60 * r + j))]; rw [hIr])
              obtain ⟨ga', gc', rfl⟩ := hg5'.form
              have st5 : Hid (RpN w t ca cc (some ⟨b, off, none⟩) rc la N lc r (j + 1) ga' gc' w5) := ⟨st4.out.s.grown hg5 hrow5 (own_block_ne st4.out.s.l hown (by decide)) HCA.out HRA.out, hg5'⟩
              have hI9 : R + (j + 1) = I + 1 := by have := HI.out; omega
              clear ho5 hg5 hg5' st4 hown hrow5 hcb hwb hbs c2
              go_wp2_with fail
              go_roundw
              case rel => first | exact ⟨j + 1, ga', gc', rfl, by rw [hI9]; first | rfl | go_num, by omega, st5.out⟩ | ((repeat apply Exists.intro); exact ⟨⟨j + 1, ga', gc', rfl, by rw [hI9]; first | rfl | go_num, by omega, st5.out⟩, rfl⟩)
              case measure => have := HI.out; simp [intOf]; omega
            · obtain rfl : j = kk := by omega
              obtain ⟨I, hI⟩ : ∃ I, I = R + j := ⟨_, rfl⟩
              have hcase : (¬ (I : Int) < (R : Int) + 60) ∨ ((I : Int) < (R : Int) + 60 ∧ ¬ (I : Int) < (t.m : Int)) := by omega
              rw [← hI]
              have HI := Lib.hid hI
              have ST := Lib.hid st
              have c0 : wr.cell? ⟨w.heap.size, 0, none⟩ = some (.int .u32 t.s) := st.s.x.cell (i := 0) rfl
              have hsw := st.s.x.lt
              clear hI st
              rcases hcase with hI1 | ⟨hI1, hI2⟩
              all_goals
                go_wp2_with fail
                refine (rWriteRevoke_any t.s ga j gc (fun i => t.rv (60 * r + i)) HOK.out.s (fun i => HWR.out _) (by omega) wr (numRow_of (RMine.row ST.out.g (numF_len _)))).mono ?_
                rintro e w2 ⟨rfl, hb2⟩
                have st2 := Lib.hid (ST.out.below hb2)
                have hs2 := hb2.size
                have hB2 := Blk.new w2 40 256 (fun _ => 0)
                have hL2 : Below w2.heap.size w2 (w2.alloc (.cells (Ks .u8 256 (fun _ => 0)).toArray 40)) := (Below.refl _ _).alloc (Nat.le_refl _) _
                obtain ⟨y, hy⟩ : ∃ y, y = revZ t.s j (fun i => t.rv (60 * r + i)) := ⟨_, rfl⟩
                have HY := Lib.hid hy
                rw [← hy]
                clear ST hb2 hy c0 c2
                go_wp2_with (first | (refine wp_storeBlk rfl (.tmp 16) (.tmp 129) rfl w2.heap.size y _ rfl rfl hB2 ?_))
                intro w3 hB3 ho3
                have hL3 := hL2.trans (ho3.below (Nat.le_refl _))
                have hs3 := hL3.size
                have st4 := Lib.hid ((st2.out.below hL3).below ((Below.refl w3.heap.size w3).alloc (Nat.le_refl _) (.cells (Ks .u8 256 y).toArray 40)))
                have hown4 := st4.out.s.l
                have hnews4 : ∀ (i : Nat) (u : Value), (Ks .u8 256 y)[i]? = some u → (w3.alloc (.cells (Ks .u8 256 y).toArray 40)).cell? ((⟨w3.heap.size, 0, none⟩ : Addr).add i) = some u := cells_news w3 (Ks .u8 256 y) _
                have hlen : (Ks .u8 256 y).length = 1 * 256 := by simp [Ks]
                clear st2 hL2 hL3 ho3 hB2
                go_wp2_with (first | (refine wp_loadBlkG rfl (.tmp 16) rfl _ _ rfl hB3 ?_) | (refine wpList_slice1 rfl 31 1 0 (.tmp 132) rfl (bval y) rfl _ _ (run_block1 y _) ?_) | (refine wpList_append_own _ rfl (.tmp 131) (.tmp 133) 31 rfl (w.heap.size + 1) 40 i0 (bval fun _ => 0) 256 256 Tryd.underlying31 hi0 hz0 hz1 hz2 (by simp [Value.cells, Ks]) (by decide) (.slice la N lc) N _ rfl hown4 ⟨w3.heap.size, 0, none⟩ 1 1 (Ks .u8 256 y) rfl hlen hnews4 (Ks_oneL .u8 256 y) (by unfold maxLen; omega) (by omega) (by simp; omega) ?_))
                intro v' w5 ho5 hg5 _
                have hp0 : y = pk0 t N := by
                  have := pk0_rev (t := t) (r := r) (i := dN t.n + r) (by omega)
                  rw [if_neg (by omega)] at this
                  rw [HY.out, HN.out, ← this, HKK.out]
                have hl5 : RMine w5 (w.heap.size + 1) 40 256 v' (N + 1) (bkF (pk0 t)) := RMine.snoc ho5 (by show _ = Ks .u8 256 (pk0 t N); rw [← hp0])
                obtain ⟨la5, lc5, rfl⟩ := hl5.form
                have st5 := st4.out.s.app hg5 hl5 HCA.out HRA.out
                have hN' : N + 1 = dN t.n + (r + 1) := by have h1 := HN.out; omega
                have hR' : 60 * (r + 1) = R + 60 := by have := HR.out; omega
                rw [hN'] at st5
                rw [hN']
                have ST5 := Lib.hid st5
                have HR' := Lib.hid hR'
                clear ho5 hg5 hl5 st4 hown4 hnews4 hlen hB3 hp0 st5 hN' hR'
                go_wp2_with fail
                go_roundw
                case rel => first | exact ⟨r + 1, la5, lc5, rfl, by rw [HR'.out]; first | rfl | go_num, by omega, ST5.out⟩ | ((repeat apply Exists.intro); exact ⟨⟨r + 1, la5, lc5, rfl, by rw [HR'.out]; first | rfl | go_num, by omega, ST5.out⟩, rfl⟩)
                case measure => have := HR.out; simp [intOf]; omega
        · obtain rfl : r = rN t.m := by omega
          have hRn : ¬ ((60 * rN t.m : Nat) : Int) < (t.m : Int) := by unfold rN; omega
          obtain ⟨R, hR⟩ : ∃ R, R = 60 * rN t.m := ⟨_, rfl⟩
          rw [hCC] at st
          rw [hCC]
          rw [← hR] at hRn
          rw [← hR]
          have ST := Lib.hid st
          clear st hR hlt hr hCC
          obtain ⟨i3, hi3, hv0, hv1, hv2⟩ := info_parts info8
          have hC1 : 1 ≤ C := by
            obtain ⟨_, h0, _, _⟩ := t.may_iff.1 HMAY.out
            have := HC.out
            unfold Tr.c dN rN at this
            omega
          obtain ⟨lq, lcq, hlv, hlq1, hlq2, hlq3, hlq4⟩ := ST.out.l.form' hC1
          injection hlv with hl1 hl2 hl3
          subst hl1 hl3
          have st0 : Hid (RpU w t ca cc ra rc (some ⟨lq, 0, none⟩) C lc 0 none 0 wr) := ⟨ST.out, World.ownsRow_nil _ _ _ _⟩
          have hsw := ST.out.x.lt
          clear ST
          go_wp2_with fail
          go_loopw [18, 19] (fun u i wr => ∃ (k : Nat) (aa : Option Addr) (ac : Nat), u = .slice aa (k * 256) ac ∧ i = .int .i64 (k : Int) ∧ k ≤ C ∧ RpU w t ca cc ra rc (some ⟨lq, 0, none⟩) C lc k aa ac wr) (fun _ i _ => C - (intOf i).toNat)
          case atStart => exact ⟨0, none, 0, rfl, rfl, Nat.zero_le _, st0.out⟩
          case round =>
            clear st0 c2
            obtain ⟨k, aa, ac, rfl, rfl, hk, st⟩ := hrel
            have hsw2 := st.s.x.lt
            by_cases hlt : k < C
            · have hlt' : (k : Int) < (C : Int) := by omega
              have k0 : (0 : Int) ≤ (k : Int) := by omega
              have hsl := fun W => run_sliceBlkAll lq (k * 256) W
              have hown := st.a
              have hnews : ∀ (j : Nat) (u : Value), (Ks .u8 256 (pk0 t k))[j]? = some u → wr.cell? ((⟨lq, k * 256, none⟩ : Addr).add j) = some u := fun j u hj => by
                rw [addr_add]
                have := RMine.seg st.s.l (bkF_len _) k hlt j u hj
                rwa [Nat.zero_add] at this
              have hlen : (Ks .u8 256 (pk0 t k)).length = 256 * 1 := by simp [Ks]
              have ST := Lib.hid st
              clear st
              go_wp2_with (first | (refine wpList_append_own _ rfl (.tmp 141) (.tmp 145) 72 rfl (w.heap.size + 1) 5 i3 (.int .u8 0) 1 1 Tryd.underlying72 hi3 hv0 hv1 hv2 rfl (by decide) (.slice aa (k * 256) ac) (k * 256) _ rfl hown ⟨lq, k * 256, none⟩ 256 256 (Ks .u8 256 (pk0 t k)) rfl hlen hnews (Ks_oneL .u8 256 _) (by unfold maxLen; omega) (by omega) (by omega) ?_))
              intro v' w5 ho5 hg5 _
              have hrow5 : ∀ q, (Value.slice aa (k * 256) ac).ownBlock = some q → w.heap.size < q := fun q hq => by have := (World.ownsRow.lt hown q hq).1; omega
              rw [show k * 256 + 256 = (k + 1) * 256 by omega, show Cs (bkF (pk0 t)) k ++ Ks .u8 256 (pk0 t k) = Cs (bkF (pk0 t)) (k + 1) from rfl] at ho5
              obtain ⟨g5, c5, rfl⟩ := own_form' ho5 (by omega)
              have st5 : Hid (RpU w t ca cc ra rc (some ⟨lq, 0, none⟩) C lc (k + 1) (some ⟨g5, 0, none⟩) c5 w5) := ⟨ST.out.s.grown hg5 hrow5 (own_block_ne ST.out.s.l hown (by decide)) HCA.out HRA.out, ho5⟩
              clear ho5 hg5 hrow5 ST hown hnews hlen hsl
              go_wp2_with fail
              go_roundw
              case rel => first | exact ⟨k + 1, _, _, rfl, by first | rfl | go_num, by omega, st5.out⟩ | ((repeat apply Exists.intro); exact ⟨⟨k + 1, _, _, rfl, by first | rfl | go_num, by omega, st5.out⟩, rfl⟩)
              case measure => simp [intOf]; omega
            · obtain rfl : k = C := by omega
              have HRW := Lib.hid (row_of_flat st.a)
              have hown := st.a
              have hcb := crcB_bd (pk0 t) k
              have HCR : Hid (crcZ (flat (pk0 t)) (k * 256) = crcB (pk0 t) k) := crc_flat _ _
              have HFB := Lib.hid (flat_byt (pk0_byt t HOK.out))
              go_wp2_with fail
              apply Tb.wp_region_tab [⟨10, 20, 40, (Ks .u8 256 fun _ => 0).toArray, 11, (Ks .u8 256 (commitZ t.s k (crcB (pk0 t) k))).toArray⟩] (RpV w t ca cc ra rc (some ⟨lq, 0, none⟩) k lc k aa ac wr.heap.size) wr.heap.size (A := _) (by kernel_rfl) (by kernel_rfl) (by kernel_rfl) (by kernel_rfl) (by kernel_rfl) (by kernel_rfl) (fun W W' h hb => h.below hb) (fun W W' p h hp ho => h.only hp ho) (fun W h => h.sz) ⟨⟨⟨st.s.x, st.s.c, st.s.r, st.s.l, st.s.bel.drew⟩, st.a⟩, Nat.le_refl _, HCA.out, HRA.out, st.s.x.lt, fun q e => (World.ownsRow.lt st.s.l q e).2, fun q e => (World.ownsRow.lt st.a q e).2⟩
              case hwalk =>
                intro R hR hne
                simp only [Tb.plain, Tb.inAl, Tb.inSt, Tb.skOf, List.map_cons, List.map_nil, List.any_cons, List.any_nil, Nat.reduceAdd, Nat.reduceBEq, Bool.or_false, Bool.or_true, Bool.or_self, Bool.false_eq_true, if_false, if_true]
                have hc0 : ∀ y : InW (fun W => RpV w t ca cc ra rc (some ⟨lq, 0, none⟩) k lc k aa ac wr.heap.size W ∧ R W), y.W.cell? ⟨w.heap.size, 0, none⟩ = some (.int .u32 t.s) := fun y => y.h.1.u.s.x.cell (i := 0) rfl
                first | go_big_quiet_skip | (go_big_quiet_want; go_big_quiet_op; go_big_quiet_on)
                first | go_big_quiet_skip | (go_big_quiet_want; go_big_quiet_op; go_big_quiet_on)
                first | go_big_quiet_skip | (go_big_quiet_want; go_big_quiet_op; go_big_quiet_on)
                first | go_big_quiet_skip | (go_big_quiet_want; go_big_quiet_op; go_big_quiet_on)
                first | go_big_quiet_skip | (go_big_quiet_want; go_big_quiet_op; go_big_quiet_on)
                go_big_quiet_want
                go_big_quiet_op
                refine ⟨.int .u32 (crcB (pk0 t) k), fun s => q_call s (fun W hW => (rSum_any aa (k * 256) ac (flat (pk0 t)) W (by omega) (row_of_flat hW.1.u.a) HFB.out).mono fun e w' h => ⟨h.1.trans (by rw [HCR.out]), by obtain ⟨_, rfl⟩ := h; exact hW⟩), ?_⟩
                go_big_quiet_on
                go_big_quiet_want
                go_big_quiet_op
                refine ⟨_, fun s => q_call s (fun W hW => (rWriteCommit_any t.s k (crcB (pk0 t) k) W HOK.out.s (by omega) hcb).mono fun e w' h => ⟨h.1, hW.1.below h.2, hR W w' hW.2 h.2⟩), ?_⟩
                go_big_quiet_on
                first | go_big_quiet_skip | (go_big_quiet_want; go_big_quiet_op; go_big_quiet_on)
                first | go_big_quiet_skip | (go_big_quiet_want; go_big_quiet_op; go_big_quiet_on)
                first | go_big_quiet_skip | (go_big_quiet_want; go_big_quiet_op; go_big_quiet_on)
                first | go_big_quiet_skip | (go_big_quiet_want; go_big_quiet_op; go_big_quiet_on)
                exact wpQuiet_nil rfl
              case hal =>
                intro x hx o ho a' W
                rw [List.mem_singleton] at hx
                subst hx
                have ho' := Option.some.inj ho
                subst ho'
                exact Tb.alloc_tab rfl a' W
              case hst =>
                intro x hx o ho
                rw [List.mem_singleton] at hx
                subst hx
                have ho' := Option.some.inj ho
                subst ho'
                exact Tb.store_tab 155 (commitZ t.s k (crcB (pk0 t) k)) (fun _ => 0) rfl rfl (fun y hy => by rw [List.mem_singleton] at hy; subst hy; show (20 : Nat) ≠ 155; decide) rfl rfl rfl
              case hend =>
                intro pp w4 st4 hpp _
                simp only [List.foldl_cons, List.foldl_nil, Act.put, List.setIfInBounds_toArray, List.set_cons_succ, List.set_cons_zero]
                obtain ⟨hbp, hB4⟩ := hpp _ (List.mem_singleton.2 rfl)
                simp only at hbp hB4
                generalize pp 20 = p at *
                obtain ⟨y, hy⟩ : ∃ y, y = commitZ t.s k (crcB (pk0 t) k) := ⟨_, rfl⟩
                have HY := Lib.hid hy
                rw [← hy]
                rw [← hy] at hB4
                have hB5 : Blk w4 p 40 256 y := hB4
                clear hy hB4 st hown hpp
                have hown9 := RMine.alloc st4.u.s.l (.cells (Ks .u8 256 y).toArray 40)
                have hnews9 : ∀ (i : Nat) (u : Value), (Ks .u8 256 y)[i]? = some u → (w4.alloc (.cells (Ks .u8 256 y).toArray 40)).cell? ((⟨w4.heap.size, 0, none⟩ : Addr).add i) = some u := cells_news w4 (Ks .u8 256 y) _
                have hlen9 : (Ks .u8 256 y).length = 1 * 256 := by simp [Ks]
                have HL9 := Lib.hid (st4.u.s.bel.alloc st4.u.s.bel.size (.cells (Ks .u8 256 y).toArray 40))
                have hsz9 := st4.u.s.bel.size
                have hsx9 := st4.u.s.x.lt
                clear st4
                go_wp2_with (first | (refine wp_loadBlkG rfl (.tmp 20) rfl _ _ rfl hB5 ?_) | (refine wpList_slice1 rfl 31 1 0 (.tmp 158) rfl (bval y) rfl _ _ (run_block1 y _) ?_) | (refine wpList_append_own _ rfl (.tmp 157) (.tmp 159) 31 rfl (w.heap.size + 1) 40 i0 (bval fun _ => 0) 256 256 Tryd.underlying31 hi0 hz0 hz1 hz2 (by simp [Value.cells, Ks]) (by decide) (.slice (some ⟨lq, 0, none⟩) k lc) k _ rfl hown9 ⟨w4.heap.size, 0, none⟩ 1 1 (Ks .u8 256 y) rfl hlen9 hnews9 (Ks_oneL .u8 256 y) (by unfold maxLen; omega) (by omega) (by simp; omega) ?_))
                intro v' w5 ho5 hg5 _
                have hkc : k = t.c := HC.out
                rw [Cs_congr (f := bkF (pk0 t)) (g := bkF (pkB t)) (n := k) (fun i hi => by unfold bkF pkB; rw [if_pos (by omega)])] at ho5
                have hl5 : RMine w5 (w.heap.size + 1) 40 256 v' (k + 1) (bkF (pkB t)) := RMine.snoc ho5 (by show _ = Ks .u8 256 (pkB t k); unfold pkB; rw [if_neg (by omega), HY.out, ← hkc])
                obtain ⟨q, cap, rfl, -, -, -, -⟩ := hl5.form' (by omega)
                have HL5 := Lib.hid (HL9.out.grown hg5 HL9.out.size (fun q e => by have := (World.ownsRow.lt hown9 q e).1; omega))
                have HM5 : Hid (RMine w5 (w.heap.size + 1) 40 256 (.slice (some ⟨q, 0, none⟩) (t.c + 1) cap) (t.c + 1) (bkF (pkB t))) := by
                  rw [← hkc]; exact hl5
                have HKC := Lib.hid hkc
                clear ho5 hg5 hl5 hkc hown9 hnews9 hlen9 hB5
                go_wp2_with fail
                go_ret2
                exact ⟨.inr ⟨HE.out, q, cap, by rw [← HKC.out]; rfl, HM5.out⟩, HL5.out⟩
end Go.Proofs.YthkalmdpbhjafaaDoor

/- quernlaw15.blocks: some blocks. -/
namespace Go.Proofs.YthkalmdpbhjafaaDoor
open Go.RowKit
set_option linter.unusedVariables false

/-- changes: a block, a place, what is put over it -/
def chF (xb xt xo : Nat → Int) (i : Nat) : List Value := [.int .i64 (xb i), .int .i64 (xt i), .int .u8 (xo i)]
theorem RMine.take {W : World} {base : Nat} {e : TypeId} {m : Nat} {a : Option Addr} {n cap : Nat} {f : Nat → List Value} (h : RMine W base e m (.slice a n cap) n f) (hf : ∀ i, (f i).length = m) {k : Nat} (hk : k ≤ n) : RMine W base e m (.slice a k cap) k f := by
  refine ⟨Cs_length hf k, ?_⟩
  rcases h.2 with ⟨hv, h0⟩ | ⟨g, cap', cur, hv, hb, hg, hn, hc, hs, ht⟩
  · injection hv with h1 h2 h3
    have hk0 : k = 0 := by omega
    subst h1 h3 hk0
    exact .inl ⟨rfl, rfl⟩
  · injection hv with h1 h2 h3
    subst h1 h3
    refine .inr ⟨g, cap, cur, rfl, hb, hg, by omega, hc, hs, ?_⟩
    have h1 : k * m ≤ n * m := Nat.mul_le_mul_right m hk
    have h2 : cur.toList.take (k * m) = (Cs f n).take (k * m) := by rw [← ht, List.take_take, Nat.min_eq_left h1]
    rw [h2]
    have h3 : Cs f n = Cs f k ++ Cs (fun i => f (k + i)) (n - k) := by rw [Cs_cat]; congr 1; omega
    rw [h3, List.take_left' (Cs_length hf k)]
set_option maxRecDepth 100000 in
theorem run_takeB (a : Option Addr) (len cap k : Nat) (K : Int) (hK : K = (k : Int)) (hk : k ≤ cap) (w : World) :
    (Instr.slice 31 (.slice a len cap) none (some (.int .i64 K)) none).run Tryd.prog w = .ok (.slice a k cap) w := by
  subst hK
  have hsz : (Go.sizeOf 40).run Tryd.prog w = .ok 256 w := by kernel_rfl
  rw [run_slice_h w 31 a len cap (by kernel_rfl) .i64 (k : Int) (by omega) (by omega), show Tryd.prog.elem 31 = 40 from by kernel_rfl, hsz]
  simp only [Result.andThen, sliced, Int.toNat_natCast, Nat.zero_mul, Nat.sub_zero]
  congr 2
  split
  · rfl
  · cases a with
    | none => rfl
    | some x => rw [Option.map_some]; unfold Addr.add; rw [if_pos rfl]
/-- one byte over another one -/
theorem xor_byte {a b : Int} (ha : 0 ≤ a ∧ a < 256) (hb : 0 ≤ b ∧ b < 256) : ∃ c : Int, bits .xor .u8 a b = c ∧ 0 ≤ c ∧ c < 256 := by
  have := xor_lt (a := a.toNat) (b := b.toNat) 8 (by omega) (by omega)
  exact ⟨_, u8_xor a b ha.1 ha.2 hb.1 hb.2, by omega, by omega⟩
/-- a byte of a row of blocks is turned -/
def turnB (L : Nat → Nat → Int) (k i : Nat) (v : Int) (j : Nat) : Nat → Int := if j = k then (fun x => if x = i then v else L j x) else L j
theorem turnB_byt {L : Nat → Nat → Int} (h : ∀ j, Byt (L j)) {k i : Nat} {v : Int} (hv : 0 ≤ v ∧ v < 256) (j : Nat) : Byt (turnB L k i v j) := by
  unfold turnB
  split
  · intro x
    by_cases hx : x = i
    · show 0 ≤ (if x = i then v else L j x) ∧ (if x = i then v else L j x) < 256
      rw [if_pos hx]; exact hv
    · show 0 ≤ (if x = i then v else L j x) ∧ (if x = i then v else L j x) < 256
      rw [if_neg hx]; exact h _ _
  · exact h j
theorem Cs_turn (L : Nat → Nat → Int) (k i : Nat) (v : Int) (hi : i < 256) : ∀ n, k < n → (Cs (bkF L) n).set (k * 256 + i) (.int .u8 v) = Cs (bkF (turnB L k i v)) n := by
  intro n hk
  apply List.ext_getElem?
  intro j
  have e1 : (Cs (bkF L) n).length = n * 256 := Cs_length (bkF_len _) _
  have e2 : (Cs (bkF (turnB L k i v)) n).length = n * 256 := Cs_length (bkF_len _) _
  by_cases hj : j < n * 256
  · have hq : j / 256 < n := by omega
    have hr : j % 256 < 256 := Nat.mod_lt _ (by omega)
    have hjj : j = j / 256 * 256 + j % 256 := by omega
    have g1 : (Cs (bkF (turnB L k i v)) n)[j]? = some (.int .u8 (turnB L k i v (j / 256) (j % 256))) := by
      rw [hjj, Cs_get (bkF_len _) hq hr]
      rw [show j / 256 * 256 + j % 256 = j from hjj.symm]
      exact Ks_get .u8 256 _ _ hr
    have g2 : (Cs (bkF L) n)[j]? = some (.int .u8 (L (j / 256) (j % 256))) := by
      rw [hjj, Cs_get (bkF_len _) hq hr]
      rw [show j / 256 * 256 + j % 256 = j from hjj.symm]
      exact Ks_get .u8 256 _ _ hr
    rw [g1, List.getElem?_set]
    unfold turnB
    by_cases he : k * 256 + i = j
    · rw [if_pos he, if_pos (by rw [e1]; omega), if_pos (by omega), if_pos (by omega)]
    · rw [if_neg he, g2]
      by_cases hk2 : j / 256 = k
      · rw [if_pos hk2, if_neg (by omega)]
      · rw [if_neg hk2]
  · rw [List.getElem?_eq_none (by rw [List.length_set, e1]; omega), List.getElem?_eq_none (by rw [e2]; omega)]
theorem RMine.turn {W : World} {base g n cap : Nat} {L : Nat → Nat → Int} (h : RMine W base 40 256 (.slice (some ⟨g, 0, none⟩) n cap) n (bkF L)) {k i : Nat} (hk : k < n) (hi : i < 256) (v : Int) :
    RMine (W.setCell ⟨g, k * 256 + i, none⟩ (.int .u8 v)) base 40 256 (.slice (some ⟨g, 0, none⟩) n cap) n (bkF (turnB L k i v)) := by
  have := (World.ownsRow.stored h (k * 256 + i) (.int .u8 v)).1
  rw [Cs_turn L k i v hi n hk] at this
  exact this
/-- while blocks are made -/
structure BkS (w : World) (xa : Option Addr) (nx : Nat) (xb xt xo : Nat → Int) (lb : Option Addr) (n3 : Nat) (rb rf : Nat → Int) (rm : Nat → Bool) (la : Option Addr) (N lc : Nat) (L : Nat → Nat → Int) (W : World) : Prop where
  l : RMine W (w.heap.size + 1) 40 256 (.slice la N lc) N (bkF L)
  x : RRow W xa 3 nx (chF xb xt xo)
  b : RRow W lb 3 n3 (rwF rb rf rm)
  bel : Below w.heap.size w W
  byt : ∀ j, Byt (L j)
theorem BkS.below {w : World} {xa : Option Addr} {nx : Nat} {xb xt xo : Nat → Int} {lb : Option Addr} {n3 : Nat} {rb rf : Nat → Int} {rm : Nat → Bool} {la : Option Addr} {N lc : Nat} {L : Nat → Nat → Int} {W W' : World} (h : BkS w xa nx xb xt xo lb n3 rb rf rm la N lc L W) (hb : Below W.heap.size W W') : BkS w xa nx xb xt xo lb n3 rb rf rm la N lc L W' :=
  ⟨RMine.below h.l hb, h.x.below (by intro e; cases e) hb, h.b.below (by intro e; cases e) hb, h.bel.trans (hb.mono h.bel.size), h.byt⟩
theorem RRow.ch {W : World} {b off n : Nat} {xb xt xo : Nat → Int} {k : Nat} (h : RRow W (some ⟨b, off, none⟩) 3 n (chF xb xt xo)) (hk : k < n) : W.cell? ⟨b, off + k * 3, none⟩ = some (.int .i64 (xb k)) ∧ W.cell? ⟨b, off + k * 3 + 1, none⟩ = some (.int .i64 (xt k)) ∧ W.cell? ⟨b, off + k * 3 + 2, none⟩ = some (.int .u8 (xo k)) := by
  rcases h with h | ⟨b', off', e, h⟩
  · omega
  · injection e with e; injection e with e1 e2; subst e1 e2; exact ⟨h k hk 0 _ rfl, h k hk 1 _ rfl, h k hk 2 _ rfl⟩

set_option maxRecDepth 100000 in
set_option maxHeartbeats 8000000 in
theorem blocks_any (t : Tr) (ht : t.Ok) (ca : Option Addr) (cc : Nat) (ra : Option Addr) (rc : Nat) (xa : Option Addr) (nx xc : Nat) (xb xt xo : Nat → Int) (hxb : ∀ i, -9223372036854775808 ≤ xb i ∧ xb i ≤ 9223372036854775807) (hxt : ∀ i, -9223372036854775808 ≤ xt i ∧ xt i ≤ 9223372036854775807) (hxo : ∀ i, 0 ≤ xo i ∧ xo i < 256) (hnx : nx ≤ 100)
    (less : Int) (hle : -9223372036854775808 ≤ less ∧ less ≤ 9223372036854775807) (lb : Option Addr) (n3 bcap : Nat) (rb rf : Nat → Int) (rm : Nat → Bool) (hf : ∀ i, 0 ≤ rf i ∧ rf i < 256) (hn3 : (n3 : Int) ≤ 9223372036854775807) (w : World)
    (hc : RRow w ca 257 t.n (cpF t.cb t.cd)) (hr : RRow w ra 1 t.m (inF t.rv)) (hca : ∀ b off, ca = some ⟨b, off, none⟩ → b < w.heap.size) (hra : ∀ b off, ra = some ⟨b, off, none⟩ → b < w.heap.size)
    (hx : RRow w xa 3 nx (chF xb xt xo)) (hxa : ∀ b off, xa = some ⟨b, off, none⟩ → 0 < nx → b < w.heap.size) (hb : RRow w lb 3 n3 (rwF rb rf rm)) (hlb : ∀ b off, lb = some ⟨b, off, none⟩ → 0 < n3 → b < w.heap.size) :
    Calls Tryd.prog 18 #[tval t.s ca t.n cc ra t.m rc, .slice xa nx xc, .int .i64 less, .slice lb n3 bcap] w fun e w' => ∃ (la : Option Addr) (N lc : Nat) (L : Nat → Nat → Int), e = .returned (.slice la N lc) ∧ N ≤ 305 ∧ (∀ j, Byt (L j)) ∧ RMine w' (w.heap.size + 1) 40 256 (.slice la N lc) N (bkF L) ∧ Below w.heap.size w w' := by
  have hP := At.new w 28 (tcells t.s ca t.n cc ra t.m rc)
  have HC := Lib.hid (hc.alloc (.cells (tcells t.s ca t.n cc ra t.m rc) 28))
  have HR := Lib.hid (hr.alloc (.cells (tcells t.s ca t.n cc ra t.m rc) 28))
  have HX := Lib.hid (hx.alloc (.cells (tcells t.s ca t.n cc ra t.m rc) 28))
  have HB := Lib.hid (hb.alloc (.cells (tcells t.s ca t.n cc ra t.m rc) 28))
  have HL : Hid (Below w.heap.size w (w.alloc (.cells (tcells t.s ca t.n cc ra t.m rc) 28))) := (Below.refl _ _).alloc (Nat.le_refl _) _
  have HOK := Lib.hid ht
  have HXA : Hid (∀ b off, xa = some ⟨b, off, none⟩ → 0 < nx → b < w.heap.size) := hxa
  have HLB : Hid (∀ b off, lb = some ⟨b, off, none⟩ → 0 < n3 → b < w.heap.size) := hlb
  have HCA : Hid (∀ b off, ca = some ⟨b, off, none⟩ → b < (w.alloc (.cells (tcells t.s ca t.n cc ra t.m rc) 28)).heap.size) := fun b off e => by have := hca b off e; simp; omega
  have HRA : Hid (∀ b off, ra = some ⟨b, off, none⟩ → b < (w.alloc (.cells (tcells t.s ca t.n cc ra t.m rc) 28)).heap.size) := fun b off e => by have := hra b off e; simp; omega
  have HF := Lib.hid hf
  have HXB := Lib.hid hxb
  have HXT := Lib.hid hxt
  have HXO := Lib.hid hxo
  obtain ⟨hle0, hle1⟩ := hle
  clear hc hr hx hb hca hra hxa hlb ht hf hxb hxt hxo
  go_enter Tryd.func18, Tryd.ntmps18
  go_wp2_with (first | (refine wp_loadAtG rfl 28 (.tmp 4) rfl _ _ _ rfl hP Tryd.underlying28 rfl (info_trans _ _ _ _ _ _ _) ?_))
  refine (rPack_any t HOK.out ca cc ra rc _ HC.out HR.out HCA.out HRA.out).mono ?_
  rintro e w1 ⟨hp, hb1⟩
  have key : ∃ (la : Option Addr) (N lc : Nat) (L : Nat → Nat → Int) (E : Int), e = .returned (.tuple #[.slice la N lc, .int .i64 E]) ∧ N ≤ 255 ∧ BkS w xa nx xb xt xo lb n3 rb rf rm la N lc L w1 := by
    rcases hp with ⟨_, rfl⟩ | ⟨hE, q, cap, rfl, hl⟩
    · exact ⟨none, 0, 0, fun _ _ => 0, _, rfl, by omega, RMine.nil _ _ _ _ _, HX.out.below (by intro e; cases e) hb1, HB.out.below (by intro e; cases e) hb1, HL.out.trans (hb1.mono HL.out.size), fun j => zero_bytJ⟩
    · obtain ⟨h1, h2⟩ := packE_zero hE
      have := size_c h1
      exact ⟨_, _, _, pkB t, _, rfl, by omega, RMine.low hl (by simp), HX.out.below (by intro e; cases e) hb1, HB.out.below (by intro e; cases e) hb1, HL.out.trans (hb1.mono HL.out.size), fun j => pkB_byt t HOK.out j⟩
  obtain ⟨la0, N0, lc0, L0, E, rfl, hN0, st⟩ := key
  have ST := Lib.hid st
  have hlc0 : N0 ≤ lc0 := rcap st.l
  clear hp hb1 hP HC HR HX HB HL HCA HRA st
  -- the last ones are left out
  have key : ∃ k, k ≤ N0 ∧ ((0 < less ∧ less ≤ (N0 : Int) ∧ (N0 : Int) - less = (k : Int)) ∨ ((less ≤ 0 ∨ (N0 : Int) < less) ∧ k = N0)) := by
    by_cases h : 0 < less ∧ less ≤ (N0 : Int)
    · exact ⟨((N0 : Int) - less).toNat, by omega, .inl ⟨h.1, h.2, by omega⟩⟩
    · exact ⟨N0, Nat.le_refl _, .inr ⟨by omega, rfl⟩⟩
  obtain ⟨k0, hk0, hkey⟩ := key
  have hsl := fun W => run_takeB la0 N0 lc0 k0 (k0 : Int) rfl (by omega) W
  have hcase : (less ≤ 0 ∧ k0 = N0) ∨ (0 < less ∧ (N0 : Int) < less ∧ k0 = N0) ∨ (0 < less ∧ less ≤ (N0 : Int) ∧ (N0 : Int) - less = (k0 : Int)) := by omega
  clear hkey
  have st0 : Hid (BkS w xa nx xb xt xo lb n3 rb rf rm la0 k0 lc0 L0 w1) := ⟨RMine.take ST.out.l (bkF_len _) hk0, ST.out.x, ST.out.b, ST.out.bel, ST.out.byt⟩
  have hk255 : k0 ≤ 255 := by omega
  clear ST
  obtain ⟨i0, hi0, hz⟩ := Option.map_eq_some_iff.1 info_blk3
  simp only [Prod.mk.injEq] at hz
  obtain ⟨hz0, hz1, hz2⟩ := hz
  rcases hcase with ⟨hc1, rfl⟩ | ⟨hc1, hc2, rfl⟩ | ⟨hc1, hc2, hc3⟩
  rotate_right
  have hw : IntKind.i64.wrap ((N0 : Int) - less) = (k0 : Int) := by rw [hc3]; exact IntWalk.i64_in _ (by omega)
  clear hc3
  all_goals
    go_wp2_with fail
    clear hsl
    go_loopw [9, 11] (fun u i wr => ∃ (k : Nat) (la : Option Addr) (lc : Nat) (L : Nat → Nat → Int), u = .slice la (k0 + k) lc ∧ i = .int .i64 (k : Int) ∧ k ≤ n3 ∧ k ≤ 50 ∧ BkS w xa nx xb xt xo lb n3 rb rf rm la (k0 + k) lc L wr) (fun _ i _ => 50 - (intOf i).toNat)
    case atStart => exact ⟨0, la0, lc0, L0, rfl, rfl, Nat.zero_le _, Nat.zero_le _, st0.out⟩
    case round =>
      clear st0
      obtain ⟨k, la, lc, L, rfl, rfl, hk3, hk50, st⟩ := hrel
      obtain ⟨N, hN⟩ : ∃ N, N = k0 + k := ⟨_, rfl⟩
      have HN := Lib.hid hN
      have hN305 : N ≤ 305 := by omega
      rw [← hN] at st
      rw [← hN]
      clear hN
      by_cases hlt : k < n3 ∧ k < 50
      · obtain ⟨hlt3, hlt50⟩ := hlt
        have g1 : (k : Int) < (n3 : Int) := by omega
        have g2 : (k : Int) < 50 := by omega
        have k0' : (0 : Int) ≤ (k : Int) := by omega
        obtain ⟨b, off, rfl⟩ := st.b.some_of (by omega)
        have HSG : Hid (∀ W, RRow W (some ⟨b, off, none⟩) 3 n3 (rwF rb rf rm) → W.rangeAt b (off + k * 3) (rwF rb rf rm k)) := fun W h => by
          rcases h with h | ⟨b', off', e, h⟩
          · omega
          · injection e with e; injection e with e1 e2; subst e1 e2; exact h.range k hlt3
        have rg := HSG.out wr st.b
        go_wp2_with (first | (refine wp_loadMid rfl 51 (.tmp 46) rfl b (off + k * 3) (rwF rb rf rm k) _ rfl rg Tryd.underlying51 rfl (by kernel_rfl) ?_))
        refine (block15_any (rb k) (rf k) (HF.out k) (rm k) wr).mono ?_
        rintro e w6 ⟨rfl, hb6⟩
        have hzb := rowZ_byt (HF.out k) (rm k)
        obtain ⟨z, hz⟩ : ∃ z, z = rowZ (rf k) (rm k) := ⟨_, rfl⟩
        rw [← hz] at hzb
        rw [← hz]
        have st7 := Lib.hid ((st.below hb6).below ((Below.refl w6.heap.size w6).alloc (Nat.le_refl _) (.cells (Ks .u8 256 z).toArray 40)))
        have hown := st7.out.l
        have hnews : ∀ (i : Nat) (u : Value), (Ks .u8 256 z)[i]? = some u → (w6.alloc (.cells (Ks .u8 256 z).toArray 40)).cell? ((⟨w6.heap.size, 0, none⟩ : Addr).add i) = some u := cells_news w6 (Ks .u8 256 z) _
        have hlen : (Ks .u8 256 z).length = 1 * 256 := by simp [Ks]
        have HZB := Lib.hid hzb
        have hszw : w.heap.size ≤ w6.heap.size := by have := st.bel.size; have := hb6.size; omega
        have hszx : w.heap.size + 1 ≤ (w6.alloc (.cells (Ks .u8 256 z).toArray 40)).heap.size := by simp; omega
        clear st rg hb6 hz hzb
        go_wp2_with (first | (refine wpList_slice1 rfl 31 1 0 (.tmp 48) rfl (bval z) rfl _ _ (run_block1 z _) ?_) | (refine wpList_append_own _ rfl (.tmp 43) (.tmp 49) 31 rfl (w.heap.size + 1) 40 i0 (bval fun _ => 0) 256 256 Tryd.underlying31 hi0 hz0 hz1 hz2 (by simp [Value.cells, Ks]) (by decide) (.slice la N lc) N _ rfl hown ⟨w6.heap.size, 0, none⟩ 1 1 (Ks .u8 256 z) rfl hlen hnews (Ks_oneL .u8 256 z) (by unfold maxLen; omega) (by omega) hszx ?_))
        intro v' w8 ho8 hg8 _
        have hl8 : RMine w8 (w.heap.size + 1) 40 256 v' (N + 1) (bkF fun j => if j < N then L j else z) := by
          refine RMine.append (news := Ks .u8 256 z) (f := bkF fun j => if j < N then L j else z) ?_ ?_
          · rw [Cs_congr (f := bkF fun j => if j < N then L j else z) (g := bkF L) (n := N) (fun i hi => by show Ks .u8 256 (if i < N then L i else z) = _; rw [if_pos hi]; rfl)]; exact ho8
          · rw [Cs_succ]; show _ = [] ++ Ks .u8 256 (if N + 0 < N then L (N + 0) else z); rw [if_neg (by omega)]; rfl
        obtain ⟨la8, lc8, rfl⟩ := hl8.form
        have hrow : ∀ q, (Value.slice la N lc).ownBlock = some q → w.heap.size < q := fun q hq => by have := (World.ownsRow.lt hown q hq).1; omega
        have st8 : Hid (BkS w xa nx xb xt xo (some ⟨b, off, none⟩) n3 rb rf rm la8 (N + 1) lc8 (fun j => if j < N then L j else z) w8) :=
          ⟨hl8, RRowG st7.out.x hg8 (fun b' off' e h0 => ⟨by have := HXA.out b' off' e h0; have := st7.out.bel.size; omega, fun e2 => by have := hrow _ e2; have := HXA.out b' off' e h0; omega⟩), RRowG st7.out.b hg8 (fun b' off' e h0 => ⟨by have := HLB.out b' off' e h0; have := st7.out.bel.size; omega, fun e2 => by have := hrow _ e2; have := HLB.out b' off' e h0; omega⟩), st7.out.bel.grown hg8 st7.out.bel.size (fun q e => by have := hrow q e; omega), fun j => by
            by_cases h : j < N
            · rw [if_pos h]; exact st7.out.byt j
            · rw [if_neg h]; exact HZB.out⟩
        have hN' : N + 1 = k0 + (k + 1) := by have := HN.out; omega
        rw [hN'] at st8
        rw [hN']
        clear ho8 hg8 hl8 hrow st7 hown hnews hlen hN' hszx
        go_wp2_with fail
        go_roundw
        case rel => first | exact ⟨k + 1, la8, lc8, _, rfl, by first | rfl | go_num, by omega, by omega, st8.out⟩ | ((repeat apply Exists.intro); exact ⟨⟨k + 1, la8, lc8, _, rfl, by first | rfl | go_num, by omega, by omega, st8.out⟩, rfl⟩)
        case measure => simp [intOf]; omega
      · have hcase : (¬ (k : Int) < (n3 : Int)) ∨ ((k : Int) < (n3 : Int) ∧ ¬ (k : Int) < 50) := by omega
        have ST := Lib.hid st
        clear st
        rcases hcase with g1 | ⟨g1, g2⟩
        all_goals
          go_wp2_with fail
          go_loopw [12, 13] (fun i _ wr => ∃ (j : Nat) (L : Nat → Nat → Int), i = .int .i64 (j : Int) ∧ j ≤ nx ∧ BkS w xa nx xb xt xo lb n3 rb rf rm la N lc L wr) (fun i _ _ => nx - (intOf i).toNat)
          case atStart => exact ⟨0, L, rfl, Nat.zero_le _, ST.out⟩
          case round =>
            clear ST
            obtain ⟨j, L, rfl, hj, st⟩ := hrel
            have hlcN : N ≤ lc := rcap st.l
            by_cases hltj : j < nx
            · have hj' : (j : Int) < (nx : Int) := by omega
              have j0 : (0 : Int) ≤ (j : Int) := by omega
              obtain ⟨b, off, rfl⟩ := st.x.some_of (by omega)
              obtain ⟨cx0, cx1, cx2⟩ := st.x.ch hltj
              by_cases c0 : xb j < 0
              · have ST := Lib.hid st
                clear st cx1 cx2
                go_wp2_with fail
                go_roundw
                case rel => first | exact ⟨j + 1, L, by first | rfl | go_num, by omega, ST.out⟩ | ((repeat apply Exists.intro); exact ⟨⟨j + 1, L, by first | rfl | go_num, by omega, ST.out⟩, rfl⟩)
                case measure => simp [intOf]; omega
              by_cases c1 : (N : Int) ≤ xb j
              · have ST := Lib.hid st
                have c2 : (0 : Int) ≤ xb j := by omega
                clear st cx1 cx2
                go_wp2_with fail
                go_roundw
                case rel => first | exact ⟨j + 1, L, by first | rfl | go_num, by omega, ST.out⟩ | ((repeat apply Exists.intro); exact ⟨⟨j + 1, L, by first | rfl | go_num, by omega, ST.out⟩, rfl⟩)
                case measure => simp [intOf]; omega
              obtain ⟨kb, hkb⟩ : ∃ kb : Nat, xb j = (kb : Int) := ⟨(xb j).toNat, by omega⟩
              have hkbN : kb < N := by omega
              have hkb' : (kb : Int) < (N : Int) := by omega
              have kb0 : (0 : Int) ≤ (kb : Int) := by omega
              rw [hkb] at cx0
              obtain ⟨A, hA⟩ : ∃ A, (xt j).tmod 256 = A := ⟨_, rfl⟩
              have hA1 : -256 < A ∧ A < 256 := by rw [← hA]; exact ⟨by have := Int.lt_tmod_of_pos (xt j) (b := 256) (by omega); omega, Int.tmod_lt_of_pos _ (by omega)⟩
              obtain ⟨hA0, hA2⟩ := hA1
              obtain ⟨B, hB⟩ : ∃ B : Nat, (A + 256) % 256 = (B : Int) := ⟨((A + 256) % 256).toNat, by omega⟩
              have hB256 : B < 256 := by omega
              have hB' : (B : Int) < 256 := by omega
              have B0 : (0 : Int) ≤ (B : Int) := by omega
              obtain ⟨g, cp, hv, hg1, hg2, hg3, hg4⟩ := st.l.form' (by omega)
              injection hv with hv1 hv2 hv3
              subst hv1 hv3
              obtain ⟨c, hxc, hc0, hc1⟩ := xor_byte (st.byt kb B) (HXO.out j)
              have ST := Lib.hid st
              have HXX : Hid (xb j = (kb : Int)) := hkb
              clear st hkb c0 c1
              go_wp2_with fail
              refine wp_region_bar2 (BkS w (some ⟨b, off, none⟩) nx xb xt xo lb n3 rb rf rm (some ⟨g, 0, none⟩) N lc L) 25 (by kernel_rfl) (by kernel_rfl) (by kernel_rfl) (by kernel_rfl) (by kernel_rfl) (by decide) ⟨ST.out.l, ST.out.x, ST.out.b, ST.out.bel.drew, ST.out.byt⟩ ?_
              simp only [List.take_succ_cons, List.take_zero, List.drop_succ_cons, List.drop_zero]
              clear ST cx0 cx1 cx2
              intro hne
              have d0 : ∀ y : InW (BkS w (some ⟨b, off, none⟩) nx xb xt xo lb n3 rb rf rm (some ⟨g, 0, none⟩) N lc L), y.W.cell? ⟨b, off + j * 3, none⟩ = some (.int .i64 (kb : Int)) := fun y => by rw [← HXX.out]; exact (y.h.x.ch hltj).1
              have d2 : ∀ y : InW (BkS w (some ⟨b, off, none⟩) nx xb xt xo lb n3 rb rf rm (some ⟨g, 0, none⟩) N lc L), y.W.cell? ⟨b, off + j * 3 + 2, none⟩ = some (.int .u8 (xo j)) := fun y => (y.h.x.ch hltj).2.2
              have d3 : ∀ y : InW (BkS w (some ⟨b, off, none⟩) nx xb xt xo lb n3 rb rf rm (some ⟨g, 0, none⟩) N lc L), y.W.cell? ⟨g, kb * 256 + B, none⟩ = some (.int .u8 (L kb B)) := fun y => by
                have := RMine.seg y.h.l (bkF_len _) kb hkbN B _ (Ks_get .u8 256 (L kb) B hB256)
                rwa [Nat.zero_add] at this
              repeat (first | go_big_quiet_skip | (go_big_quiet_want; go_big_quiet_op; go_big_quiet_on))
              refine wpQuiet_nil ?_
              intro w5 h5
              have st5 := h5.out
              have c9 : w5.cell? ⟨g, kb * 256 + B, none⟩ = some (.int .u8 (L kb B)) := d3 ⟨w5, st5⟩
              have f9 : w5.frozen? ⟨g, kb * 256 + B, none⟩ = false := World.ownsRow.frozenAt st5.l (kb * 256 + B)
              have ho := Only.setCell w5 ⟨g, kb * 256 + B, none⟩ (.int .u8 c)
              have hgw := (World.ownsRow.lt st5.l g rfl).1
              have st6 : Hid (BkS w (some ⟨b, off, none⟩) nx xb xt xo lb n3 rb rf rm (some ⟨g, 0, none⟩) N lc (turnB L kb B c) (w5.setCell ⟨g, kb * 256 + B, none⟩ (.int .u8 c))) :=
                ⟨RMine.turn st5.l hkbN hB256 c, RRowO st5.x ho (fun b' off' e h0 => by have := HXA.out b' off' e h0; show b' ≠ g; omega), RRowO st5.b ho (fun b' off' e h0 => by have := HLB.out b' off' e h0; show b' ≠ g; omega), st5.bel.trans (ho.below (by show _ ≤ g; omega)), turnB_byt st5.byt ⟨hc0, hc1⟩⟩
              clear st5 h5 hne d0 d2 d3 ho
              go_wp2_with fail
              go_roundw
              case rel => first | exact ⟨j + 1, _, by first | rfl | go_num, by omega, st6.out⟩ | ((repeat apply Exists.intro); exact ⟨⟨j + 1, _, by first | rfl | go_num, by omega, st6.out⟩, rfl⟩)
              case measure => simp [intOf]; omega
            · obtain rfl : j = nx := by omega
              have ST := Lib.hid st
              clear st
              go_wp2_with fail
              go_ret
              exact ⟨la, N, lc, L, rfl, hN305, ST.out.byt, ST.out.l, ST.out.bel⟩
end Go.Proofs.YthkalmdpbhjafaaDoor

/- What is unpacked, plainly. -/
namespace Go.Proofs.YthkalmdpbhjafaaDoor
open Go.RowKit
set_option linter.unusedVariables false

theorem prs_cd0 {L : Nat → Nat → Int} {N : Nat} {s : Int} : ∀ (f n : Nat) (t t' : Tr) (u : Nat), (∀ i, t.n ≤ i → t.cd i = fun _ => 0) → prs L N s f n t = some (t', u) → ∀ i, t'.n ≤ i → t'.cd i = fun _ => 0
  | 0, n, t, t', u, h, he => by cases he
  | f + 1, n, t, t', u, h, he => by
    rw [prs] at he
    by_cases h1 : n < N
    · rw [if_pos h1] at he
      by_cases h2 : seqOf (L n) = s
      · rw [if_pos h2] at he
        by_cases h3 : kindOf (L n) = 1
        · rw [if_pos h3] at he
          by_cases h4 : descRd (L n) = true ∧ rowsN (L n) ≤ N - (n + 1)
          · rw [if_pos h4] at he
            refine prs_cd0 f _ _ t' u (fun i hi => ?_) he
            have hi : t.n + rowsN (L n) ≤ i := hi
            show (if i < t.n then _ else if i < t.n + rowsN (L n) then _ else _) = _
            rw [if_neg (by omega), if_neg (by omega)]
          · rw [if_neg h4] at he; cases he
        · rw [if_neg h3] at he
          by_cases h4 : kindOf (L n) = 3
          · rw [if_pos h4] at he
            by_cases h5 : revRd (L n) = true
            · rw [if_pos h5] at he
              exact prs_cd0 f _ (addR t (rowsN (L n)) (revM (L n))) t' u h he
            · rw [if_neg h5] at he; cases he
          · rw [if_neg h4] at he
            by_cases h5 : kindOf (L n) = 2
            · rw [if_pos h5] at he
              injection he with he
              injection he with e1 e2
              subst e1 e2
              exact h
            · rw [if_neg h5] at he; cases he
      · rw [if_neg h2] at he; cases he
    · rw [if_neg h1] at he; cases he
/-- what is unpacked is packed as the blocks that were read -/
structure Unp (L : Nat → Nat → Int) (N : Nat) (s : Int) (t : Tr) (u : Nat) : Prop where
  ok : t.Ok
  sq : t.s = s
  e : packE t = 0
  ue : u = t.c + 1
  le : u ≤ N
  ll : ∀ i, i < u → ∀ j, j < 256 → L i j = pkB t i j
  z : ∀ i, t.n ≤ i → t.cd i = fun _ => 0
  n : t.n ≤ 255
  m : t.m ≤ 15300
  c : 1 ≤ t.c
theorem unp_some {L : Nat → Nat → Int} (hL : ∀ i, Byt (L i)) {N : Nat} {s : Int} (hs : 0 ≤ s ∧ s < 4294967296) {t : Tr} {u : Nat} (h : unp L N s = some (t, u)) : Unp L N s t u := by
  unfold unp at h
  cases hp : prs L (min N 255) s (min N 255) 0 (tr0 s) with
  | none => rw [hp] at h; cases h
  | some x =>
    obtain ⟨t', u'⟩ := x
    rw [hp] at h
    by_cases hc : packE t' = 0 ∧ sameB (pkB t') L (t'.c + 1) u' = true
    · simp only [if_pos hc] at h
      injection h with h
      injection h with e1 e2
      subst e1 e2
      obtain ⟨h1, h2, h3⟩ := prs_pok hL _ _ _ _ _ (POk.zero s) (Nat.zero_le _) hp
      have hz := prs_cd0 _ _ _ _ _ (fun i _ => rfl) hp
      obtain ⟨hE, hS⟩ := hc
      unfold sameB at hS
      rw [Bool.and_eq_true, beq_iff_eq] at hS
      obtain ⟨hu, hS⟩ := hS
      have hB := (eqBs_iff _ _ _).1 hS
      have hn := h1.n
      have hm := h1.m
      obtain ⟨hmay, _⟩ := packE_zero hE
      obtain ⟨_, h0, _, _⟩ := t'.may_iff.1 hmay
      exact ⟨h1.ok hs (by omega), h1.s, hE, hu.symm, by omega, fun i hi j hj => (hB i (by omega) j hj).symm, hz, by omega, by omega, by unfold Tr.c dN rN; omega⟩
    · simp only [if_neg hc] at h
      cases h
theorem Unp.same {L : Nat → Nat → Int} {N : Nat} {s : Int} {t : Tr} {u : Nat} (h : Unp L N s t u) : sameB (pkB t) L (t.c + 1) u = true := by
  unfold sameB
  rw [h.ue, beq_self_eq_true, Bool.true_and]
  exact (eqBs_iff _ _ _).2 fun i hi j hj => (h.ll i (by rw [h.ue]; exact hi) j hj).symm
theorem Unp.again {L : Nat → Nat → Int} {N : Nat} {s : Int} {t : Tr} {u : Nat} (h : Unp L N s t u) : unp (pkB t) u s = some (t, u) := by
  have := unp_pack (L := pkB t) (N := t.c + 1) h.ok h.z h.e (Nat.le_refl _) (fun i hi => rfl)
  rwa [h.sq, ← h.ue] at this
theorem Unp.row {L : Nat → Nat → Int} {N : Nat} {s : Int} {t : Tr} {u : Nat} (h : Unp L N s t u) {W : World} {a : Option Addr} (hr : RRow W a 256 u (bkF L)) : RRow W a 256 u (bkF (pkB t)) := by
  rcases hr with hr | ⟨b, off, e, hr⟩
  · exact .inl hr
  · refine .inr ⟨b, off, e, fun i hi j v hv => hr i hi j v ?_⟩
    rw [← hv]
    unfold bkF
    have hj : j < 256 := by have := (List.getElem?_eq_some_iff.1 hv).1; simpa [bkF, Ks] using this
    rw [Ks_get _ _ _ _ hj, Ks_get _ _ _ _ hj, h.ll i hi j hj]
end Go.Proofs.YthkalmdpbhjafaaDoor

