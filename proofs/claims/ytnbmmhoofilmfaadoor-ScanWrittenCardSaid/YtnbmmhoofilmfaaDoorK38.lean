/- Texts of this claim, merged by a program (a claim may have 60 files): Tab, TabB. -/
import Derived.Test.YtnbmmhoofilmfaaDoorK32
import Derived.Test.YtnbmmhoofilmfaaDoorK05
/- A drawn region of plain operations, new blocks and stores into these, in whatever order they may come: by one walk of its plain operations in their text's order. No program in sight. -/
namespace Go.Proofs.YtnbmmhoofilmfaaDoor.Tb
open Go.RowKit
set_option linter.unusedVariables false

/-- a block that the region makes: operation i lays it, its pointer into slot d; operation st stores into it -/
structure Al where
  i : Nat
  d : Nat
  T : TypeId
  cs : Array Value
  st : Nat
  cs1 : Array Value

def inSt (sk : List (Nat × Nat × Nat)) (n : Nat) : Bool := sk.any fun x => x.2.2 == n
def inAl (sk : List (Nat × Nat × Nat)) (n : Nat) : Bool := sk.any fun x => x.1 == n
/-- the operations that are neither of the makings nor of the stores -/
def plain (sk : List (Nat × Nat × Nat)) : Nat → List Oper → List Oper
  | _, [] => []
  | n, o :: l => if inAl sk n || inSt sk n then plain sk (n + 1) l else o :: plain sk (n + 1) l
def readsT (o : Oper) (s : Nat) : Bool := o.op.operands.toList.any fun x => match x with | .tmp t => t == s | _ => false
/-- each operation's own look -/
def okOp (md : Region.Mode) (ops : Array Oper) (sk : List (Nat × Nat × Nat)) (n : Nat) (o : Oper) : Bool :=
  (match o.guard with | none => true | some _ => false) && (match o.op with | .select _ _ => false | _ => true) &&
  -- what it reads has come up, or nobody writes it
  (List.range ops.size).all (fun j => match ops[j]? with
    | none => true
    | some oj => match oj.dst with
      | none => true
      | some d => (!readsT o d || o.after.any fun e => Region.binds md e && e.on == j) && (decide (j = n) || (match o.dst with | none => true | some d' => d != d')) && (!(inAl sk j) || inSt sk n || !readsT o d)) &&
  (if inSt sk n then (match o.dst with | none => true | some _ => false) && !inAl sk n && sk.all (fun x => x.2.2 != n || o.after.any fun e => Region.binds md e && e.on == x.1)
   else (match o.dst with | none => false | some _ => true) && sk.all (fun x => if x.1 == n then o.dst == some x.2.1 else o.dst != some x.2.1))
def okB (md : Region.Mode) (ops : Array Oper) (sk : List (Nat × Nat × Nat)) : Bool :=
  (List.range ops.size).all fun n => match ops[n]? with
    | none => true
    | some o => okOp md ops sk n o
/-- its slots lie in the frame -/
def slotsB (L : List Oper) (sz : Nat) : Bool := L.all fun o => match o.dst with | none => true | some d => decide (d < sz)
/-- the blocks are told apart -/
def apartB : List (Nat × Nat × Nat) → Bool
  | [] => true
  | x :: l => l.all (fun y => x.1 != y.1 && x.2.1 != y.2.1 && x.2.2 != y.2.2 && x.1 != y.2.2 && x.2.2 != y.1) && x.1 != x.2.2 && apartB l

section
variable {P : Program}
theorem eval_same {a b : Act} {x : Operand} (h : ∀ s, x = .tmp s → a.tmps.getD s undef = b.tmps.getD s undef) : a.eval x = b.eval x := by
  cases x with
  | tmp t => exact h t rfl
  | const v => rfl
  | global g => rfl
  | func f => rfl
theorem reads_mem {o : Oper} {x : Operand} {s : Nat} (hx : x ∈ o.op.operands) (he : x = .tmp s) : readsT o s = true := by
  unfold readsT
  rw [List.any_eq_true]
  exact ⟨x, by simpa using hx, by rw [he]; simp⟩
/-- the last frame of a plain walk holds each operation's value, and each operation yields it there -/
theorem walk_get {ops : Array Oper} {C : World → Prop} {A : Act} : ∀ (l : List Oper) (a : Act), (∀ o ∈ l, o.guard = none ∧ (∀ cs b, o.op ≠ .select cs b) ∧ ∃ d, o.dst = some d ∧ d < a.tmps.size) → l.Pairwise (fun x y => x.dst ≠ y.dst ∧ (∀ d, y.dst = some d → readsT x d = false)) → (∀ o ∈ l, ∀ d, o.dst = some d → readsT o d = false) →
    wpQuiet P ops C (fun a' => a' = A) l a → A.defers = a.defers ∧ A.tmps.size = a.tmps.size ∧ (∀ s, (∀ o ∈ l, o.dst ≠ some s) → A.tmps.getD s undef = a.tmps.getD s undef) ∧ ∀ o ∈ l, ∀ d, o.dst = some d → ∀ w, C w → o.quietAt P A C w (A.tmps.getD d undef)
  | [], a, _, _, _, h => by
    have h : a = A := h
    subst h
    exact ⟨rfl, rfl, fun _ _ => rfl, fun o ho => by cases ho⟩
  | o :: l, a, hg, hp, hr, h => by
    obtain ⟨hgo, hso, d, hd, hlt⟩ := hg o (by simp)
    obtain ⟨hp1, hp2⟩ := List.pairwise_cons.1 hp
    unfold wpQuiet at h
    rw [if_pos (by unfold Region.wanted; rw [hgo])] at h
    obtain ⟨v, hv, hk⟩ := h
    rw [hd] at hk
    obtain ⟨i1, i2, i3, i4⟩ := walk_get l (a.put (some d) v) (fun o' ho' => by
      obtain ⟨h1, h2, d', h3, h4⟩ := hg o' (by simp [ho'])
      exact ⟨h1, h2, d', h3, by rw [put_size]; exact h4⟩) hp2 (fun o' ho' => hr o' (by simp [ho'])) hk
    have hAd : A.tmps.getD d undef = v := by
      rw [i3 d (fun o' ho' e => (hp1 o' ho').1 (hd.trans e.symm))]
      exact put_same _ _ _ hlt
    have hoth : ∀ s, (∀ o' ∈ o :: l, o'.dst ≠ some s) → A.tmps.getD s undef = a.tmps.getD s undef := fun s hs => by
      rw [i3 s (fun o' ho' => hs o' (by simp [ho']))]
      exact put_other _ _ _ _ (fun e => hs o (by simp) (by rw [hd, e]))
    refine ⟨i1, i2.trans (put_size _ _ _), hoth, ?_⟩
    intro o' ho' d' hd' w hw
    rcases List.mem_cons.1 ho' with rfl | ho'
    · have e : d = d' := by rw [hd] at hd'; injection hd'
      subst e
      rw [hAd]
      have := hv w hw
      unfold Oper.quietAt at this ⊢
      rw [execOp_congr (ρ := A.eval) (ρ' := a.eval) o' hso fun x hx => eval_same fun s hs => ?_]
      · exact this
      · refine hoth s fun o2 ho2 e => ?_
        have h1 := reads_mem hx hs
        rcases List.mem_cons.1 ho2 with rfl | ho2
        · rw [hr o2 (by simp) s e] at h1; cases h1
        · rw [(hp1 o2 ho2).2 s e] at h1; cases h1
    · exact i4 o' ho' d' hd' w hw

def skOf (als : List Al) : List (Nat × Nat × Nat) := als.map fun x => (x.i, x.d, x.st)
def ptrOf : Value → Nat
  | .pointer (some p) => p.block
  | _ => 0
theorem plain_mem {sk : List (Nat × Nat × Nat)} {o : Oper} : ∀ (L : List Oper) (n : Nat), o ∈ plain sk n L → ∃ i, L[i]? = some o ∧ inAl sk (n + i) = false ∧ inSt sk (n + i) = false
  | [], _, h => by cases h
  | o' :: L, n, h => by
    unfold plain at h
    split at h
    · obtain ⟨i, h1, h2, h3⟩ := plain_mem L (n + 1) h
      exact ⟨i + 1, by simpa using h1, by rw [← h2]; congr 1; omega, by rw [← h3]; congr 1; omega⟩
    · next hc =>
      rcases List.mem_cons.1 h with rfl | h
      · refine ⟨0, rfl, ?_, ?_⟩ <;> rw [Nat.add_zero] <;> revert hc <;> cases inAl sk n <;> cases inSt sk n <;> simp
      · obtain ⟨i, h1, h2, h3⟩ := plain_mem L (n + 1) h
        exact ⟨i + 1, by simpa using h1, by rw [← h2]; congr 1; omega, by rw [← h3]; congr 1; omega⟩
theorem mem_plain {sk : List (Nat × Nat × Nat)} {o : Oper} : ∀ (L : List Oper) (n i : Nat), L[i]? = some o → inAl sk (n + i) = false → inSt sk (n + i) = false → o ∈ plain sk n L
  | [], _, i, h, _, _ => by simp at h
  | o' :: L, n, 0, h, h1, h2 => by
    have : o' = o := by simpa using h
    subst this
    unfold plain
    rw [if_neg (by rw [Nat.add_zero] at h1 h2; rw [h1, h2]; simp)]
    simp
  | o' :: L, n, i + 1, h, h1, h2 => by
    have := mem_plain (sk := sk) (o := o) L (n + 1) i (by simpa using h) (by rw [← h1]; congr 1; omega) (by rw [← h2]; congr 1; omega)
    unfold plain
    split
    · exact this
    · simp [this]
theorem plain_pair {sk : List (Nat × Nat × Nat)} {R : Oper → Oper → Prop} : ∀ (L : List Oper) (n : Nat), (∀ (i j : Nat) (x y : Oper), i < j → L[i]? = some x → L[j]? = some y → inSt sk (n + i) = false → R x y) → (plain sk n L).Pairwise R
  | [], _, _ => List.Pairwise.nil
  | o :: L, n, h => by
    have ih := plain_pair (sk := sk) (R := R) L (n + 1) (fun i j x y hij hx hy hs => h (i + 1) (j + 1) x y (by omega) (by simpa using hx) (by simpa using hy) (by rw [← hs]; congr 1; omega))
    unfold plain
    split
    · exact ih
    · next hc =>
      refine List.pairwise_cons.2 ⟨fun y hy => ?_, ih⟩
      obtain ⟨i, hi, _⟩ := plain_mem L (n + 1) hy
      exact h 0 (i + 1) o y (by omega) rfl (by simpa using hi) (by rw [Nat.add_zero]; revert hc; cases inAl sk n <;> cases inSt sk n <;> simp)

structure Ok (md : Region.Mode) (L : List Oper) (sk : List (Nat × Nat × Nat)) (i : Nat) (o : Oper) : Prop where
  g : o.guard = none
  s : ∀ cs b, o.op ≠ .select cs b
  r : ∀ j oj d, L[j]? = some oj → oj.dst = some d → readsT o d = true → ∃ e ∈ o.after, Region.binds md e = true ∧ e.on = j
  d : ∀ j oj d, L[j]? = some oj → oj.dst = some d → j ≠ i → o.dst ≠ some d
  a : ∀ j oj d, L[j]? = some oj → oj.dst = some d → inAl sk j = true → inSt sk i = false → readsT o d = false
  st : inSt sk i = true → o.dst = none ∧ inAl sk i = false ∧ ∀ x ∈ sk, x.2.2 = i → ∃ e ∈ o.after, Region.binds md e = true ∧ e.on = x.1
  ns : inSt sk i = false → (∃ d, o.dst = some d) ∧ ∀ x ∈ sk, (x.1 = i → o.dst = some x.2.1) ∧ (x.1 ≠ i → o.dst ≠ some x.2.1)
theorem ok_of {md : Region.Mode} {L : List Oper} {sk : List (Nat × Nat × Nat)} (h : okB md L.toArray sk = true) {i : Nat} {o : Oper} (hi : L[i]? = some o) : Ok md L sk i o := by
  unfold okB at h
  rw [List.all_eq_true] at h
  have hlt : i < L.length := (List.getElem?_eq_some_iff.1 hi).1
  have h1 := h i (List.mem_range.2 (by simpa using hlt))
  rw [show L.toArray[i]? = some o by simpa using hi] at h1
  simp only at h1
  unfold okOp at h1
  simp only [Bool.and_eq_true] at h1
  obtain ⟨⟨⟨hg, hs⟩, hr⟩, hk⟩ := h1
  have hgn : o.guard = none := by cases hgg : o.guard with | none => rfl | some x => rw [hgg] at hg; cases hg
  have hsn : ∀ cs b, o.op ≠ .select cs b := fun cs b e => by rw [e] at hs; cases hs
  rw [List.all_eq_true] at hr
  have key : ∀ j oj d, L[j]? = some oj → oj.dst = some d → (!readsT o d || o.after.any fun e => Region.binds md e && e.on == j) = true ∧ (decide (j = i) || (match o.dst with | none => true | some d' => d != d')) = true ∧ (!(inAl sk j) || inSt sk i || !readsT o d) = true := fun j oj d hj hd => by
    have h2 := hr j (List.mem_range.2 (by simpa using (List.getElem?_eq_some_iff.1 hj).1))
    rw [show L.toArray[j]? = some oj by simpa using hj] at h2
    simp only [hd, Bool.and_eq_true] at h2
    exact ⟨h2.1.1, h2.1.2, h2.2⟩
  refine ⟨hgn, hsn, fun j oj d hj hd hrd => ?_, fun j oj d hj hd hne e => ?_, fun j oj d hj hd ha hb => ?_, fun hst => ?_, fun hns => ?_⟩
  · have := (key j oj d hj hd).1
    rw [hrd, Bool.not_true, Bool.false_or, Array.any_eq_true'] at this
    obtain ⟨e, he, hbe⟩ := this
    simp only [Bool.and_eq_true, beq_iff_eq] at hbe
    exact ⟨e, he, hbe.1, hbe.2⟩
  · have := (key j oj d hj hd).2.1
    rw [e] at this
    simp [hne] at this
  · have := (key j oj d hj hd).2.2
    rw [ha, hb] at this
    simpa using this
  · rw [hst] at hk
    simp only [if_true, Bool.and_eq_true] at hk
    obtain ⟨⟨k1, k2⟩, k3⟩ := hk
    have k1' : o.dst = none := by
      cases hdd : o.dst with
      | none => rfl
      | some x => rw [hdd] at k1; cases k1
    refine ⟨k1', by simpa using k2, fun x hx hxi => ?_⟩
    rw [List.all_eq_true] at k3
    have := k3 x hx
    rw [hxi, bne_self_eq_false, Bool.false_or, Array.any_eq_true'] at this
    obtain ⟨e, he, hbe⟩ := this
    simp only [Bool.and_eq_true, beq_iff_eq] at hbe
    exact ⟨e, he, hbe.1, hbe.2⟩
  · rw [hns] at hk
    simp only [Bool.false_eq_true, if_false, Bool.and_eq_true] at hk
    obtain ⟨k1, k2⟩ := hk
    have k1' : ∃ d, o.dst = some d := by
      cases hdd : o.dst with
      | none => rw [hdd] at k1; cases k1
      | some x => exact ⟨x, rfl⟩
    refine ⟨k1', fun x hx => ?_⟩
    rw [List.all_eq_true] at k2
    have := k2 x hx
    constructor
    · intro e
      rw [if_pos (by simpa using e)] at this
      simpa using this
    · intro e
      rw [if_neg (by simpa using e)] at this
      simpa using this
structure Ap (als : List Al) : Prop where
  i : ∀ x ∈ als, ∀ y ∈ als, x ≠ y → x.i ≠ y.i ∧ x.d ≠ y.d ∧ x.st ≠ y.st
  s : ∀ x ∈ als, ∀ y ∈ als, x.i ≠ y.st
theorem ap_of : ∀ (als : List Al), apartB (skOf als) = true → Ap als
  | [], _ => ⟨fun x hx => by (cases hx), fun x hx => by (cases hx)⟩
  | a :: l, h => by
    unfold skOf at h
    rw [List.map_cons, apartB] at h
    simp only [Bool.and_eq_true] at h
    obtain ⟨⟨h1, h2⟩, h3⟩ := h
    have ih := ap_of l h3
    rw [List.all_eq_true] at h1
    have hx : ∀ y ∈ l, a.i ≠ y.i ∧ a.d ≠ y.d ∧ a.st ≠ y.st ∧ a.i ≠ y.st ∧ a.st ≠ y.i := fun y hy => by
      have := h1 (y.i, y.d, y.st) (List.mem_map.2 ⟨y, hy, rfl⟩)
      simp only [Bool.and_eq_true, bne_iff_ne, ne_eq] at this
      exact ⟨this.1.1.1.1, this.1.1.1.2, this.1.1.2, this.1.2, this.2⟩
    have h2' : a.i ≠ a.st := by simpa using h2
    refine ⟨fun x hxm y hym hne => ?_, fun x hxm y hym => ?_⟩
    · rcases List.mem_cons.1 hxm with e1 | hx1 <;> rcases List.mem_cons.1 hym with e2 | hy1
      · exact absurd (e1.trans e2.symm) hne
      · have := hx y hy1; rw [e1]; exact ⟨this.1, this.2.1, this.2.2.1⟩
      · have := hx x hx1; rw [e2]; exact ⟨this.1.symm, this.2.1.symm, this.2.2.1.symm⟩
      · exact ih.i x hx1 y hy1 hne
    · rcases List.mem_cons.1 hxm with e1 | hx1 <;> rcases List.mem_cons.1 hym with e2 | hy1
      · rw [e1, e2]; exact h2'
      · rw [e1]; exact (hx y hy1).2.2.2.1
      · rw [e2]; exact (hx x hx1).2.2.2.2.symm
      · exact ih.s x hx1 y hy1

/-- what holds on the way -/
structure Iv (L : List Oper) (a A : Act) (als : List Al) (S : World → Prop) (base : Nat) (l : Nat → Bool) (a' : Act) (w' : World) : Prop where
  defers : a'.defers = a.defers
  size : a'.tmps.size = a.tmps.size
  agree : ∀ s, (∀ i o, L[i]? = some o → o.dst = some s → l i = true) → (∀ x ∈ als, x.d ≠ s) → a'.tmps.getD s undef = A.tmps.getD s undef
  s : S w'
  al : ∀ x ∈ als, l x.i = true → ∃ p, a'.tmps.getD x.d undef = .pointer (some ⟨p, 0, none⟩) ∧ base ≤ p ∧ w'.heap[p]? = some (.cells (if l x.st = true then x.cs1 else x.cs) x.T (0, 0))
  ne : ∀ x ∈ als, ∀ y ∈ als, x ≠ y → l x.i = true → l y.i = true → a'.tmps.getD x.d undef ≠ a'.tmps.getD y.d undef
  wt : ∀ x ∈ als, l x.st = true → l x.i = true
theorem steps_of {md : Region.Mode} {ops : Array Oper} {Q : Exit → Act → World → Prop} {I : (Nat → Bool) → Act → World → Prop} : ∀ (l : List Oper) (n : Nat), (∀ i o, l[i]? = some o → ∀ l' a w, l' (n + i) = false → upB md o l' = true → I l' a w → wpOp P ops Q (n + i) (I (fun j => j == (n + i) || l' j)) a w) → StepsI P md ops Q I n l
  | [], _, _ => trivial
  | o :: l, n, h => ⟨fun l' a w h1 h2 h3 => h 0 o rfl l' a w h1 h2 h3, steps_of l (n + 1) fun i o' hi l' a w h1 h2 h3 => by
      have := h (i + 1) o' (by simpa using hi) l' a w (by rw [show n + (i + 1) = n + 1 + i by omega]; exact h1) h2 h3
      rwa [show n + (i + 1) = n + 1 + i by omega] at this⟩
theorem up_of {md : Region.Mode} {o : Oper} {l : Nat → Bool} (h : upB md o l = true) {e : Edge} (he : e ∈ o.after) (hb : Region.binds md e = true) : l e.on = true := by
  unfold upB at h
  rw [Array.all_eq_true'] at h
  have := h e he
  rwa [hb, Bool.not_true, Bool.false_or] at this
theorem fold_get (p : Nat → Nat) : ∀ (als : List Al) (A : Act), (als.foldl (fun A x => A.put (some x.d) (.pointer (some ⟨p x.d, 0, none⟩))) A).tmps.size = A.tmps.size ∧ (als.foldl (fun A x => A.put (some x.d) (.pointer (some ⟨p x.d, 0, none⟩))) A).defers = A.defers ∧
    (∀ s, (∀ x ∈ als, x.d ≠ s) → (als.foldl (fun A x => A.put (some x.d) (.pointer (some ⟨p x.d, 0, none⟩))) A).tmps.getD s undef = A.tmps.getD s undef) ∧
    ∀ x ∈ als, x.d < A.tmps.size → (als.foldl (fun A x => A.put (some x.d) (.pointer (some ⟨p x.d, 0, none⟩))) A).tmps.getD x.d undef = .pointer (some ⟨p x.d, 0, none⟩)
  | [], A => ⟨rfl, rfl, fun _ _ => rfl, fun x hx => by cases hx⟩
  | y :: l, A => by
    obtain ⟨h1, h2, h3, h4⟩ := fold_get p l (A.put (some y.d) (.pointer (some ⟨p y.d, 0, none⟩)))
    rw [List.foldl_cons]
    refine ⟨h1.trans (put_size _ _ _), h2, fun s hs => (h3 s fun x hx => hs x (by simp [hx])).trans (put_other _ _ _ _ (fun e => hs y (by simp) e.symm)), fun x hx hlt => ?_⟩
    rcases List.mem_cons.1 hx with rfl | hx
    · by_cases hm : ∃ z ∈ l, z.d = x.d
      · obtain ⟨z, hz, he⟩ := hm
        have := h4 z hz (by rw [put_size, he]; exact hlt)
        rwa [he] at this
      · rw [h3 x.d (fun z hz e => hm ⟨z, hz, e⟩)]
        exact put_same _ _ _ hlt
    · exact h4 x hx (by rw [put_size]; exact hlt)

/-- **A drawn region of plain operations, new blocks and stores into these.** A: the frame when the plain operations have come up. -/
theorem wp_region_tab (als : List Al) (S : World → Prop) (base : Nat) (A : Act) {id : Nat} {Q : Exit → Act → World → Prop} {a : Act} {w : World} {L : List Oper} (hm : P.follows .mixedOrders = true) (hd : downB .any L.toArray = true)
    (hok : okB .any L.toArray (skOf als) = true) (hap : apartB (skOf als) = true) (hsl : slotsB L a.tmps.size = true) (hix : als.all (fun x => decide (x.i < L.length) && decide (x.st < L.length)) = true)
    (hcl : ∀ W W', S W → Below W.heap.size W W' → S W') (hon : ∀ W W' p, S W → base ≤ p → Only p W W' → S W') (hgrow : ∀ W, S W → base ≤ W.heap.size) (hS : S { w with drawn := w.drawn + 1 })
    (hwalk : ∀ R : World → Prop, (∀ W W', R W → Below W.heap.size W W' → R W') → Nonempty (InW (fun W => S W ∧ R W)) → wpQuiet P (plain (skOf als) 0 L).toArray (fun w' => ∃ s : InW (fun W => S W ∧ R W), w' = s.W) (fun a' => a' = A) (plain (skOf als) 0 L) a)
    (hal : ∀ x ∈ als, ∀ o, L[x.i]? = some o → ∀ (a' : Act) W, (execOp a'.eval o).run P W = .ok (.value (.pointer (some ⟨W.heap.size, 0, none⟩))) (W.alloc (.cells x.cs x.T)))
    (hst : ∀ x ∈ als, ∀ o, L[x.st]? = some o → ∀ (a' : Act) W p (K : Act → World → Prop) (Q' : Exit → Act → World → Prop), (∀ y ∈ o.op.operands, (∀ z ∈ als, y ≠ .tmp z.d) → a'.eval y = A.eval y) → a'.eval (.tmp x.d) = .pointer (some ⟨p, 0, none⟩) → W.heap[p]? = some (.cells x.cs x.T (0, 0)) →
      (∀ W', W'.heap[p]? = some (.cells x.cs1 x.T (0, 0)) → Only p W W' → K (a'.put o.dst undef) W') → o.wp P a' W K Q')
    (hend : ∀ (p : Nat → Nat) w', S w' → (∀ x ∈ als, base ≤ p x.d ∧ w'.heap[p x.d]? = some (.cells x.cs1 x.T (0, 0))) → (∀ x ∈ als, ∀ y ∈ als, x ≠ y → p x.d ≠ p y.d) → Q .normal (als.foldl (fun A x => A.put (some x.d) (.pointer (some ⟨p x.d, 0, none⟩))) A) w') :
    (Code.region id L.toArray true).wp P Q a w := by
  have hAp := ap_of als hap
  have hlen : ∀ x ∈ als, x.i < L.length ∧ x.st < L.length := fun x hx => by
    rw [List.all_eq_true] at hix
    have := hix x hx
    simpa using this
  have hsz : ∀ (i : Nat) (o : Oper) (d : Nat), L[i]? = some o → o.dst = some d → d < a.tmps.size := fun i o d hi hdd => by
    unfold slotsB at hsl
    rw [List.all_eq_true] at hsl
    have := hsl o (List.mem_of_getElem? hi)
    rw [hdd] at this
    simpa using this
  have isAl : ∀ x ∈ als, inAl (skOf als) x.i = true := fun x hx => by
    unfold inAl skOf; rw [List.any_eq_true]; exact ⟨_, List.mem_map.2 ⟨x, hx, rfl⟩, by simp⟩
  have isSt : ∀ x ∈ als, inSt (skOf als) x.st = true := fun x hx => by
    unfold inSt skOf; rw [List.any_eq_true]; exact ⟨_, List.mem_map.2 ⟨x, hx, rfl⟩, by simp⟩
  have ofAl : ∀ n, inAl (skOf als) n = true → ∃ x ∈ als, x.i = n := fun n h => by
    unfold inAl skOf at h; rw [List.any_eq_true] at h
    obtain ⟨y, hy, he⟩ := h
    obtain ⟨x, hx, rfl⟩ := List.mem_map.1 hy
    exact ⟨x, hx, by simpa using he⟩
  have ofSt : ∀ n, inSt (skOf als) n = true → ∃ x ∈ als, x.st = n := fun n h => by
    unfold inSt skOf at h; rw [List.any_eq_true] at h
    obtain ⟨y, hy, he⟩ := h
    obtain ⟨x, hx, rfl⟩ := List.mem_map.1 hy
    exact ⟨x, hx, by simpa using he⟩
  have skm : ∀ x ∈ als, (x.i, x.d, x.st) ∈ skOf als := fun x hx => List.mem_map.2 ⟨x, hx, rfl⟩
  -- an alloc's slot
  have dAl : ∀ x ∈ als, ∀ o, L[x.i]? = some o → o.dst = some x.d := fun x hx o ho => by
    have hOk := ok_of hok ho
    have hns : inSt (skOf als) x.i = false := by
      cases h : inSt (skOf als) x.i with
      | false => rfl
      | true => obtain ⟨y, hy, he⟩ := ofSt _ h; exact absurd he.symm (hAp.s x hx y hy)
    exact ((hOk.ns hns).2 _ (skm x hx)).1 rfl
  have hdz : ∀ x ∈ als, x.d < a.tmps.size := fun x hx => by
    have ho := List.getElem?_eq_getElem (hlen x hx).1
    exact hsz _ _ _ ho (dAl x hx _ ho)
  -- the walk
  have getW : ∀ R : World → Prop, (∀ W W', R W → Below W.heap.size W W' → R W') → (∃ W, S W ∧ R W) → A.defers = a.defers ∧ A.tmps.size = a.tmps.size ∧ (∀ s, (∀ o ∈ plain (skOf als) 0 L, o.dst ≠ some s) → A.tmps.getD s undef = a.tmps.getD s undef) ∧ ∀ (o : Oper), o ∈ plain (skOf als) 0 L → ∀ d, o.dst = some d → ∀ w, S w ∧ R w → o.quietAt P A (fun w' => ∃ s : InW (fun W => S W ∧ R W), w' = s.W) w (A.tmps.getD d undef) := fun R hR ⟨W, hW⟩ => by
    refine (fun (h : A.defers = a.defers ∧ A.tmps.size = a.tmps.size ∧ (∀ s, (∀ o ∈ plain (skOf als) 0 L, o.dst ≠ some s) → A.tmps.getD s undef = a.tmps.getD s undef) ∧ ∀ (o : Oper), o ∈ plain (skOf als) 0 L → ∀ d, o.dst = some d → ∀ w, (fun w' => ∃ s : InW (fun W => S W ∧ R W), w' = s.W) w → o.quietAt P A (fun w' => ∃ s : InW (fun W => S W ∧ R W), w' = s.W) w (A.tmps.getD d undef)) => ⟨h.1, h.2.1, h.2.2.1, fun o ho d hdo w hw => h.2.2.2 o ho d hdo w ⟨⟨w, hw⟩, rfl⟩⟩) (walk_get _ a (fun o ho => ?_) (plain_pair L 0 fun i j x y hij hx hy hns => ⟨fun e => ?_, fun d hdy => ?_⟩) (fun o ho d hdo => ?_) (hwalk R hR ⟨⟨W, hW⟩⟩))
    · obtain ⟨i, hi, h1, h2⟩ := plain_mem L 0 ho
      rw [Nat.zero_add] at h1 h2
      have hOk := ok_of hok hi
      obtain ⟨d, hdd⟩ := (hOk.ns h2).1
      exact ⟨hOk.g, hOk.s, d, hdd, hsz i o d hi hdd⟩
    · rw [Nat.zero_add] at hns
      obtain ⟨d, hxd⟩ := ((ok_of hok hx).ns hns).1
      exact (ok_of hok hy).d i x d hx hxd (by omega) (by rw [← e, hxd])
    · cases hr : readsT x d with
      | false => rfl
      | true =>
        obtain ⟨e, he, hb, hon⟩ := (ok_of hok hx).r j y d hy hdy hr
        have := downB_spec hd (i := i) (by simpa using hx) he hb
        omega
    · obtain ⟨i, hi, h1, h2⟩ := plain_mem L 0 ho
      cases hr : readsT o d with
      | false => rfl
      | true =>
        obtain ⟨e, he, hb, hon⟩ := (ok_of hok hi).r i o d hi hdo hr
        have := downB_spec hd (i := i) (by simpa using hi) he hb
        omega
  have hdef : A.defers = a.defers ∧ A.tmps.size = a.tmps.size ∧ ∀ s, (∀ o ∈ plain (skOf als) 0 L, o.dst ≠ some s) → A.tmps.getD s undef = a.tmps.getD s undef := by
    obtain ⟨h1, h2, h3, _⟩ := getW (fun _ => True) (fun _ _ _ _ => trivial) ⟨_, hS, trivial⟩
    exact ⟨h1, h2, h3⟩
  refine wp_region_inv (Iv L a A als S base) hm hd (fun l l' a' w' he h => ?_) ?_ (steps_of L 0 fun i o hi l a' w' hl hu h => ?_) (fun a' w' h => ?_)
  · exact ⟨h.defers, h.size, fun s hs hn => h.agree s (fun i o hi hdd => by rw [he i (List.getElem?_eq_some_iff.1 hi).1]; exact hs i o hi hdd) hn, h.s,
      fun x hx hl => by have h1 := hlen x hx; rw [← he x.i h1.1] at hl; rw [← he x.st h1.2]; exact h.al x hx hl,
      fun x hx y hy hne h1 h2 => h.ne x hx y hy hne (by rw [he x.i (hlen x hx).1]; exact h1) (by rw [he y.i (hlen y hy).1]; exact h2),
      fun x hx h1 => by rw [← he x.i (hlen x hx).1]; exact h.wt x hx (by rw [he x.st (hlen x hx).2]; exact h1)⟩
  · refine ⟨rfl, rfl, fun s hs hn => (hdef.2.2 s fun o ho e => ?_).symm, hS, (fun x hx h => by cases h), (fun x hx y hy _ h _ => by cases h), (fun x hx h => by cases h)⟩
    obtain ⟨i, hi, _, _⟩ := plain_mem L 0 ho
    have := hs i o hi e
    cases this
  · rw [Nat.zero_add] at hl ⊢
    have hOk := ok_of hok hi
    have hi' : L.toArray[i]? = some o := by simpa using hi
    cases hSt : inSt (skOf als) i with
    | true =>
      obtain ⟨x, hx, rfl⟩ := ofSt i hSt
      obtain ⟨hdn, _, hwt⟩ := hOk.st hSt
      obtain ⟨e, he, hb, hon1⟩ := hwt _ (skm x hx) rfl
      have hxi : l x.i = true := by have := up_of hu he hb; rwa [hon1] at this
      obtain ⟨p, hp1, hp2, hp3⟩ := h.al x hx hxi
      rw [hl, if_neg (by simp)] at hp3
      refine wpOp_of hi' hOk.g (hst x hx o hi a' w' p _ _ (fun y hy hny => eval_same fun s hs => ?_) hp1 hp3 fun W' hW' ho => ?_)
      · refine h.agree s (fun j oj hj hdj => ?_) (fun z hz e => hny z hz (by rw [hs, e]))
        obtain ⟨e2, he2, hb2, hon2⟩ := hOk.r j oj s hj hdj (reads_mem hy hs)
        have := up_of hu he2 hb2
        rwa [hon2] at this
      · rw [hdn]
        have hxst : ∀ y ∈ als, (y.i == x.st) = false := fun y hy => by
          have := hAp.s y hy x hx
          simpa using this
        refine ⟨h.defers, h.size, fun s hs hn => h.agree s (fun j oj hj hdj => ?_) hn, hon _ _ p h.s hp2 ho, fun y hy hly => ?_, fun y hy z hz hne h1 h2 => ?_, fun y hy hly => ?_⟩
        · have h1 := hs j oj hj hdj
          cases hjx : j == x.st with
          | false => rwa [hjx, Bool.false_or] at h1
          | true =>
            have e1 : j = x.st := by simpa using hjx
            rw [e1, hi] at hj
            injection hj with hj
            rw [← hj, hdn] at hdj
            cases hdj
        · rw [hxst y hy, Bool.false_or] at hly
          by_cases hyx : y = x
          · subst hyx
            exact ⟨p, hp1, hp2, by rw [if_pos (by simp)]; exact hW'⟩
          · obtain ⟨q, q1, q2, q3⟩ := h.al y hy hly
            have hne := h.ne y hy x hx hyx hly hxi
            have hpq : q ≠ p := fun e => hne (by rw [q1, hp1, e])
            refine ⟨q, q1, q2, ?_⟩
            have hst2 : (y.st == x.st) = false := by have := (hAp.i y hy x hx hyx).2.2; simpa using this
            rw [hst2, Bool.false_or]
            exact (ho.block q hpq).trans q3
        · rw [hxst y hy, Bool.false_or] at h1
          rw [hxst z hz, Bool.false_or] at h2
          exact h.ne y hy z hz hne h1 h2
        · rw [hxst y hy, Bool.false_or]
          cases hyx : y.st == x.st with
          | false => rw [hyx, Bool.false_or] at hly; exact h.wt y hy hly
          | true =>
            by_cases hyx2 : y = x
            · rw [hyx2]; exact hxi
            · exact absurd (by simpa using hyx) (hAp.i y hy x hx hyx2).2.2
    | false =>
      obtain ⟨⟨d, hdd⟩, hns⟩ := hOk.ns hSt
      cases hAl : inAl (skOf als) i with
      | true =>
        obtain ⟨x, hx, rfl⟩ := ofAl i hAl
        have hdx := dAl x hx o hi
        have hlst : l x.st = false := by
          cases e : l x.st with
          | false => rfl
          | true => rw [h.wt x hx e] at hl; cases hl
        have hxst : ∀ y ∈ als, (y.st == x.i) = false := fun y hy => by
          have := hAp.s x hx y hy
          simpa using fun e => this e.symm
        refine wpOp_of hi' hOk.g ?_
        unfold Oper.wp
        rw [hal x hx o hi]
        show Iv L a A als S base (fun j => j == x.i || l j) (a'.put o.dst (.pointer (some ⟨w'.heap.size, 0, none⟩))) (w'.alloc (.cells x.cs x.T))
        rw [hdx]
        refine ⟨h.defers, (put_size _ _ _).trans h.size, fun s hs hn => ?_, hcl _ _ h.s ((Below.refl _ _).alloc (Nat.le_refl _) _), fun y hy hly => ?_, fun y hy z hz hne h1 h2 => ?_, fun y hy hly => ?_⟩
        · rw [put_other _ _ _ _ (fun e => hn x hx e.symm)]
          refine h.agree s (fun j oj hj hdj => ?_) hn
          have h1 := hs j oj hj hdj
          cases hjx : j == x.i with
          | false => rwa [hjx, Bool.false_or] at h1
          | true =>
            have e1 : j = x.i := by simpa using hjx
            rw [e1, hi] at hj
            injection hj with hj
            rw [← hj, hdx] at hdj
            injection hdj with hdj
            exact absurd hdj (hn x hx)
        · rw [hxst y hy, Bool.false_or]
          by_cases hyx : y = x
          · subst hyx
            refine ⟨w'.heap.size, put_same _ _ _ (by rw [h.size]; exact hdz y hy), hgrow _ h.s, ?_⟩
            rw [hlst, if_neg (by simp)]
            exact heap_alloc_new w' _
          · have hyi : (y.i == x.i) = false := by have := (hAp.i y hy x hx hyx).1; simpa using this
            rw [hyi, Bool.false_or] at hly
            obtain ⟨q, q1, q2, q3⟩ := h.al y hy hly
            refine ⟨q, ?_, q2, ?_⟩
            · rw [put_other _ _ _ _ (hAp.i y hy x hx hyx).2.1]; exact q1
            · exact (Below.heap_alloc w' _ q (Array.getElem?_eq_some_iff.1 q3).1).trans q3
        · have key : ∀ y ∈ als, y ≠ x → l y.i = true → ∃ q, (a'.put (some x.d) (.pointer (some ⟨w'.heap.size, 0, none⟩))).tmps.getD y.d undef = .pointer (some ⟨q, 0, none⟩) ∧ q ≠ w'.heap.size := fun y hy hyx hly => by
            obtain ⟨q, q1, q2, q3⟩ := h.al y hy hly
            exact ⟨q, by rw [put_other _ _ _ _ (hAp.i y hy x hx hyx).2.1]; exact q1, by have := (Array.getElem?_eq_some_iff.1 q3).1; omega⟩
          have hpx : (a'.put (some x.d) (.pointer (some ⟨w'.heap.size, 0, none⟩))).tmps.getD x.d undef = .pointer (some ⟨w'.heap.size, 0, none⟩) := put_same _ _ _ (by rw [h.size]; exact hdz x hx)
          by_cases hyx : y = x
          · have hzx : z ≠ x := fun e => hne (hyx.trans e.symm)
            have hzi : (z.i == x.i) = false := by have := (hAp.i z hz x hx hzx).1; simpa using this
            rw [hzi, Bool.false_or] at h2
            obtain ⟨q, q1, q2⟩ := key z hz hzx h2
            rw [hyx, hpx, q1]
            intro e; injection e with e; injection e with e; injection e with e; exact q2 e.symm
          · have hyi : (y.i == x.i) = false := by have := (hAp.i y hy x hx hyx).1; simpa using this
            rw [hyi, Bool.false_or] at h1
            obtain ⟨q, q1, q2⟩ := key y hy hyx h1
            by_cases hzx : z = x
            · rw [hzx, hpx, q1]
              intro e; injection e with e; injection e with e; injection e with e; exact q2 e
            · have hzi : (z.i == x.i) = false := by have := (hAp.i z hz x hx hzx).1; simpa using this
              rw [hzi, Bool.false_or] at h2
              rw [put_other _ _ _ _ (hAp.i y hy x hx hyx).2.1, put_other _ _ _ _ (hAp.i z hz x hx hzx).2.1]
              exact h.ne y hy z hz hne h1 h2
        · rw [hxst y hy, Bool.false_or] at hly
          rw [h.wt y hy hly, Bool.or_true]
      | false =>
        have hmem : o ∈ plain (skOf als) 0 L := mem_plain L 0 i hi (by rw [Nat.zero_add]; exact hAl) (by rw [Nat.zero_add]; exact hSt)
        have hni : ∀ x ∈ als, (x.i == i) = false := fun x hx => by
          cases e : x.i == i with
          | false => rfl
          | true => have e1 : x.i = i := by simpa using e
                    rw [← e1, isAl x hx] at hAl; cases hAl
        have hnst : ∀ x ∈ als, (x.st == i) = false := fun x hx => by
          cases e : x.st == i with
          | false => rfl
          | true => have e1 : x.st = i := by simpa using e
                    rw [← e1, isSt x hx] at hSt; cases hSt
        have hnd : ∀ x ∈ als, x.d ≠ d := fun x hx e => (hns _ (skm x hx)).2 (by have := hni x hx; simpa using this) (by rw [hdd, ← e])
        obtain ⟨_, _, _, hq⟩ := getW (fun W => Below w'.heap.size w' W) (fun W W' h1 h2 => h1.trans (h2.mono h1.size)) ⟨w', h.s, Below.refl _ _⟩
        have hqo := hq o hmem d hdd
        have hev : execOp a'.eval o = execOp A.eval o := execOp_congr o hOk.s fun y hy => eval_same fun s hs => by
          have hrd := reads_mem hy hs
          refine h.agree s (fun j oj hj hdj => ?_) (fun x hx e => ?_)
          · obtain ⟨e2, he2, hb2, hon2⟩ := hOk.r j oj s hj hdj hrd
            have := up_of hu he2 hb2
            rwa [hon2] at this
          · have ho2 := List.getElem?_eq_getElem (hlen x hx).1
            have := hOk.a x.i _ s ho2 (by rw [← e]; exact dAl x hx _ ho2) (isAl x hx) hSt
            rw [this] at hrd; cases hrd
        refine wpOp_of hi' hOk.g (Oper.wp_of_quiet (C := fun w1 => ∃ s : InW (fun W => S W ∧ Below w'.heap.size w' W), w1 = s.W) (K := fun b => b = a'.put (some d) (A.tmps.getD d undef)) ⟨⟨w', h.s, Below.refl _ _⟩, rfl⟩ (fun b W hWW hb => ?_) ⟨A.tmps.getD d undef, fun W hWW => ?_, by rw [hdd]⟩)
        · obtain ⟨s0, rfl⟩ := hWW
          have hW := s0.h
          subst hb
          refine ⟨h.defers, (put_size _ _ _).trans h.size, fun s hs hn => ?_, hW.1, fun x hx hlx => ?_, fun x hx y hy hne h1 h2 => ?_, fun x hx hlx => ?_⟩
          · by_cases hsd : s = d
            · subst hsd; exact put_same _ _ _ (by rw [h.size]; exact hsz i o s hi hdd)
            · rw [put_other _ _ _ _ hsd]
              refine h.agree s (fun j oj hj hdj => ?_) hn
              have h1 := hs j oj hj hdj
              cases hji : j == i with
              | false => rwa [hji, Bool.false_or] at h1
              | true =>
                have e1 : j = i := by simpa using hji
                rw [e1, hi] at hj
                injection hj with hj
                rw [← hj, hdd] at hdj
                injection hdj with hdj
                exact absurd hdj.symm hsd
          · rw [hni x hx, Bool.false_or] at hlx
            rw [hnst x hx, Bool.false_or]
            obtain ⟨q, q1, q2, q3⟩ := h.al x hx hlx
            exact ⟨q, by rw [put_other _ _ _ _ (hnd x hx)]; exact q1, q2, (hW.2.block q (Array.getElem?_eq_some_iff.1 q3).1).trans q3⟩
          · rw [hni x hx, Bool.false_or] at h1
            rw [hni y hy, Bool.false_or] at h2
            rw [put_other _ _ _ _ (hnd x hx), put_other _ _ _ _ (hnd y hy)]
            exact h.ne x hx y hy hne h1 h2
          · rw [hnst x hx, Bool.false_or] at hlx
            rw [h.wt x hx hlx, Bool.or_true]
        · obtain ⟨s0, rfl⟩ := hWW
          have := hqo s0.W s0.h
          unfold Oper.quietAt at this ⊢
          rw [hev]; exact this
  · have hall : ∀ x ∈ als, ∃ p, a'.tmps.getD x.d undef = .pointer (some ⟨p, 0, none⟩) ∧ base ≤ p ∧ w'.heap[p]? = some (.cells x.cs1 x.T (0, 0)) := fun x hx => by
      obtain ⟨p, p1, p2, p3⟩ := h.al x hx rfl
      exact ⟨p, p1, p2, by simpa using p3⟩
    have hp : ∀ x ∈ als, a'.tmps.getD x.d undef = .pointer (some ⟨ptrOf (a'.tmps.getD x.d undef), 0, none⟩) := fun x hx => by
      obtain ⟨p, p1, _, _⟩ := hall x hx
      rw [p1]; rfl
    have := hend (fun d => ptrOf (a'.tmps.getD d undef)) w' h.s (fun x hx => by
      obtain ⟨p, p1, p2, p3⟩ := hall x hx
      simp only [p1, ptrOf]; exact ⟨p2, p3⟩) (fun x hx y hy hne e => by
      have h1 := h.ne x hx y hy hne rfl rfl
      rw [hp x hx, hp y hy, e] at h1
      exact h1 rfl)
    obtain ⟨f1, f2, f3, f4⟩ := fold_get (fun d => ptrOf (a'.tmps.getD d undef)) als A
    have e : a' = als.foldl (fun A x => A.put (some x.d) (.pointer (some ⟨ptrOf (a'.tmps.getD x.d undef), 0, none⟩))) A := by
      obtain ⟨tm, df⟩ := a'
      generalize hB : als.foldl (fun A x => A.put (some x.d) (.pointer (some ⟨ptrOf (({ tmps := tm, defers := df } : Act).tmps.getD x.d undef), 0, none⟩))) A = B at *
      obtain ⟨tb, db⟩ := B
      have h1 : df = db := h.defers.trans (hdef.1.symm.trans f2.symm)
      have h2 : tm = tb := by
        apply Array.ext
        · exact h.size.trans (hdef.2.1.symm.trans f1.symm)
        · intro s hs1 hs2
          have key : tm.getD s undef = tb.getD s undef := by
            by_cases hx : ∃ x ∈ als, x.d = s
            · obtain ⟨x, hx, rfl⟩ := hx
              have := f4 x hx (by rw [hdef.2.1]; exact hdz x hx)
              exact (hp x hx).trans this.symm
            · have h3 := f3 s (fun x hx' e => hx ⟨x, hx', e⟩)
              exact (h.agree s (fun _ _ _ _ => rfl) (fun x hx' e => hx ⟨x, hx', e⟩)).trans h3.symm
          simpa [Array.getD_eq_getD_getElem?, hs1, hs2] using key
      rw [h1, h2]
    rw [e]
    exact this
end
end Go.Proofs.YtnbmmhoofilmfaaDoor.Tb

/- Stores of blocks in a drawn region with new blocks. -/
namespace Go.Proofs.YtnbmmhoofilmfaaDoor.Tb
open Go.RowKit
set_option linter.unusedVariables false

theorem alloc_tab {o : Oper} (ho : o.op = .alloc 32) (a : Act) (W : World) : (execOp a.eval o).run Tryd.prog W = .ok (.value (.pointer (some ⟨W.heap.size, 0, none⟩))) (W.alloc (.cells (Ks .u8 256 fun _ => 0).toArray 32)) := by
  have hz := zero_block
  unfold execOp
  simp only [ho, Instr.alloc, Sem.run_bind, hz, Result.andThen_ok]
  rfl
theorem store_tab {als : List Al} {x : Al} {A : Act} {o : Oper} (s : Nat) (z old : Nat → Int) (hgd : o.op = .store 32 (.tmp x.d) (.tmp s)) (hA : A.eval (.tmp s) = bval z) (hs : ∀ y ∈ als, y.d ≠ s) (hT : x.T = 32) (hc : x.cs = (Ks .u8 256 old).toArray) (hc1 : x.cs1 = (Ks .u8 256 z).toArray)
    (a' : Act) (W : World) (p : Nat) (K : Act → World → Prop) (Q' : Exit → Act → World → Prop) (hev : ∀ y ∈ o.op.operands, (∀ z ∈ als, y ≠ .tmp z.d) → a'.eval y = A.eval y) (hp : a'.eval (.tmp x.d) = .pointer (some ⟨p, 0, none⟩)) (hB : W.heap[p]? = some (.cells x.cs x.T (0, 0)))
    (hK : ∀ W', W'.heap[p]? = some (.cells x.cs1 x.T (0, 0)) → Only p W W' → K (a'.put o.dst undef) W') : o.wp Tryd.prog a' W K Q' := by
  rw [hc, hT] at hB
  rw [hc1, hT] at hK
  have hB' : Blk W p 32 256 old := hB
  have hy : a'.eval (.tmp s) = bval z := by
    rw [hev (.tmp s) (by rw [hgd]; simp [Op.operands]) (fun y hy e => by injection e with e; exact hs y hy e.symm), hA]
  refine wp_store_row 32 (.tmp x.d) (.tmp s) hgd p (Ks .u8 256 z).toArray hp hy 32 _ hB' (info_block' _) (by rw [Ks_size, Ks_size]) (Ks_one _ _ _) ?_
  exact hK _ (hB'.setRow z) (only_setRow W p _ hB' (by rw [Ks_size, Ks_size]))
end Go.Proofs.YtnbmmhoofilmfaaDoor.Tb
