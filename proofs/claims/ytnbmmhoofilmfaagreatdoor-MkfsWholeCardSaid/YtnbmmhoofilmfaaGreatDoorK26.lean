/- Texts of this claim, merged by a program (a claim may have 60 files): CopyQ, InvA, Val, Tab. -/
import Derived.Test.YtnbmmhoofilmfaaGreatDoorK06
import Derived.Test.YtnbmmhoofilmfaaGreatDoorK08
/- Small words on frames. No program in sight. -/
namespace Go.Proofs.YtnbmmhoofilmfaaGreatDoor.Tb
open Go.RowKit
set_option linter.unusedVariables false

theorem wpOp_of {P : Program} {ops : Array Oper} {Q : Exit → Act → World → Prop} {i : Nat} {o : Oper} {K : Act → World → Prop} {a : Act} {w : World} (hi : ops[i]? = some o) (hg : o.guard = none) (h : o.wp P a w K Q) : wpOp P ops Q i K a w := by
  unfold wpOp
  rw [hi]
  have : Region.wanted o (yielded ops a.tmps) = true := by unfold Region.wanted; rw [hg]
  simp only [this, if_true]
  exact .inl h
theorem put_size (a : Act) (d : Nat) (v : Value) : (a.put (some d) v).tmps.size = a.tmps.size := by simp [Act.put]
theorem put_same (a : Act) (d : Nat) (v : Value) (h : d < a.tmps.size) : (a.put (some d) v).tmps.getD d undef = v := by simp [Act.put, Array.getD_eq_getD_getElem?, h]
theorem put_other (a : Act) (d s : Nat) (v : Value) (h : s ≠ d) : (a.put (some d) v).tmps.getD s undef = a.tmps.getD s undef := by
  simp only [Act.put, Array.getD_eq_getD_getElem?, Array.getElem?_setIfInBounds_ne (Ne.symm h)]
end Go.Proofs.YtnbmmhoofilmfaaGreatDoor.Tb

/- Operations one by one, for a drawn region by an invariant (XInv). No program in sight. -/
namespace Go.Proofs.YtnbmmhoofilmfaaGreatDoor
open Go.RowKit
set_option linter.unusedVariables false
section
variable {P : Program} {w w' : World} {o : Oper} {a : Act} {K : Act → World → Prop} {Q : Exit → Act → World → Prop}
theorem op_val {v : Value} (hr : (execOp a.eval o).run P w = .ok (.value v) w') (h : K (a.put o.dst v) w') : o.wp P a w K Q := by
  unfold Oper.wp; rw [hr]; exact h
theorem op_skip (hr : (execOp a.eval o).run P w = .ok .skip w') (h : K (a.put o.dst undef) w') : o.wp P a w K Q := by
  unfold Oper.wp; rw [hr]; exact h
theorem op_up {l : Nat → Bool} (hu : upB .any o l = true) (k : Nat) (hk : (o.after.any fun e => Region.binds .any e && e.on == k) = true) : l k = true := by
  unfold upB at hu
  rw [Array.all_eq_true'] at hu
  rw [Array.any_eq_true'] at hk
  obtain ⟨e, he, hb⟩ := hk
  rw [Bool.and_eq_true] at hb
  have := hu e he
  rw [hb.1] at this
  have e2 : e.on = k := by simpa using hb.2
  rw [e2] at this
  simpa using this
theorem op_ldrow (T : TypeId) (p : Operand) (ho : o.op = .load T p) (g : Nat) (cs : Array Value) (d : TypeDesc) (hx : a.eval p = .pointer (some ⟨g, 0, none⟩)) (hI : At w g T cs) (hu : P.underlying T = some d) (hd : (match d with | .struct _ | .array _ _ => true | _ => false) = true)
    (hi : (P.info? T).map (·.size) = some cs.size) (h : K (a.put o.dst (.agg cs)) w) : o.wp P a w K Q := by
  refine op_val ?_ h
  unfold execOp
  simp only [ho, hx, Instr.loadAt, Instr.sureAddr, Sem.run_bind, Sem.run_pure, Result.andThen_ok, run_loadVar_row w g T T cs (0, 0) d hI hu hd hi]
theorem op_ldc (ty : TypeId) (x : Operand) (ho : o.op = .load ty x) (g j : Nat) (v : Value) (hx : a.eval x = .pointer (some ⟨g, j, none⟩))
    (hc : w.cell? ⟨g, j, none⟩ = some v) (hagg : (isAgg ty).run P w = .ok false w) (h : K (a.put o.dst v) w) : o.wp P a w K Q := by
  refine op_val ?_ h
  unfold execOp
  simp only [ho, hx, Instr.loadAt, Instr.sureAddr, Sem.run_bind, Sem.run_pure, Result.andThen_ok]
  simp [loadVar, Sem.run_bind, hagg, hc]
theorem op_len (x : Operand) (t : TypeId) (ho : o.op = .call { callee := .builtin .len, args := #[x], argTypes := #[t] }) (e : TypeId) (hu : P.underlying t = some (.slice e)) (b : Option Addr) (n c : Nat) (hx : a.eval x = .slice b n c) (h : K (a.put o.dst (goInt n)) w) : o.wp P a w K Q := by
  refine op_val (v := goInt n) ?_ h
  simp [execOp, ho, resolve, invoke, builtin, hx, Builtin.len_, run_underlying hu, Result.andThen]
theorem op_move (x : Operand) (ho : o.op = .move x) (v : Value) (hx : a.eval x = v) (h : K (a.put o.dst v) w) : o.wp P a w K Q := by
  refine op_val ?_ h
  simp [execOp, ho, hx]
theorem op_strow (T : TypeId) (p q : Operand) (ho : o.op = .store T p q) (g : Nat) (cs old : Array Value) (hx : a.eval p = .pointer (some ⟨g, 0, none⟩)) (hy : a.eval q = .agg cs) (hI : At w g T old) (hi : (P.info? T).map (·.size) = some cs.size) (hs : old.size = cs.size) (h1 : cs.all (·.oneCell') = true)
    (h : ∀ w', At w' g T cs → Only g w w' → K (a.put o.dst undef) w') : o.wp P a w K Q := by
  refine op_skip (w' := w.setRow g cs) ?_ (h _ (setRow_heap w g _ cs _ _ hI) (only_setRow w g _ hI hs.symm))
  unfold execOp
  simp only [ho, hx, hy, Instr.storeAt, Instr.sureAddr, Sem.run_bind, Sem.run_pure, Result.andThen_ok, run_storeVar_row w g T T old cs hI hi hs h1]
end
end Go.Proofs.YtnbmmhoofilmfaaGreatDoor

/- A drawn region by what each of its operations' values is, whatever came first: over XInv. No program in sight. -/
namespace Go.Proofs.YtnbmmhoofilmfaaGreatDoor.Vl
open Go.RowKit Go.Proofs.YtnbmmhoofilmfaaGreatDoor
set_option linter.unusedVariables false

/-- the slot of operation n -/
def dst (L : List Oper) (n : Nat) : Option Nat := (L[n]?).bind (·.dst)
/-- no two operations have one slot, each lies in the frame -/
def dstB (L : List Oper) (sz : Nat) : Bool :=
  (List.range L.length).all fun n => match dst L n with
    | none => true
    | some d => decide (d < sz) && (List.range L.length).all fun m => m == n || dst L m != some d
theorem dstB_lt {L : List Oper} {sz : Nat} (h : dstB L sz = true) {n d : Nat} (hd : dst L n = some d) : d < sz := by
  unfold dstB at h
  rw [List.all_eq_true] at h
  have hn : n < L.length := by
    unfold dst at hd
    cases hl : L[n]? with
    | none => rw [hl] at hd; cases hd
    | some o => exact (List.getElem?_eq_some_iff.1 hl).1
  have := h n (List.mem_range.2 hn)
  rw [hd] at this
  simp only [Bool.and_eq_true, decide_eq_true_eq] at this
  exact this.1
theorem dstB_ne {L : List Oper} {sz : Nat} (h : dstB L sz = true) {n m d : Nat} (hd : dst L n = some d) (hm : m ≠ n) : dst L m ≠ some d := by
  unfold dstB at h
  rw [List.all_eq_true] at h
  have hn : n < L.length := by
    unfold dst at hd
    cases hl : L[n]? with
    | none => rw [hl] at hd; cases hd
    | some o => exact (List.getElem?_eq_some_iff.1 hl).1
  have h1 := h n (List.mem_range.2 hn)
  rw [hd] at h1
  simp only [Bool.and_eq_true] at h1
  intro e
  have hml : m < L.length := by
    unfold dst at e
    cases hl : L[m]? with
    | none => rw [hl] at e; cases e
    | some o => exact (List.getElem?_eq_some_iff.1 hl).1
  have h2 := (List.all_eq_true.1 h1.2) m (List.mem_range.2 hml)
  rw [e] at h2
  simp [hm] at h2
/-- what holds between the operations: R l W, and of each that has come up V i v W -/
structure I (L : List Oper) (V : Nat → Value → World → Prop) (S : (Nat → Bool) → World → Prop) (a0 : Act) (l : Nat → Bool) (a : Act) (W : World) : Prop where
  defers : a.defers = a0.defers
  size : a.tmps.size = a0.tmps.size
  other : ∀ k, (∀ i, l i = true → dst L i ≠ some k) → a.tmps.getD k undef = a0.tmps.getD k undef
  vals : ∀ i d, l i = true → dst L i = some d → V i (a.tmps.getD d undef) W
  st : S l W
section
variable {P : Program} {L : List Oper} {V : Nat → Value → World → Prop} {S : (Nat → Bool) → World → Prop} {a0 : Act} {l : Nat → Bool} {a : Act} {W W' : World}
/-- operation n has come up with the value v -/
theorem I.next (h : I L V S a0 l a W) {sz : Nat} (hB : dstB L a0.tmps.size = true) (n : Nat) {o : Oper} (ho : L[n]? = some o) (v : Value) (hl : l n = false) (hV : ∀ i v, l i = true → V i v W → V i v W') (hv : V n v W') (hS : S (fun j => j == n || l j) W') :
    I L V S a0 (fun j => j == n || l j) (a.put o.dst v) W' := by
  have hdn : dst L n = o.dst := by unfold dst; rw [ho]; rfl
  cases hd : o.dst with
  | none =>
    refine ⟨h.defers, h.size, fun k hk => h.other k fun i hi => hk i (by show (i == n || l i) = true; rw [hi, Bool.or_true]), fun i d hi he => ?_, hS⟩
    by_cases e : i = n
    · subst e; rw [hdn, hd] at he; cases he
    · have hi' : l i = true := by
        have : (i == n || l i) = true := hi
        rwa [show (i == n) = false by simpa using e, Bool.false_or] at this
      exact hV i _ hi' (h.vals i d hi' he)
  | some d =>
    have hlt := dstB_lt hB (n := n) (d := d) (by rw [hdn, hd])
    refine ⟨h.defers, (Tb.put_size _ _ _).trans h.size, fun k hk => ?_, fun i d' hi he => ?_, hS⟩
    · have hkd : k ≠ d := fun e => hk n (by show (n == n || l n) = true; simp) (by rw [hdn, hd, e])
      rw [Tb.put_other _ _ _ _ hkd]
      exact h.other k fun i hi => hk i (by show (i == n || l i) = true; rw [hi, Bool.or_true])
    · by_cases e : i = n
      · subst e
        rw [hdn, hd] at he
        injection he with he
        subst he
        rw [Tb.put_same _ _ _ (by rw [h.size]; exact hlt)]
        exact hv
      · have hi' : l i = true := by
          have : (i == n || l i) = true := hi
          rwa [show (i == n) = false by simpa using e, Bool.false_or] at this
        have hdd : d' ≠ d := fun e2 => dstB_ne hB (n := n) (d := d) (by rw [hdn, hd]) e (by rw [he, e2])
        rw [Tb.put_other _ _ _ _ hdd]
        exact hV i _ hi' (h.vals i d' hi' he)
/-- an operation without a guard -/
theorem step {ops : Array Oper} {Q : Exit → Act → World → Prop} {n : Nat} {o : Oper} (h : I L V S a0 l a W) (hB : dstB L a0.tmps.size = true) (hn : ops[n]? = some o) (hnL : L[n]? = some o) (hg : o.guard = none) (hl : l n = false)
    (hw : o.wp P a W (fun a' W' => ∃ v, a' = a.put o.dst v ∧ (∀ i v, l i = true → V i v W → V i v W') ∧ V n v W' ∧ S (fun j => j == n || l j) W') Q) : wpOp P ops Q n (I L V S a0 (fun j => j == n || l j)) a W := by
  refine Tb.wpOp_of hn hg ?_
  refine Oper.wp_mono (fun a' W' h' => ?_) hw
  obtain ⟨v, rfl, h1, h2, h3⟩ := h'
  exact h.next (sz := 0) hB n hnL v hl h1 h2 h3
end
end Go.Proofs.YtnbmmhoofilmfaaGreatDoor.Vl

/- A drawn region of plain operations, new blocks and stores into these, in whatever order they may come: by one walk of its plain operations in their text's order. No program in sight. -/
namespace Go.Proofs.YtnbmmhoofilmfaaGreatDoor.Tb
open Go.RowKit
set_option linter.unusedVariables false

def inSt (sk : List (Nat × Nat × Nat)) (n : Nat) : Bool := sk.any fun x => x.2.2 == n
def inAl (sk : List (Nat × Nat × Nat)) (n : Nat) : Bool := sk.any fun x => x.1 == n
def readsT (o : Oper) (s : Nat) : Bool := o.op.operands.toList.any fun x => match x with | .tmp t => t == s | _ => false
section
variable {P : Program}
theorem eval_same {a b : Act} {x : Operand} (h : ∀ s, x = .tmp s → a.tmps.getD s undef = b.tmps.getD s undef) : a.eval x = b.eval x := by
  cases x with
  | tmp t => exact h t rfl
  | const v => rfl
  | global g => rfl
  | func f => rfl
theorem reads_mem {o : Oper} {x : Operand} {s : Nat} (hx : x ∈ o.op.operands) (he : x = .tmp s) : readsT o s = true := by
  unfold readsT
  rw [List.any_eq_true]
  exact ⟨x, by simpa using hx, by rw [he]; simp⟩
/-- the last frame of a plain walk holds each operation's value, and each operation yields it there -/
theorem walk_get {ops : Array Oper} {C : World → Prop} {A : Act} : ∀ (l : List Oper) (a : Act), (∀ o ∈ l, o.guard = none ∧ (∀ cs b, o.op ≠ .select cs b) ∧ ∃ d, o.dst = some d ∧ d < a.tmps.size) → l.Pairwise (fun x y => x.dst ≠ y.dst ∧ (∀ d, y.dst = some d → readsT x d = false)) → (∀ o ∈ l, ∀ d, o.dst = some d → readsT o d = false) →
    wpQuiet P ops C (fun a' => a' = A) l a → A.defers = a.defers ∧ A.tmps.size = a.tmps.size ∧ (∀ s, (∀ o ∈ l, o.dst ≠ some s) → A.tmps.getD s undef = a.tmps.getD s undef) ∧ ∀ o ∈ l, ∀ d, o.dst = some d → ∀ w, C w → o.quietAt P A C w (A.tmps.getD d undef)
  | [], a, _, _, _, h => by
    have h : a = A := h
    subst h
    exact ⟨rfl, rfl, fun _ _ => rfl, fun o ho => by cases ho⟩
  | o :: l, a, hg, hp, hr, h => by
    obtain ⟨hgo, hso, d, hd, hlt⟩ := hg o (by simp)
    obtain ⟨hp1, hp2⟩ := List.pairwise_cons.1 hp
    unfold wpQuiet at h
    rw [if_pos (by unfold Region.wanted; rw [hgo])] at h
    obtain ⟨v, hv, hk⟩ := h
    rw [hd] at hk
    obtain ⟨i1, i2, i3, i4⟩ := walk_get l (a.put (some d) v) (fun o' ho' => by
      obtain ⟨h1, h2, d', h3, h4⟩ := hg o' (by simp [ho'])
      exact ⟨h1, h2, d', h3, by rw [put_size]; exact h4⟩) hp2 (fun o' ho' => hr o' (by simp [ho'])) hk
    have hAd : A.tmps.getD d undef = v := by
      rw [i3 d (fun o' ho' e => (hp1 o' ho').1 (hd.trans e.symm))]
      exact put_same _ _ _ hlt
    have hoth : ∀ s, (∀ o' ∈ o :: l, o'.dst ≠ some s) → A.tmps.getD s undef = a.tmps.getD s undef := fun s hs => by
      rw [i3 s (fun o' ho' => hs o' (by simp [ho']))]
      exact put_other _ _ _ _ (fun e => hs o (by simp) (by rw [hd, e]))
    refine ⟨i1, i2.trans (put_size _ _ _), hoth, ?_⟩
    intro o' ho' d' hd' w hw
    rcases List.mem_cons.1 ho' with rfl | ho'
    · have e : d = d' := by rw [hd] at hd'; injection hd'
      subst e
      rw [hAd]
      have := hv w hw
      unfold Oper.quietAt at this ⊢
      rw [execOp_congr (ρ := A.eval) (ρ' := a.eval) o' hso fun x hx => eval_same fun s hs => ?_]
      · exact this
      · refine hoth s fun o2 ho2 e => ?_
        have h1 := reads_mem hx hs
        rcases List.mem_cons.1 ho2 with rfl | ho2
        · rw [hr o2 (by simp) s e] at h1; cases h1
        · rw [(hp1 o2 ho2).2 s e] at h1; cases h1
    · exact i4 o' ho' d' hd' w hw

structure Ok (md : Region.Mode) (L : List Oper) (sk : List (Nat × Nat × Nat)) (i : Nat) (o : Oper) : Prop where
  g : o.guard = none
  s : ∀ cs b, o.op ≠ .select cs b
  r : ∀ j oj d, L[j]? = some oj → oj.dst = some d → readsT o d = true → ∃ e ∈ o.after, Region.binds md e = true ∧ e.on = j
  d : ∀ j oj d, L[j]? = some oj → oj.dst = some d → j ≠ i → o.dst ≠ some d
  a : ∀ j oj d, L[j]? = some oj → oj.dst = some d → inAl sk j = true → inSt sk i = false → readsT o d = false
  st : inSt sk i = true → o.dst = none ∧ inAl sk i = false ∧ ∀ x ∈ sk, x.2.2 = i → ∃ e ∈ o.after, Region.binds md e = true ∧ e.on = x.1
  ns : inSt sk i = false → (∃ d, o.dst = some d) ∧ ∀ x ∈ sk, (x.1 = i → o.dst = some x.2.1) ∧ (x.1 ≠ i → o.dst ≠ some x.2.1)
theorem steps_of {md : Region.Mode} {ops : Array Oper} {Q : Exit → Act → World → Prop} {I : (Nat → Bool) → Act → World → Prop} : ∀ (l : List Oper) (n : Nat), (∀ i o, l[i]? = some o → ∀ l' a w, l' (n + i) = false → upB md o l' = true → I l' a w → wpOp P ops Q (n + i) (I (fun j => j == (n + i) || l' j)) a w) → StepsI P md ops Q I n l
  | [], _, _ => trivial
  | o :: l, n, h => ⟨fun l' a w h1 h2 h3 => h 0 o rfl l' a w h1 h2 h3, steps_of l (n + 1) fun i o' hi l' a w h1 h2 h3 => by
      have := h (i + 1) o' (by simpa using hi) l' a w (by rw [show n + (i + 1) = n + 1 + i by omega]; exact h1) h2 h3
      rwa [show n + (i + 1) = n + 1 + i by omega] at this⟩
theorem up_of {md : Region.Mode} {o : Oper} {l : Nat → Bool} (h : upB md o l = true) {e : Edge} (he : e ∈ o.after) (hb : Region.binds md e = true) : l e.on = true := by
  unfold upB at h
  rw [Array.all_eq_true'] at h
  have := h e he
  rwa [hb, Bool.not_true, Bool.false_or] at this
end
end Go.Proofs.YtnbmmhoofilmfaaGreatDoor.Tb
