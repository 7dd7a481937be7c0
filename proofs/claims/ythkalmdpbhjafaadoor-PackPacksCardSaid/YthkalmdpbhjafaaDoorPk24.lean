/- quernref15.Twin: a copy of a transaction, of one's own. Printed by gen_pk24.py. -/
import Derived.Test.YthkalmdpbhjafaaDoorMg2
import Derived.Test.YthkalmdpbhjafaaDoorMg2
namespace Go.Proofs.YthkalmdpbhjafaaDoor
open Go.RowKit
set_option linter.unusedVariables false

/-- a copy of a row, anywhere in a region -/
theorem wp_copyO {P : Program} {w : World} {o : Oper} {a : Act} {K : Act → World → Prop} {Q : Exit → Act → World → Prop} (s x : Operand) (t : TypeId)
    (ho : o.op = .call { callee := .builtin .append, args := #[s, x], argTypes := #[t, t] })
    (base : Nat) (e : TypeId) (i : TypeInfo) (z : Value) (size bytes : Nat) (ht : P.underlying t = some (.slice e)) (hi : P.info? e = some i) (hz : i.zero = some z)
    (hsize : i.size = size) (hby : i.bytes = bytes) (hzs : z.cells.size = size) (hsz : 0 < size) (g : Nat) (hs : a.eval s = .slice (some ⟨g, 0, none⟩) 0 0) (hown : w.ownsRow base e size (.slice (some ⟨g, 0, none⟩) 0 0) 0 [])
    (xa : Option Addr) (n c : Nat) (news : List Value) (hx : a.eval x = .slice xa n c) (hc : xa = none → n = 0 ∧ c = 0) (hl : news.length = n * size)
    (hnews : ∀ ad, xa = some ad → ∀ j u, news[j]? = some u → w.cell? (ad.add j) = some u) (h1 : ∀ u ∈ news, u.oneCell' = true) (h63 : n ≤ maxLen) (hbytes : n * bytes ≤ 140737488355328) (hbase : base ≤ w.heap.size)
    (h : ∀ v' w', w'.ownsRow base e size v' n news → w.grownBy w' (some g) → K (a.put o.dst v') w') : o.wp P a w K Q := by
  cases xa with
  | some ad =>
    refine wp_append_own w s x t ho base e i z size bytes ht hi hz hsize hby hzs hsz _ 0 [] hs hown ad n c news hx hl (hnews ad rfl) h1 (by omega) (by rw [Nat.zero_add]; exact hbytes) hbase (fun v' w' h2 h3 _ => h v' w' ?_ h3)
    rw [Nat.zero_add, List.nil_append] at h2; exact h2
  | none =>
    obtain ⟨rfl, rfl⟩ := hc rfl
    have : news = [] := by simpa using hl
    subst this
    have hrun := run_append_owned_none (P := P) (w := w) base t o.type e i size ht hi _ 0 [] hown
    unfold Oper.wp
    simp [execOp, ho, resolve, invoke, builtin, hs, hx, hrun, Result.andThen]
    exact h _ _ hown ⟨rfl, rfl, rfl, Nat.le_refl _, fun _ _ _ => rfl⟩
theorem wp_ldc {P : Program} {w : World} {o : Oper} {a : Act} {K : Act → World → Prop} {Q : Exit → Act → World → Prop} (ty : TypeId) (x : Operand) (ho : o.op = .load ty x) (g j : Nat) (v : Value) (hx : a.eval x = .pointer (some ⟨g, j, none⟩))
    (hc : w.cell? ⟨g, j, none⟩ = some v) (hagg : (isAgg ty).run P w = .ok false w) (h : K (a.put o.dst v) w) : o.wp P a w K Q := by
  unfold Oper.wp execOp
  simp only [ho, hx, Instr.loadAt, Instr.sureAddr, Sem.run_bind, Sem.run_pure, Result.andThen_ok]
  simp [loadVar, Sem.run_bind, hagg, hc]
  exact h
theorem wp_bs0 {w : World} {o : Oper} {a : Act} {K : Act → World → Prop} {Q : Exit → Act → World → Prop} (t e : TypeId) (ho : o.op = .buildSlice t 0 #[]) (hb : ∀ W : World, (Instr.buildSlice t 0 #[]).run Tryd.prog W = .ok (.slice (some ⟨W.heap.size, 0, none⟩) 0 0) (W.alloc (.cells #[] e)))
    (h : K (a.put o.dst (.slice (some ⟨w.heap.size, 0, none⟩) 0 0)) (w.alloc (.cells #[] e))) : o.wp Tryd.prog a w K Q := by
  unfold Oper.wp execOp
  simp [ho, hb]
  exact h
theorem run_cps0 (W : World) : (Instr.buildSlice 26 0 #[]).run Tryd.prog W = .ok (.slice (some ⟨W.heap.size, 0, none⟩) 0 0) (W.alloc (.cells #[] 61)) := by kernel_rfl
theorem run_ints00 (W : World) : (Instr.buildSlice 24 0 #[]).run Tryd.prog W = .ok (.slice (some ⟨W.heap.size, 0, none⟩) 0 0) (W.alloc (.cells #[] 3)) := by kernel_rfl
theorem build_trans3 (s : Int) (ca : Option Addr) (n cc : Nat) (ra : Option Addr) (m rc : Nat) (w : World) : (Instr.build 28 #[(0, .int .u32 s), (1, .slice ca n cc), (2, .slice ra m rc)]).run Tryd.prog w = .ok (.agg (tcells s ca n cc ra m rc)) w := by kernel_rfl

/-- both rows copied -/
def Two2 (p1 : Nat) (n m : Nat) (C R : Nat → List Value) (ga : Option Addr) (gc : Nat) (ha : Option Addr) (hc : Nat) (W : World) : Prop :=
  RMine W (p1 + 2) 61 257 (.slice ga n gc) n C ∧ RMine W (p1 + 2) 3 1 (.slice ha m hc) m R
/-- what an operation's slot holds -/
def PvT (p1 : Nat) (s : Int) (ca : Option Addr) (n cc : Nat) (ra : Option Addr) (m rc : Nat) (C R : Nat → List Value) (W : World) : Nat → Value → Prop
  | 0, v => v = .pointer (some ⟨p1, 0, none⟩)
  | 1, v => v = .int .u32 s
  | 3, v => v = .pointer (some ⟨p1, 1, none⟩)
  | 4, v => v = .slice ca n cc
  | 5, v => ∃ ga gc, v = .slice ga n gc ∧ RMine W (p1 + 2) 61 257 (.slice ga n gc) n C
  | 7, v => v = .pointer (some ⟨p1, 2, none⟩)
  | 8, v => v = .slice ra m rc
  | 9, v => ∃ ha hc, v = .slice ha m hc ∧ RMine W (p1 + 2) 3 1 (.slice ha m hc) m R
  | 10, v => ∃ ga gc ha hc, v = tval s ga n gc ha m hc ∧ Two2 p1 n m C R ga gc ha hc W
  | _, _ => True
/-- what holds between the operations of Twin's region -/
structure TwI (p1 : Nat) (s : Int) (ca : Option Addr) (n cc : Nat) (ra : Option Addr) (m rc : Nat) (C R : Nat → List Value) (a : Act) (w : World) (l : Nat → Bool) (a' : Act) (W : World) : Prop where
  defers : a'.defers = a.defers
  size : a'.tmps.size = 14
  other : ∀ k, k < 3 → a'.tmps.getD k undef = a.tmps.getD k undef
  x : At W p1 28 (tcells s ca n cc ra m rc)
  c : RRow W ca 257 n C
  r : RRow W ra 1 m R
  y : l 11 = false → At W (p1 + 1) 28 (tcells 0 none 0 0 none 0 0)
  z : l 11 = true → ∃ ga gc ha hc, At W (p1 + 1) 28 (tcells s ga n gc ha m hc) ∧ Two2 p1 n m C R ga gc ha hc W
  bel : Below p1 w W
  vals : ∀ i, i < 11 → l i = true → PvT p1 s ca n cc ra m rc C R W i (a'.tmps.getD (i + 3) undef)
  g2 : l 2 = true → l 5 = false → ∃ g, a'.tmps.getD 5 undef = .slice (some ⟨g, 0, none⟩) 0 0 ∧ W.ownsRow (p1 + 2) 61 257 (.slice (some ⟨g, 0, none⟩) 0 0) 0 []
  g6 : l 6 = true → l 9 = false → ∃ g, a'.tmps.getD 9 undef = .slice (some ⟨g, 0, none⟩) 0 0 ∧ W.ownsRow (p1 + 2) 3 1 (.slice (some ⟨g, 0, none⟩) 0 0) 0 []
  w5 : l 5 = true → l 2 = true
  w9 : l 9 = true → l 6 = true
  w10 : l 10 = true → l 5 = true ∧ l 9 = true
  w11 : l 11 = true → l 10 = true
  sz : p1 + 2 ≤ W.heap.size
section
variable {p1 : Nat} {s : Int} {ca : Option Addr} {n cc : Nat} {ra : Option Addr} {m rc : Nat} {C R : Nat → List Value} {a : Act} {w : World} {l : Nat → Bool} {a' : Act} {W : World}
/-- an operation that leaves the world alone -/
theorem TwI.quiet (h : TwI p1 s ca n cc ra m rc C R a w l a' W) (i : Nat) (hi : i < 11) (hi5 : i ≠ 2 ∧ i ≠ 5 ∧ i ≠ 6 ∧ i ≠ 9) (v : Value) (hv : PvT p1 s ca n cc ra m rc C R W i v) (h10 : i = 10 → l 5 = true ∧ l 9 = true) :
    TwI p1 s ca n cc ra m rc C R a w (fun j => j == i || l j) (a'.put (some (i + 3)) v) W := by
  have hne : ∀ j, j ≠ i → (j == i || l j) = l j := fun j hj => by rw [show (j == i) = false by simpa using hj, Bool.false_or]
  have h11 := hne 11 (by omega)
  have h2 := hne 2 (by omega)
  have h5 := hne 5 (by omega)
  have h6 := hne 6 (by omega)
  have h9 := hne 9 (by omega)
  refine ⟨h.defers, by rw [Tb.put_size]; exact h.size, fun k hk => (Tb.put_other _ _ _ _ (by omega)).trans (h.other k hk), h.x, h.c, h.r, fun e => h.y (h11 ▸ e), fun e => h.z (h11 ▸ e), h.bel, fun j hj hl => ?_, fun e1 e2 => ?_, fun e1 e2 => ?_, ?_, ?_, ?_, ?_, h.sz⟩
  · by_cases hji : j = i
    · subst hji
      rw [Tb.put_same _ _ _ (by rw [h.size]; omega)]
      exact hv
    · rw [Tb.put_other _ _ _ _ (by omega)]
      exact h.vals j hj (hne j hji ▸ hl)
  · rw [Tb.put_other _ _ _ _ (by omega)]
    exact h.g2 (h2 ▸ e1) (h5 ▸ e2)
  · rw [Tb.put_other _ _ _ _ (by omega)]
    exact h.g6 (h6 ▸ e1) (h9 ▸ e2)
  · show (5 == i || l 5) = true → (2 == i || l 2) = true
    rw [h2, h5]; exact h.w5
  · show (9 == i || l 9) = true → (6 == i || l 6) = true
    rw [h6, h9]; exact h.w9
  · show (10 == i || l 10) = true → (5 == i || l 5) = true ∧ (9 == i || l 9) = true
    rw [h5, h9]
    by_cases e : i = 10
    · exact fun _ => h10 e
    · rw [hne 10 (by omega)]; exact h.w10
  · show (11 == i || l 11) = true → (10 == i || l 10) = true
    rw [h11]
    intro e
    rw [h.w11 e, Bool.or_true]
/-- an operation that makes or copies a row -/
theorem TwI.mem (h : TwI p1 s ca n cc ra m rc C R a w l a' W) (i : Nat) (hi : i < 10) (hli : l i = false) (hi5 : i = 2 ∨ i = 5 ∨ i = 6 ∨ i = 9) (v : Value) {W' : World} {row : Option Nat} (hg : W.grownBy W' row) (hrow : ∀ q, row = some q → p1 + 2 ≤ q)
    (hca : ∀ b off, ca = some ⟨b, off, none⟩ → 0 < n → b < p1) (hra : ∀ b off, ra = some ⟨b, off, none⟩ → 0 < m → b < p1)
    (hv : PvT p1 s ca n cc ra m rc C R W' i v)
    (hoC : ∀ k u xs, W.ownsRow (p1 + 2) 61 257 u k xs → i = 6 ∨ i = 9 → W'.ownsRow (p1 + 2) 61 257 u k xs) (hoR : ∀ k u xs, W.ownsRow (p1 + 2) 3 1 u k xs → i = 2 ∨ i = 5 → W'.ownsRow (p1 + 2) 3 1 u k xs)
    (h2 : i = 2 → ∃ g, v = .slice (some ⟨g, 0, none⟩) 0 0 ∧ W'.ownsRow (p1 + 2) 61 257 (.slice (some ⟨g, 0, none⟩) 0 0) 0 []) (h6 : i = 6 → ∃ g, v = .slice (some ⟨g, 0, none⟩) 0 0 ∧ W'.ownsRow (p1 + 2) 3 1 (.slice (some ⟨g, 0, none⟩) 0 0) 0 [])
    (h5 : i = 5 → l 2 = true) (h9 : i = 9 → l 6 = true) :
    TwI p1 s ca n cc ra m rc C R a w (fun j => j == i || l j) (a'.put (some (i + 3)) v) W' := by
  have hne : ∀ j, j ≠ i → (j == i || l j) = l j := fun j hj => by rw [show (j == i) = false by simpa using hj, Bool.false_or]
  have h11 := hne 11 (by omega)
  have e5 : l 5 = true → i ≠ 5 ∧ i ≠ 2 := fun e => ⟨fun e2 => (by rw [e2, e] at hli; cases hli), fun e2 => (by rw [e2, h.w5 e] at hli; cases hli)⟩
  have e9 : l 9 = true → i ≠ 9 ∧ i ≠ 6 := fun e => ⟨fun e2 => (by rw [e2, e] at hli; cases hli), fun e2 => (by rw [e2, h.w9 e] at hli; cases hli)⟩
  have e10 : l 10 = false := by
    cases e : l 10 with
    | false => rfl
    | true => obtain ⟨q1, q2⟩ := h.w10 e; have := e5 q1; have := e9 q2; omega
  have e11 : l 11 = false := by
    cases e : l 11 with
    | false => rfl
    | true => rw [h.w11 e] at e10; cases e10
  refine ⟨h.defers, by rw [Tb.put_size]; exact h.size, fun k hk => (Tb.put_other _ _ _ _ (by omega)).trans (h.other k hk), AtGrown h.x hg (fun e => by have := hrow _ e; omega),
    RRowG h.c hg (fun b off e h0 => ⟨by have := hca b off e h0; have := h.sz; omega, fun e2 => by have := hrow _ e2; have := hca b off e h0; omega⟩), RRowG h.r hg (fun b off e h0 => ⟨by have := hra b off e h0; have := h.sz; omega, fun e2 => by have := hrow _ e2; have := hra b off e h0; omega⟩),
    fun e => AtGrown (h.y (h11 ▸ e)) hg (fun e => by have := hrow _ e; omega), fun e => ?_, h.bel.grown hg (by have := h.sz; omega) (fun q e => by have := hrow q e; omega), fun j hj hl => ?_, fun q1 q2 => ?_, fun q1 q2 => ?_, ?_, ?_, ?_, ?_, by have := h.sz; have := hg.size; omega⟩
  · rw [h11, e11] at e; cases e
  · by_cases hji : j = i
    · subst hji
      rw [Tb.put_same _ _ _ (by rw [h.size]; omega)]
      exact hv
    · rw [Tb.put_other _ _ _ _ (by omega)]
      have hl' : l j = true := hne j hji ▸ hl
      have hv' := h.vals j hj hl'
      match j, hj, hl', hv' with
      | 0, _, _, hv' => exact hv'
      | 1, _, _, hv' => exact hv'
      | 2, _, _, _ => trivial
      | 3, _, _, hv' => exact hv'
      | 4, _, _, hv' => exact hv'
      | 5, _, hl', hv' =>
        obtain ⟨ga, gc, q1, q2⟩ := hv'
        have := e5 hl'
        exact ⟨ga, gc, q1, hoC _ _ _ q2 (by omega)⟩
      | 6, _, _, _ => trivial
      | 7, _, _, hv' => exact hv'
      | 8, _, _, hv' => exact hv'
      | 9, _, hl', hv' =>
        obtain ⟨ga, gc, q1, q2⟩ := hv'
        have := e9 hl'
        exact ⟨ga, gc, q1, hoR _ _ _ q2 (by omega)⟩
      | 10, _, hl', _ => rw [e10] at hl'; cases hl'
  · by_cases hi2 : i = 2
    · subst hi2
      rw [Tb.put_same _ _ _ (by rw [h.size]; omega)]
      exact h2 rfl
    · rw [Tb.put_other _ _ _ _ (by omega)]
      have q1' : l 2 = true := hne 2 (by omega) ▸ q1
      by_cases hi5' : i = 5
      · rw [hi5'] at q2; cases q2
      · obtain ⟨g, r1, r2⟩ := h.g2 q1' (hne 5 (by omega) ▸ q2)
        exact ⟨g, r1, hoC _ _ _ r2 (by omega)⟩
  · by_cases hi2 : i = 6
    · subst hi2
      rw [Tb.put_same _ _ _ (by rw [h.size]; omega)]
      exact h6 rfl
    · rw [Tb.put_other _ _ _ _ (by omega)]
      have q1' : l 6 = true := hne 6 (by omega) ▸ q1
      by_cases hi5' : i = 9
      · rw [hi5'] at q2; cases q2
      · obtain ⟨g, r1, r2⟩ := h.g6 q1' (hne 9 (by omega) ▸ q2)
        exact ⟨g, r1, hoR _ _ _ r2 (by omega)⟩
  · show (5 == i || l 5) = true → (2 == i || l 2) = true
    by_cases e : i = 5
    · rw [h5 e, Bool.or_true]; exact fun _ => rfl
    · rw [hne 5 (by omega)]
      intro q; rw [h.w5 q, Bool.or_true]
  · show (9 == i || l 9) = true → (6 == i || l 6) = true
    by_cases e : i = 9
    · rw [h9 e, Bool.or_true]; exact fun _ => rfl
    · rw [hne 9 (by omega)]
      intro q; rw [h.w9 q, Bool.or_true]
  · show (10 == i || l 10) = true → (5 == i || l 5) = true ∧ (9 == i || l 9) = true
    rw [hne 10 (by omega), e10]
    intro q; cases q
  · show (11 == i || l 11) = true → (10 == i || l 10) = true
    rw [h11, e11]
    intro q; cases q
/-- the store that ends it -/
theorem TwI.last (h : TwI p1 s ca n cc ra m rc C R a w l a' W) {ga : Option Addr} {gc : Nat} {ha : Option Addr} {hc : Nat} (hY : At W (p1 + 1) 28 (tcells 0 none 0 0 none 0 0)) (q2 : RMine W (p1 + 2) 61 257 (.slice ga n gc) n C) (q3 : RMine W (p1 + 2) 3 1 (.slice ha m hc) m R) (k10 : l 10 = true)
    (hca : ∀ b off, ca = some ⟨b, off, none⟩ → 0 < n → b < p1) (hra : ∀ b off, ra = some ⟨b, off, none⟩ → 0 < m → b < p1) :
    TwI p1 s ca n cc ra m rc C R a w (fun j => j == 11 || l j) a' (W.setRow (p1 + 1) (tcells s ga n gc ha m hc)) := by
  have ho := only_setRow W (p1 + 1) (tcells s ga n gc ha m hc) hY rfl
  have hP : At (W.setRow (p1 + 1) (tcells s ga n gc ha m hc)) (p1 + 1) 28 (tcells s ga n gc ha m hc) := setRow_heap W _ _ _ _ _ hY
  have hoC : ∀ k u xs, W.ownsRow (p1 + 2) 61 257 u k xs → (W.setRow (p1 + 1) (tcells s ga n gc ha m hc)).ownsRow (p1 + 2) 61 257 u k xs := fun k u xs hh => own_only hh ho (fun e => by have := (World.ownsRow.lt hh _ e).1; omega)
  have hoR : ∀ k u xs, W.ownsRow (p1 + 2) 3 1 u k xs → (W.setRow (p1 + 1) (tcells s ga n gc ha m hc)).ownsRow (p1 + 2) 3 1 u k xs := fun k u xs hh => own_only hh ho (fun e => by have := (World.ownsRow.lt hh _ e).1; omega)
  have w10 := h.w10 k10
  have hne : ∀ j, j < 11 → (j == 11 || l j) = l j := fun j hj => by rw [show (j == 11) = false by simp; omega, Bool.false_or]
  refine ⟨h.defers, h.size, h.other, h.x.only ho (by omega), RRowO h.c ho (fun b off e h0 => by have := hca b off e h0; omega), RRowO h.r ho (fun b off e h0 => by have := hra b off e h0; omega), (fun e => by cases e), fun _ => ⟨ga, gc, ha, hc, hP, hoC _ _ _ q2, hoR _ _ _ q3⟩, h.bel.trans (ho.below (by omega)), fun j hj hl => ?_, fun e1 e2 => ?_, fun e1 e2 => ?_, h.w5, h.w9, h.w10, fun _ => k10, by have := h.sz; have := ho.size; omega⟩
  · have hl' : l j = true := hne j hj ▸ hl
    have hv' := h.vals j hj hl'
    match j, hj, hv' with
    | 0, _, hv' => exact hv'
    | 1, _, hv' => exact hv'
    | 2, _, _ => trivial
    | 3, _, hv' => exact hv'
    | 4, _, hv' => exact hv'
    | 5, _, hv' =>
      obtain ⟨ga, gc, q1, q2⟩ := hv'
      exact ⟨ga, gc, q1, hoC _ _ _ q2⟩
    | 6, _, _ => trivial
    | 7, _, hv' => exact hv'
    | 8, _, hv' => exact hv'
    | 9, _, hv' =>
      obtain ⟨ga, gc, q1, q2⟩ := hv'
      exact ⟨ga, gc, q1, hoR _ _ _ q2⟩
    | 10, _, hv' =>
      obtain ⟨ga, gc, ha, hc, q1, q2, q3⟩ := hv'
      exact ⟨ga, gc, ha, hc, q1, hoC _ _ _ q2, hoR _ _ _ q3⟩
  · have e2' : l 5 = false := e2
    rw [w10.1] at e2'; cases e2'
  · have e2' : l 9 = false := e2
    rw [w10.2] at e2'; cases e2'
end
theorem Tw.up {o : Oper} {l : Nat → Bool} (hu : upB .any o l = true) (k : Nat) (hk : (o.after.any fun e => Region.binds .any e && e.on == k) = true) : l k = true := by
  unfold upB at hu
  rw [Array.all_eq_true'] at hu
  rw [Array.any_eq_true'] at hk
  obtain ⟨e, he, hb⟩ := hk
  rw [Bool.and_eq_true] at hb
  have := hu e he
  rw [hb.1] at this
  have e2 : e.on = k := by simpa using hb.2
  rw [e2] at this
  simpa using this
theorem Tw.gr (W : World) (o : Obj) : W.grownBy (W.alloc o) none := ⟨rfl, rfl, rfl, by simp, fun k hk _ => by rw [heap_alloc_keep (w := W) (Array.getElem?_eq_getElem hk) o, Array.getElem?_eq_getElem hk]⟩
theorem Tw.addr {w : World} {o : Oper} {a : Act} {K : Act → World → Prop} {Q : Exit → Act → World → Prop} {k g : Nat} (ho : o.op = .fieldAddr 28 (.tmp 1) k) (hx : a.tmps.getD 1 undef = .pointer (some ⟨g, 0, none⟩)) (h : K (a.put o.dst (.pointer (some ⟨g, k, none⟩))) w) (hk : k < 3 := by omega) : o.wp Tryd.prog a w K Q := by
  have hx' : a.eval (.tmp 1) = .pointer (some ⟨g, 0, none⟩) := hx
  have hr : ∀ W : World, (Instr.fieldAt 28 (.pointer (some ⟨g, 0, none⟩)) k).run Tryd.prog W = .ok (.pointer (some ⟨g, k, none⟩)) W := by
    have : k = 0 ∨ k = 1 ∨ k = 2 := by omega
    rcases this with rfl | rfl | rfl <;> intro W <;> kernel_rfl
  unfold Oper.wp execOp
  simp only [ho, hx', Sem.run_bind, hr, Result.andThen_ok]
  exact h
theorem Tw.build {w : World} {o : Oper} {a : Act} {K : Act → World → Prop} {Q : Exit → Act → World → Prop} {s : Int} {ca : Option Addr} {n cc : Nat} {ra : Option Addr} {m rc : Nat} (ho : o.op = .build 28 #[(0, .tmp 4), (1, .tmp 8), (2, .tmp 12)]) (h4 : a.tmps.getD 4 undef = .int .u32 s) (h8 : a.tmps.getD 8 undef = .slice ca n cc) (h12 : a.tmps.getD 12 undef = .slice ra m rc)
    (h : K (a.put o.dst (tval s ca n cc ra m rc)) w) : o.wp Tryd.prog a w K Q := by
  have h4' : a.eval (.tmp 4) = .int .u32 s := h4
  have h8' : a.eval (.tmp 8) = .slice ca n cc := h8
  have h12' : a.eval (.tmp 12) = .slice ra m rc := h12
  have hr := build_trans3 s ca n cc ra m rc w
  unfold Oper.wp execOp
  simp only [ho, List.map_toArray, List.map_cons, List.map_nil, h4', h8', h12', Sem.run_bind, hr, Result.andThen_ok]
  exact h
theorem results_t2 {fn : Func} (h : fn.results = #[.cell 2 28]) (tmps : Array Value) (W : World) (g : Nat) {s : Int} {ca : Option Addr} {n cc : Nat} {ra : Option Addr} {m rc : Nat}
    (hp : tmps.getD 2 undef = .pointer (some ⟨g, 0, none⟩)) (hg : At W g 28 (tcells s ca n cc ra m rc)) : (results fn tmps).run Tryd.prog W = .ok (tval s ca n cc ra m rc) W := by
  have hp' : tmps[2]?.getD undef = .pointer (some ⟨g, 0, none⟩) := by simpa using hp
  simp [results, h, hp', asAddr, run_loadVar_row W g 28 28 _ (0, 0) _ hg Tryd.underlying28 rfl (info_trans s ca n cc ra m rc)]

set_option maxRecDepth 100000 in
set_option maxHeartbeats 8000000 in
theorem twin_any (s : Int) (ca : Option Addr) (n cc : Nat) (ra : Option Addr) (m rc : Nat) (cb : Nat → Int) (cd : Nat → Nat → Int) (rv : Nat → Int) (hn : n ≤ 400) (hm : m ≤ 3000) (hcn : ca = none → n = 0 ∧ cc = 0) (hrn : ra = none → m = 0 ∧ rc = 0) (w : World) (hc : RRow w ca 257 n (cpF cb cd)) (hr : RRow w ra 1 m (inF rv))
    (hca : ∀ b off, ca = some ⟨b, off, none⟩ → b < w.heap.size) (hra : ∀ b off, ra = some ⟨b, off, none⟩ → b < w.heap.size) :
    Calls Tryd.prog 13 #[tval s ca n cc ra m rc] w fun e w' => ∃ ga gc ha hc, e = .returned (tval s ga n gc ha m hc) ∧ RMine w' (w.heap.size + 2) 61 257 (.slice ga n gc) n (cpF cb cd) ∧ RMine w' (w.heap.size + 2) 3 1 (.slice ha m hc) m (inF rv) ∧ Below w.heap.size w w' := by
  have halt := zero_trans
  have hx0 : At ((w.alloc (.cells (tcells s ca n cc ra m rc) 28)).alloc (.cells (tcells 0 none 0 0 none 0 0) 28)) w.heap.size 28 (tcells s ca n cc ra m rc) := (At.new w _ _).alloc _
  have hy0 : At ((w.alloc (.cells (tcells s ca n cc ra m rc) 28)).alloc (.cells (tcells 0 none 0 0 none 0 0) 28)) (w.heap.size + 1) 28 (tcells 0 none 0 0 none 0 0) := by
    have := At.new (w.alloc (.cells (tcells s ca n cc ra m rc) 28)) 28 (tcells 0 none 0 0 none 0 0)
    simp only [World.size_alloc] at this
    exact this
  have hc0 := (hc.alloc (.cells (tcells s ca n cc ra m rc) 28)).alloc (.cells (tcells 0 none 0 0 none 0 0) 28)
  have hr0 := (hr.alloc (.cells (tcells s ca n cc ra m rc) 28)).alloc (.cells (tcells 0 none 0 0 none 0 0) 28)
  have hb0 : Below w.heap.size w ((w.alloc (.cells (tcells s ca n cc ra m rc) 28)).alloc (.cells (tcells 0 none 0 0 none 0 0) 28)) := ((Below.refl w.heap.size w).alloc (Nat.le_refl _) _).alloc (by simp) _
  have hs0 : w.heap.size + 2 ≤ ((w.alloc (.cells (tcells s ca n cc ra m rc) 28)).alloc (.cells (tcells 0 none 0 0 none 0 0) 28)).heap.size := by simp
  obtain ⟨W0, hW0⟩ : ∃ W, W = ((w.alloc (.cells (tcells s ca n cc ra m rc) 28)).alloc (.cells (tcells 0 none 0 0 none 0 0) 28)) := ⟨_, rfl⟩
  have hgo : ((w.alloc (.cells (tcells s ca n cc ra m rc) 28)).alloc (.cells (tcells 0 none 0 0 none 0 0) 28)) = W0 := hW0.symm
  rw [← hW0] at hx0 hy0 hc0 hr0 hb0 hs0
  clear hW0
  go_enter Tryd.func13, Tryd.ntmps13
  go_wp2_with fail
  have HC0 : Hid (∀ b off, ca = some ⟨b, off, none⟩ → 0 < n → b < w.heap.size) := fun b off e _ => hca b off e
  have HR0 : Hid (∀ b off, ra = some ⟨b, off, none⟩ → 0 < m → b < w.heap.size) := fun b off e _ => hra b off e
  obtain ⟨i0, hi, hy0', hy1, hy2⟩ := info_intP
  obtain ⟨j0, hj, hj0, hj1, hj2⟩ := info_copyP
  refine wp_region_inv (TwI w.heap.size s ca n cc ra m rc (cpF cb cd) (inF rv) ⟨#[tval s ca n cc ra m rc, .pointer (some ⟨w.heap.size, 0, none⟩), .pointer (some ⟨w.heap.size + 1, 0, none⟩), undef, undef, undef, undef, undef, undef, undef, undef, undef, undef, undef], []⟩ w) (by kernel_rfl) (by kernel_rfl) ?_ ?_ ⟨?_, ?_, ?_, ?_, ?_, ?_, ?_, ?_, ?_, ?_, ?_, ?_, trivial⟩ ?_
  · intro l l' a' w' he h
    have E := fun i (hi : i < 12) => he i hi
    have e2 := E 2 (by omega); have e5 := E 5 (by omega); have e6 := E 6 (by omega); have e9 := E 9 (by omega); have e10 := E 10 (by omega); have e11 := E 11 (by omega)
    exact ⟨h.defers, h.size, h.other, h.x, h.c, h.r, e11 ▸ h.y, e11 ▸ h.z, h.bel, fun i hi hl => h.vals i hi (by rw [E i (by omega)]; exact hl), e2 ▸ e5 ▸ h.g2, e6 ▸ e9 ▸ h.g6, e5 ▸ e2 ▸ h.w5, e9 ▸ e6 ▸ h.w9, e10 ▸ e5 ▸ e9 ▸ h.w10, e11 ▸ e10 ▸ h.w11, h.sz⟩
  · exact ⟨rfl, rfl, fun _ _ => rfl, hx0, hc0, hr0, fun _ => hy0, (fun h => by cases h), ⟨hb0.os, hb0.tape, hb0.output, hb0.size, hb0.block⟩, (fun i hi h => by cases h), (fun h => by cases h), (fun h => by cases h), (fun h => by cases h), (fun h => by cases h), (fun h => by cases h), (fun h => by cases h), hs0⟩
  · intro l a' w' hl hu h
    exact Tb.wpOp_of rfl rfl (Tw.addr rfl (h.other 1 (by omega)) (h.quiet 0 (by omega) (by omega) _ rfl (by omega)))
  · intro l a' w' hl hu h
    exact Tb.wpOp_of rfl rfl (wp_ldc 22 (.tmp 3) rfl w.heap.size 0 _ (h.vals 0 (by omega) (Tw.up hu 0 (by kernel_rfl))) (h.x.cell (i := 0) rfl) (by kernel_rfl) (h.quiet 1 (by omega) (by omega) _ rfl (by omega)))
  · intro l a' w' hl hu h
    refine Tb.wpOp_of rfl rfl (wp_bs0 26 61 rfl run_cps0 (h.mem 2 (by omega) hl (by omega) _ (Tw.gr w' _) (fun q e => by cases e) HC0.out HR0.out trivial (fun k u xs hh _ => World.ownsRow.alloc hh _) (fun k u xs hh _ => World.ownsRow.alloc hh _) (fun _ => ⟨_, rfl, own_nil w' _ _ _ h.sz⟩) (by omega) (by omega) (by omega)))
  · intro l a' w' hl hu h
    exact Tb.wpOp_of rfl rfl (Tw.addr rfl (h.other 1 (by omega)) (h.quiet 3 (by omega) (by omega) _ rfl (by omega)))
  · intro l a' w' hl hu h
    exact Tb.wpOp_of rfl rfl (wp_ldc 26 (.tmp 6) rfl w.heap.size 1 _ (h.vals 3 (by omega) (Tw.up hu 3 (by kernel_rfl))) (h.x.cell (i := 1) rfl) (by kernel_rfl) (h.quiet 4 (by omega) (by omega) _ rfl (by omega)))
  · intro l a' w' hl hu h
    have k2 := Tw.up hu 2 (by kernel_rfl)
    obtain ⟨g, q1, q2⟩ := h.g2 k2 hl
    have hgw := World.ownsRow.lt q2 g rfl
    refine Tb.wpOp_of rfl rfl (wp_copyO (.tmp 5) (.tmp 7) 26 rfl (w.heap.size + 2) 61 j0 _ 257 264 Tryd.underlying26 hj hj0 hj1 hj2 (by simp [Value.cells, cpc, Ks]) (by decide) g q1 q2 ca n cc (Cs (cpF cb cd) n) (h.vals 4 (by omega) (Tw.up hu 4 (by kernel_rfl))) hcn (Cs_length (cpF_len _ _) n)
      (fun ad had => by have h2 := h.c; rw [had] at h2; exact row_news15 (m := 257) (by omega) (cpF_len _ _) h2) (Cs_one (cpF_one _ _) n) (by unfold maxLen; omega) (by omega) h.sz ?_)
    intro v' w2 ho hg
    have hm5 : RMine w2 (w.heap.size + 2) 61 257 v' n (cpF cb cd) := ho
    obtain ⟨ga, gc, rfl⟩ := hm5.form
    exact h.mem 5 (by omega) hl (by omega) _ hg (fun q e => by injection e with e; omega) HC0.out HR0.out ⟨ga, gc, rfl, hm5⟩ (fun k u xs hh e => by omega) (fun k u xs hh _ => World.ownsRow.kept hh hg (own_block_ne hh q2 (by decide))) (by omega) (by omega) (fun _ => k2) (by omega)
  · intro l a' w' hl hu h
    refine Tb.wpOp_of rfl rfl (wp_bs0 24 3 rfl run_ints00 (h.mem 6 (by omega) hl (by omega) _ (Tw.gr w' _) (fun q e => by cases e) HC0.out HR0.out trivial (fun k u xs hh _ => World.ownsRow.alloc hh _) (fun k u xs hh _ => World.ownsRow.alloc hh _) (by omega) (fun _ => ⟨_, rfl, own_nil w' _ _ _ h.sz⟩) (by omega) (by omega)))
  · intro l a' w' hl hu h
    exact Tb.wpOp_of rfl rfl (Tw.addr rfl (h.other 1 (by omega)) (h.quiet 7 (by omega) (by omega) _ rfl (by omega)))
  · intro l a' w' hl hu h
    exact Tb.wpOp_of rfl rfl (wp_ldc 24 (.tmp 10) rfl w.heap.size 2 _ (h.vals 7 (by omega) (Tw.up hu 7 (by kernel_rfl))) (h.x.cell (i := 2) rfl) (by kernel_rfl) (h.quiet 8 (by omega) (by omega) _ rfl (by omega)))
  · intro l a' w' hl hu h
    have k2 := Tw.up hu 6 (by kernel_rfl)
    obtain ⟨g, q1, q2⟩ := h.g6 k2 hl
    have hgw := World.ownsRow.lt q2 g rfl
    refine Tb.wpOp_of rfl rfl (wp_copyO (.tmp 9) (.tmp 11) 24 rfl (w.heap.size + 2) 3 i0 _ 1 8 Tryd.underlying24 hi hy0' hy1 hy2 rfl (by decide) g q1 q2 ra m rc (Cs (inF rv) m) (h.vals 8 (by omega) (Tw.up hu 8 (by kernel_rfl))) hrn (Cs_length (inF_len _) m)
      (fun ad had => by have h2 := h.r; rw [had] at h2; exact row_news15 (m := 1) (by omega) (inF_len _) h2) (Cs_one (fun i v hv => by rw [List.mem_singleton.1 hv]; rfl) m) (by unfold maxLen; omega) (by omega) h.sz ?_)
    intro v' w2 ho hg
    have hm5 : RMine w2 (w.heap.size + 2) 3 1 v' m (inF rv) := ho
    obtain ⟨ga, gc, rfl⟩ := hm5.form
    exact h.mem 9 (by omega) hl (by omega) _ hg (fun q e => by injection e with e; omega) HC0.out HR0.out ⟨ga, gc, rfl, hm5⟩ (fun k u xs hh _ => World.ownsRow.kept hh hg (own_block_ne hh q2 (by decide))) (fun k u xs hh e => by omega) (by omega) (by omega) (by omega) (fun _ => k2)
  · intro l a' w' hl hu h
    have k5 := Tw.up hu 5 (by kernel_rfl)
    have k9 := Tw.up hu 9 (by kernel_rfl)
    obtain ⟨ga, gc, q1, q2⟩ := h.vals 5 (by omega) k5
    obtain ⟨ha, hc', r1, r2⟩ := h.vals 9 (by omega) k9
    have v4 := h.vals 1 (by omega) (Tw.up hu 1 (by kernel_rfl))
    refine Tb.wpOp_of rfl rfl (Tw.build rfl v4 q1 r1 (h.quiet 10 (by omega) (by omega) _ ⟨ga, gc, ha, hc', rfl, q2, r2⟩ (fun _ => ⟨k5, k9⟩)))
  · intro l a' w' hl hu h
    have k10 := Tw.up hu 10 (by kernel_rfl)
    obtain ⟨ga, gc, ha, hc', q1, q2, q3⟩ := h.vals 10 (by omega) k10
    have hY := h.y hl
    refine Tb.wpOp_of rfl rfl (wp_store_row 28 (.tmp 2) (.tmp 13) rfl (w.heap.size + 1) (tcells s ga n gc ha m hc') (h.other 2 (by omega)) q1 28 _ hY (info_trans _ _ _ _ _ _ _) rfl (by kernel_rfl) ?_)
    exact h.last hY q2 q3 k10 HC0.out HR0.out
  · intro a' w' h
    obtain ⟨ga, gc, ha, hc', q1, q2, q3⟩ := h.z rfl
    have hp2 : a'.tmps.getD 2 undef = .pointer (some ⟨w.heap.size + 1, 0, none⟩) := h.other 2 (by omega)
    have hdf := h.defers
    have hbel := h.bel
    clear h hx0 hy0 hc0 hr0 hb0 hs0 hgo halt
    go_wp2_with fail
    refine bodyPost_ret (results_t2 rfl _ _ _ hp2 q1) hdf ⟨ga, gc, ha, hc', rfl, q2, q3, hbel⟩
end Go.Proofs.YthkalmdpbhjafaaDoor
