/- Texts of this claim, merged by a program (a claim may have 60 files): Sc4a, Sc4b. -/
import Derived.Test.YtnbmmhoofilmfaaDoorK25
import Derived.Test.YtnbmmhoofilmfaaDoorK09
/- scan.Find: its results' boxes; the region that stores them at the end. -/
namespace Go.Proofs.YtnbmmhoofilmfaaDoor
open Go.RowKit
set_option linter.unusedVariables false

/-- three results stored -/
def st3 (W : World) (B : Nat) (v : Value) (nn E : Int) : World := ((W.setCell ⟨B + 1 + 1, 0, none⟩ v).setCell ⟨B + 1 + 1 + 1, 0, none⟩ (.int .u32 nn)).setCell ⟨B + 1 + 1 + 1 + 1, 0, none⟩ (.int .i64 E)
section
variable {w : World} {G S I J : Int} {la : Option Addr} {N : Nat} {L : Nat → Nat → Int} {hs ht : Int} {av : Value} {nn E : Int} {W W' : World}
theorem FdS.fin (h : FdS w G S I J la N L hs ht av nn E W) (v : Value) (n' E' : Int) : At (st3 W w.heap.size v n' E') (w.heap.size + 1) 36 #[.int .u32 hs, .int .i64 ht] ∧ (st3 W w.heap.size v n' E').cell? ⟨w.heap.size + 1 + 1, 0, none⟩ = some v ∧ (st3 W w.heap.size v n' E').cell? ⟨w.heap.size + 1 + 1 + 1, 0, none⟩ = some (.int .u32 n') ∧
    (st3 W w.heap.size v n' E').cell? ⟨w.heap.size + 1 + 1 + 1 + 1, 0, none⟩ = some (.int .i64 E') ∧ Below w.heap.size w (st3 W w.heap.size v n' E') := by
  unfold st3
  have o1 := Only.setCell W ⟨w.heap.size + 1 + 1, 0, none⟩ v
  have o2 := Only.setCell (W.setCell ⟨w.heap.size + 1 + 1, 0, none⟩ v) ⟨w.heap.size + 1 + 1 + 1, 0, none⟩ (.int .u32 n')
  have o3 := Only.setCell ((W.setCell ⟨w.heap.size + 1 + 1, 0, none⟩ v).setCell ⟨w.heap.size + 1 + 1 + 1, 0, none⟩ (.int .u32 n')) ⟨w.heap.size + 1 + 1 + 1 + 1, 0, none⟩ (.int .i64 E')
  have a1 := ((h.h.only o1 (by show w.heap.size + 1 ≠ w.heap.size + 1 + 1; omega)).only o2 (by show w.heap.size + 1 ≠ w.heap.size + 1 + 1 + 1; omega)).only o3 (by show w.heap.size + 1 ≠ w.heap.size + 1 + 1 + 1 + 1; omega)
  have a2 := ((h.l.set0 v).only o2 (by show w.heap.size + 1 + 1 ≠ w.heap.size + 1 + 1 + 1; omega)).only o3 (by show w.heap.size + 1 + 1 ≠ w.heap.size + 1 + 1 + 1 + 1; omega)
  have a3 := ((h.n.only o1 (by show w.heap.size + 1 + 1 + 1 ≠ w.heap.size + 1 + 1; omega)).set0 (.int .u32 n')).only o3 (by show w.heap.size + 1 + 1 + 1 ≠ w.heap.size + 1 + 1 + 1 + 1; omega)
  have a4 := ((h.e.only o1 (by show w.heap.size + 1 + 1 + 1 + 1 ≠ w.heap.size + 1 + 1; omega)).only o2 (by show w.heap.size + 1 + 1 + 1 + 1 ≠ w.heap.size + 1 + 1 + 1; omega)).set0 (.int .i64 E')
  exact ⟨a1, a2.cell (i := 0) rfl, a3.cell (i := 0) rfl, a4.cell (i := 0) rfl, ((h.bel.trans (o1.below (by show _ ≤ w.heap.size + 1 + 1; omega))).trans (o2.below (by show _ ≤ w.heap.size + 1 + 1 + 1; omega))).trans (o3.below (by show _ ≤ w.heap.size + 1 + 1 + 1 + 1; omega))⟩
end
section
variable {w : World} {G S I J : Int} {la : Option Addr} {N : Nat} {L : Nat → Nat → Int} {hs ht : Int} {av : Value} {nn E : Int} {W W' : World}
end
section
variable {w : World} {G S I J : Int} {la : Option Addr} {N : Nat} {L : Nat → Nat → Int} {hs ht : Int} {av : Value} {nn E : Int} {W W' : World}
theorem FdS.setE (h : FdS w G S I J la N L hs ht av nn E W) (hTl : 0 < w.heap.size) (hlb : ∀ b off, la = some ⟨b, off, none⟩ → 0 < N → b < w.heap.size) (E' : Int) : FdS w G S I J la N L hs ht av nn E' (W.setCell ⟨w.heap.size + 1 + 1 + 1 + 1, 0, none⟩ (.int .i64 E')) := by
  have ho := Only.setCell W ⟨w.heap.size + 1 + 1 + 1 + 1, 0, none⟩ (.int .i64 E')
  exact ⟨h.g.only ho (by show w.heap.size ≠ w.heap.size + 1 + 1 + 1 + 1; omega), h.h.only ho (by show w.heap.size + 1 ≠ w.heap.size + 1 + 1 + 1 + 1; omega), h.l.only ho (by show w.heap.size + 1 + 1 ≠ w.heap.size + 1 + 1 + 1 + 1; omega), h.n.only ho (by show w.heap.size + 1 + 1 + 1 ≠ w.heap.size + 1 + 1 + 1 + 1; omega), h.e.set0 _, by
    rcases h.r with h0 | h0
    · exact .inl h0
    · rcases Nat.eq_zero_or_pos N with e | e
      · exact .inl e
      · exact RRow.only (.inr h0) ho fun b off e' => by have := hlb b off e' e; show b ≠ w.heap.size + 1 + 1 + 1 + 1; omega, h.ta.only ho (by show w.heap.size + 1 + 1 + 1 + 1 ≠ 0; omega), h.bel.trans (ho.below (by show _ ≤ w.heap.size + 1 + 1 + 1 + 1; omega))⟩
end
theorem at_own_neS {W : World} {p base k size : Nat} {T e : TypeId} {cs : Array Value} {v : Value} {xs : List Value} (hA : At W p T cs) (h : W.ownsRow base e size v k xs) (he : e ≠ T) : v.ownBlock ≠ some p := by
  intro hp
  rcases h.2 with ⟨rfl, _⟩ | ⟨q, cap, cur, rfl, _, hh, _⟩
  · cases hp
  · injection hp with hp
    subst hp
    have := hA.symm.trans hh
    injection this with this
    injection this with _ h2
    exact he h2.symm
/-- transactions that stand in a row -/
def TrR (W : World) (a : Option Addr) (l : List Tr) : Prop :=
  ∃ ca cc ra rc, RRow W a 3 l.length (trC l ca cc ra rc) ∧ ∀ i t, l[i]? = some t → RRow W (ca i) 257 t.n (cpF t.cb t.cd) ∧ RRow W (ra i) 1 t.m (inF t.rv)
theorem TrM.rows {W : World} {B : Nat} {a : Option Addr} {n c : Nat} {l : List Tr} (h : TrM W B (.slice a n c) l) (hn : n = l.length) : TrR W a l := by
  subst hn
  obtain ⟨ca, cc, ra, rc, h1, h2⟩ := h
  exact ⟨ca, cc, ra, rc, (RMine.row h1 (trC_len l ca cc ra rc) : RRow W a 3 l.length _), fun i t ht => ⟨RMine.row (h2 i t ht).1 (cpF_len _ _), RMine.row (h2 i t ht).2 (inF_len _)⟩⟩
/-- .. and they lie in rows of their own -/
def TrQ (W : World) (a : Option Addr) (l : List Tr) : Prop := TrR W a l ∧ ∃ B c, TrM W B (.slice a l.length c) l
theorem TrM.q {W : World} {B : Nat} {a : Option Addr} {n c : Nat} {l : List Tr} (h : TrM W B (.slice a n c) l) (hn : n = l.length) : TrQ W a l := ⟨h.rows hn, B, c, by rw [← hn]; exact h⟩
theorem TrQ.below {W W' : World} {a : Option Addr} {l : List Tr} (h : TrQ W a l) (hb : Below W.heap.size W W') : TrQ W' a l := by
  obtain ⟨_, B, c, h⟩ := h
  exact (h.below hb).q rfl
theorem TrQ.kept {W W' : World} {a : Option Addr} {l : List Tr} (h : TrQ W a l) (hk : ∀ B c, TrM W B (.slice a l.length c) l → TrM W' B (.slice a l.length c) l) : TrQ W' a l := by
  obtain ⟨_, B, c, h⟩ := h
  exact (hk B c h).q rfl
theorem TrR.below {W W' : World} {a : Option Addr} {l : List Tr} (h : TrR W a l) (hb : Below W.heap.size W W') : TrR W' a l := by
  obtain ⟨ca, cc, ra, rc, h1, h2⟩ := h
  exact ⟨ca, cc, ra, rc, h1.below (by intro e; have := congrArg List.length e; rw [trC_len] at this; cases this) hb, fun i t ht => ⟨(h2 i t ht).1.below (by intro e; cases e) hb, (h2 i t ht).2.below (by intro e; cases e) hb⟩⟩
theorem TrM.only {W W' : World} {B p : Nat} {T : TypeId} {cs : Array Value} {v : Value} {l : List Tr} (h : TrM W B v l) (hA : At W p T cs) (h1 : 51 ≠ T) (h2 : 101 ≠ T) (h3 : 3 ≠ T) (ho : Only p W W') : TrM W' B v l := by
  obtain ⟨ca, cc, ra, rc, k1, k2⟩ := h
  exact ⟨ca, cc, ra, rc, own_only k1 ho (at_own_neS hA k1 h1), fun i t ht => ⟨own_only (k2 i t ht).1 ho (at_own_neS hA (k2 i t ht).1 h2), own_only (k2 i t ht).2 ho (at_own_neS hA (k2 i t ht).2 h3)⟩⟩
/-- at the end -/
structure FdT (w : World) (G S I J : Int) (la : Option Addr) (N : Nat) (L : Nat → Nat → Int) (hs ht : Int) (p8 : Nat) (a : Option Addr) (n c : Nat) (l : List Tr) (W : World) : Prop where
  f : FdS w G S I J la N L 0 0 (.slice a n c) 0 0 W
  p : At W p8 36 #[.int .u32 hs, .int .i64 ht]
  m : TrM W w.heap.size (.slice a n c) l
theorem FdT.below {w : World} {G S I J : Int} {la : Option Addr} {N : Nat} {L : Nat → Nat → Int} {hs ht : Int} {p8 : Nat} {a : Option Addr} {n c : Nat} {l : List Tr} {W W' : World} (h : FdT w G S I J la N L hs ht p8 a n c l W) (hb : Below W.heap.size W W') : FdT w G S I J la N L hs ht p8 a n c l W' := ⟨h.f.below hb, h.p.below hb h.p.lt, h.m.below hb⟩
/-- what the last region's slots hold -/
def PvF (hs ht : Int) (a : Option Addr) (n c : Nat) (X : Int) : Nat → Value → Prop
  | 0, v => v = .agg #[.int .u32 hs, .int .i64 ht]
  | 1, v => v = .slice a n c
  | 2, v => v = .slice a n c
  | 3, v => v = .int .i64 (n : Int)
  | 4, v => v = .slice a n c
  | 5, v => v = .int .i64 (n : Int)
  | 6, v => v = .slice a n n
  | 7, v => v = .int .u64 X
  | 8, v => v = .int .u32 X
  | _, _ => True
/-- what holds between its operations -/
structure FdI (w : World) (p8 : Nat) (hs ht : Int) (a : Option Addr) (n c : Nat) (l : List Tr) (X : Int) (D : Nat) (o : Option Obj) (a0 : Act) (f : Nat → Bool) (a' : Act) (W : World) : Prop where
  defers : a'.defers = a0.defers
  size : a'.tmps.size = 84
  other : ∀ k, k < 75 → a'.tmps.getD k undef = a0.tmps.getD k undef
  vals : ∀ i, i < 9 → f i = true → PvF hs ht a n c X i (a'.tmps.getD (i + 75) undef)
  p : At W p8 36 #[.int .u32 hs, .int .i64 ht]
  h : At W (w.heap.size + 1) 36 (if f 9 then #[.int .u32 hs, .int .i64 ht] else #[.int .u32 0, .int .i64 0])
  fl : At W (w.heap.size + 1 + 1) 56 #[if f 10 then .slice a n n else .slice a n c]
  fn : At W (w.heap.size + 1 + 1 + 1) 34 #[.int .u32 (if f 11 then X else 0)]
  e : At W (w.heap.size + 1 + 1 + 1 + 1) 27 #[.int .i64 0]
  m : TrM W w.heap.size (.slice a n c) l
  w10 : f 10 = true → f 1 = true ∧ f 2 = true ∧ f 4 = true
  d : W.heap[D]? = o
  bel : Below w.heap.size w W
section
variable {w : World} {p8 : Nat} {hs ht : Int} {a : Option Addr} {n c : Nat} {l : List Tr} {X : Int} {D : Nat} {o : Option Obj} {a0 : Act} {f : Nat → Bool} {a' : Act} {W W' : World}
theorem FdI.congr {f' : Nat → Bool} (h : FdI w p8 hs ht a n c l X D o a0 f a' W) (e : ∀ i, i < 13 → f i = f' i) : FdI w p8 hs ht a n c l X D o a0 f' a' W :=
  ⟨h.defers, h.size, h.other, fun i hi hf => h.vals i hi (by rw [e i (by omega)]; exact hf), h.p, by rw [← e 9 (by omega)]; exact h.h, by rw [← e 10 (by omega)]; exact h.fl, by rw [← e 11 (by omega)]; exact h.fn, h.e, h.m, (by rw [← e 10 (by omega), ← e 1 (by omega), ← e 2 (by omega), ← e 4 (by omega)]; exact h.w10), h.d, h.bel⟩
theorem or_ne {i k : Nat} (f : Nat → Bool) (h : k ≠ i) : (k == i || f k) = f k := by rw [show (k == i) = false by simpa using h, Bool.false_or]
theorem or_eq {i k : Nat} (f : Nat → Bool) (h : k = i) : (k == i || f k) = true := by rw [show (k == i) = true by simpa using h, Bool.true_or]
theorem FdI.mono (h : FdI w p8 hs ht a n c l X D o a0 f a' W) {i : Nat} (hi : 10 ≠ i) : (10 == i || f 10) = true → (1 == i || f 1) = true ∧ (2 == i || f 2) = true ∧ (4 == i || f 4) = true := by
  rw [or_ne f hi]
  intro e
  obtain ⟨h1, h2, h4⟩ := h.w10 e
  rw [h1, h2, h4]
  simp
theorem FdI.quiet (h : FdI w p8 hs ht a n c l X D o a0 f a' W) (i : Nat) (hi : i < 9) (v : Value) (hv : PvF hs ht a n c X i v) : FdI w p8 hs ht a n c l X D o a0 (fun j => j == i || f j) (a'.put (some (i + 75)) v) W := by
  refine ⟨h.defers, by rw [Tb.put_size]; exact h.size, fun k hk => (Tb.put_other _ _ _ _ (by omega)).trans (h.other k hk), fun j hj hf => ?_, h.p, ?_, ?_, ?_, h.e, h.m, h.mono (show 10 ≠ i by omega), h.d, h.bel⟩
  · by_cases e : j = i
    · subst e
      rw [Tb.put_same _ _ _ (by rw [h.size]; omega)]
      exact hv
    · rw [Tb.put_other _ _ _ _ (by omega)]
      exact h.vals j hj (by rw [← or_ne f e]; exact hf)
  · show At W _ _ (if (9 == i || f 9) = true then _ else _)
    rw [or_ne f (by omega)]; exact h.h
  · show At W _ _ #[if (10 == i || f 10) = true then _ else _]
    rw [or_ne f (by omega)]; exact h.fl
  · show At W _ _ #[.int .u32 (if (11 == i || f 11) = true then _ else _)]
    rw [or_ne f (by omega)]; exact h.fn
theorem FdI.st9 (h : FdI w p8 hs ht a n c l X D o a0 f a' W) (hp8 : w.heap.size + 1 + 1 + 1 + 1 < p8) (hD : w.heap.size + 1 + 1 + 1 + 1 < D) (hh : At W' (w.heap.size + 1) 36 #[.int .u32 hs, .int .i64 ht]) (ho : Only (w.heap.size + 1) W W') :
    FdI w p8 hs ht a n c l X D o a0 (fun j => j == 9 || f j) (a'.put none undef) W' := by
  refine ⟨h.defers, h.size, h.other, fun j hj hf => h.vals j hj (by rw [← or_ne f (show j ≠ 9 by omega)]; exact hf), h.p.only ho (by omega), ?_, ?_, ?_, h.e.only ho (by omega), h.m.only h.h (by decide) (by decide) (by decide) ho, h.mono (show 10 ≠ 9 by omega), (ho.block D (by omega)).trans h.d, h.bel.trans (ho.below (by omega))⟩
  · show At W' _ _ (if (9 == 9 || f 9) = true then _ else _)
    rw [or_eq f rfl, if_pos rfl]; exact hh
  · show At W' _ _ #[if (10 == 9 || f 10) = true then _ else _]
    rw [or_ne f (by omega)]; exact h.fl.only ho (by omega)
  · show At W' _ _ #[.int .u32 (if (11 == 9 || f 11) = true then _ else _)]
    rw [or_ne f (by omega)]; exact h.fn.only ho (by omega)
theorem FdI.st10 (h : FdI w p8 hs ht a n c l X D o a0 f a' W) (h1 : f 1 = true) (h2 : f 2 = true) (h4 : f 4 = true) (hp8 : w.heap.size + 1 + 1 + 1 + 1 < p8) (hD : w.heap.size + 1 + 1 + 1 + 1 < D) :
    FdI w p8 hs ht a n c l X D o a0 (fun j => j == 10 || f j) (a'.put none undef) (W.setCell ⟨w.heap.size + 1 + 1, 0, none⟩ (.slice a n n)) := by
  have ho := Only.setCell W ⟨w.heap.size + 1 + 1, 0, none⟩ (.slice a n n)
  refine ⟨h.defers, h.size, h.other, fun j hj hf => h.vals j hj (by rw [← or_ne f (show j ≠ 10 by omega)]; exact hf), h.p.only ho (by show p8 ≠ w.heap.size + 1 + 1; omega), ?_, ?_, ?_, h.e.only ho (by show w.heap.size + 1 + 1 + 1 + 1 ≠ w.heap.size + 1 + 1; omega), h.m.only h.fl (by decide) (by decide) (by decide) ho, (fun _ => ⟨by show (1 == 10 || f 1) = true; rw [h1, Bool.or_true], by show (2 == 10 || f 2) = true; rw [h2, Bool.or_true], by show (4 == 10 || f 4) = true; rw [h4, Bool.or_true]⟩), (ho.block D (by show D ≠ w.heap.size + 1 + 1; omega)).trans h.d, h.bel.trans (ho.below (by show _ ≤ w.heap.size + 1 + 1; omega))⟩
  · show At _ _ _ (if (9 == 10 || f 9) = true then _ else _)
    rw [or_ne f (by omega)]; exact h.h.only ho (by show w.heap.size + 1 ≠ w.heap.size + 1 + 1; omega)
  · show At _ _ _ #[if (10 == 10 || f 10) = true then _ else _]
    rw [or_eq f rfl, if_pos rfl]; exact h.fl.set0 _
  · show At _ _ _ #[.int .u32 (if (11 == 10 || f 11) = true then _ else _)]
    rw [or_ne f (by omega)]; exact h.fn.only ho (by show w.heap.size + 1 + 1 + 1 ≠ w.heap.size + 1 + 1; omega)
theorem FdI.st11 (h : FdI w p8 hs ht a n c l X D o a0 f a' W) (hp8 : w.heap.size + 1 + 1 + 1 + 1 < p8) (hD : w.heap.size + 1 + 1 + 1 + 1 < D) :
    FdI w p8 hs ht a n c l X D o a0 (fun j => j == 11 || f j) (a'.put none undef) (W.setCell ⟨w.heap.size + 1 + 1 + 1, 0, none⟩ (.int .u32 X)) := by
  have ho := Only.setCell W ⟨w.heap.size + 1 + 1 + 1, 0, none⟩ (.int .u32 X)
  refine ⟨h.defers, h.size, h.other, fun j hj hf => h.vals j hj (by rw [← or_ne f (show j ≠ 11 by omega)]; exact hf), h.p.only ho (by show p8 ≠ w.heap.size + 1 + 1 + 1; omega), ?_, ?_, ?_, h.e.only ho (by show w.heap.size + 1 + 1 + 1 + 1 ≠ w.heap.size + 1 + 1 + 1; omega), h.m.only h.fn (by decide) (by decide) (by decide) ho, h.mono (show 10 ≠ 11 by omega), (ho.block D (by show D ≠ w.heap.size + 1 + 1 + 1; omega)).trans h.d, h.bel.trans (ho.below (by show _ ≤ w.heap.size + 1 + 1 + 1; omega))⟩
  · show At _ _ _ (if (9 == 11 || f 9) = true then _ else _)
    rw [or_ne f (by omega)]; exact h.h.only ho (by show w.heap.size + 1 ≠ w.heap.size + 1 + 1 + 1; omega)
  · show At _ _ _ #[if (10 == 11 || f 10) = true then _ else _]
    rw [or_ne f (by omega)]; exact h.fl.only ho (by show w.heap.size + 1 + 1 ≠ w.heap.size + 1 + 1 + 1; omega)
  · show At _ _ _ #[.int .u32 (if (11 == 11 || f 11) = true then _ else _)]
    rw [or_eq f rfl, if_pos rfl]; exact h.fn.set0 _
end
theorem op_stc {w : World} {o : Oper} {a : Act} {K : Act → World → Prop} {Q : Exit → Act → World → Prop} (ty : TypeId) (x y : Operand) (ho : o.op = .store ty x y) (g : Nat) (u v : Value) (t : TypeId) (hx : a.eval x = .pointer (some ⟨g, 0, none⟩)) (hy : a.eval y = v) (hA : At w g t #[u])
    (hs : ∀ W : World, W.cell? ⟨g, 0, none⟩ = some u → W.frozen? ⟨g, 0, none⟩ = false → (Instr.storeAt ty (.pointer (some ⟨g, 0, none⟩)) v).run Tryd.prog W = .ok () (W.setCell ⟨g, 0, none⟩ v)) (h : K (a.put o.dst undef) (w.setCell ⟨g, 0, none⟩ v)) : o.wp Tryd.prog a w K Q := by
  refine op_skip ?_ h
  unfold execOp
  simp only [ho, hx, hy, Sem.run_bind, hs w (hA.cell (i := 0) rfl) (soft_of_heap hA 0), Result.andThen_ok, Sem.run_pure]
/-- what Find tells -/
def FdPost (w : World) (G S I J : Int) (N : Nat) (L : Nat → Nat → Int) (e : Ending) (w' : World) : Prop :=
  (fdE G S I J N L ≠ 0 ∧ e = .returned (.tuple #[.agg #[.int .u32 0, .int .i64 0], .slice none 0 0, .int .u32 0, .int .i64 (fdE G S I J N L)])) ∨
  (fdE G S I J N L = 0 ∧ ∃ a cap, e = .returned (.tuple #[.agg #[.int .u32 (hdS (L 2)), .int .i64 (hdT (L 2))], .slice a (fdL J L).length cap, .int .u32 (hdS (L 2) + (fdL J L).length + 1), .int .i64 0]) ∧ TrQ w' a (fdL J L))

end Go.Proofs.YtnbmmhoofilmfaaDoor

/- scan.Find: what its loop keeps. -/
namespace Go.Proofs.YtnbmmhoofilmfaaDoor
open Go.RowKit
set_option linter.unusedVariables false

section
variable {w : World} {G S I J : Int} {la : Option Addr} {N : Nat} {L : Nat → Nat → Int} {hs ht : Int} {av : Value} {nn E : Int} {W W' : World}
theorem FdS.setL (h : FdS w G S I J la N L hs ht av nn E W) (hTl : 0 < w.heap.size) (hlb : ∀ b off, la = some ⟨b, off, none⟩ → 0 < N → b < w.heap.size) (v : Value) : FdS w G S I J la N L hs ht v nn E (W.setCell ⟨w.heap.size + 1 + 1, 0, none⟩ v) := by
  have ho := Only.setCell W ⟨w.heap.size + 1 + 1, 0, none⟩ v
  exact ⟨h.g.only ho (by show w.heap.size ≠ w.heap.size + 1 + 1; omega), h.h.only ho (by show w.heap.size + 1 ≠ w.heap.size + 1 + 1; omega), h.l.set0 _, h.n.only ho (by show w.heap.size + 1 + 1 + 1 ≠ w.heap.size + 1 + 1; omega), h.e.only ho (by show w.heap.size + 1 + 1 + 1 + 1 ≠ w.heap.size + 1 + 1; omega), by
    rcases h.r with h0 | h0
    · exact .inl h0
    · rcases Nat.eq_zero_or_pos N with e | e
      · exact .inl e
      · exact RRow.only (.inr h0) ho fun b off e' => by have := hlb b off e' e; show b ≠ w.heap.size + 1 + 1; omega, h.ta.only ho (by show w.heap.size + 1 + 1 ≠ 0; omega), h.bel.trans (ho.below (by show _ ≤ w.heap.size + 1 + 1; omega))⟩
theorem FdS.setN (h : FdS w G S I J la N L hs ht av nn E W) (hTl : 0 < w.heap.size) (hlb : ∀ b off, la = some ⟨b, off, none⟩ → 0 < N → b < w.heap.size) (v : Int) : FdS w G S I J la N L hs ht av v E (W.setCell ⟨w.heap.size + 1 + 1 + 1, 0, none⟩ (.int .u32 v)) := by
  have ho := Only.setCell W ⟨w.heap.size + 1 + 1 + 1, 0, none⟩ (.int .u32 v)
  exact ⟨h.g.only ho (by show w.heap.size ≠ w.heap.size + 1 + 1 + 1; omega), h.h.only ho (by show w.heap.size + 1 ≠ w.heap.size + 1 + 1 + 1; omega), h.l.only ho (by show w.heap.size + 1 + 1 ≠ w.heap.size + 1 + 1 + 1; omega), h.n.set0 _, h.e.only ho (by show w.heap.size + 1 + 1 + 1 + 1 ≠ w.heap.size + 1 + 1 + 1; omega), by
    rcases h.r with h0 | h0
    · exact .inl h0
    · rcases Nat.eq_zero_or_pos N with e | e
      · exact .inl e
      · exact RRow.only (.inr h0) ho fun b off e' => by have := hlb b off e' e; show b ≠ w.heap.size + 1 + 1 + 1; omega, h.ta.only ho (by show w.heap.size + 1 + 1 + 1 ≠ 0; omega), h.bel.trans (ho.below (by show _ ≤ w.heap.size + 1 + 1 + 1; omega))⟩
theorem FdS.st3 (h : FdS w G S I J la N L hs ht av nn E W) (hTl : 0 < w.heap.size) (hlb : ∀ b off, la = some ⟨b, off, none⟩ → 0 < N → b < w.heap.size) (v : Value) (n' E' : Int) : FdS w G S I J la N L hs ht v n' E' (st3 W w.heap.size v n' E') :=
  ((h.setL hTl hlb v).setN hTl hlb n').setE hTl hlb E'
theorem keeps_cell {B b : Nat} {v u : Value} {T : TypeId} (hA : At W b T #[u]) : KeepsFrom B W (W.setCell ⟨b, 0, none⟩ v) := (Only.setCell W ⟨b, 0, none⟩ v).keeps (hA.cell (i := 0) rfl)
theorem FdS.grown (h : FdS w G S I J la N L hs ht av nn E W) (hTl : 0 < w.heap.size) (hlb : ∀ b off, la = some ⟨b, off, none⟩ → 0 < N → b < w.heap.size) {k : Nat} {v : Value} {xs : List Value} (ho : W.ownsRow w.heap.size 51 3 v k xs) (hg : W.grownBy W' v.ownBlock) : FdS w G S I J la N L hs ht av nn E W' := by
  have hge : ∀ q, v.ownBlock = some q → w.heap.size ≤ q := fun q e => (World.ownsRow.lt ho q e).1
  have hat : ∀ {p T cs}, At W p T cs → 51 ≠ T → At W' p T cs := fun hA hT => (hg.block _ hA.lt (fun e => at_own_neS hA ho hT e.symm)).trans hA
  exact ⟨hat h.g (by decide), hat h.h (by decide), hat h.l (by decide), hat h.n (by decide), hat h.e (by decide), by
    rcases h.r with h0 | ⟨b, off, rfl, h0⟩
    · exact .inl h0
    · rcases Nat.eq_zero_or_pos N with e | e
      · exact .inl e
      · have hb := hlb b off rfl e
        exact .inr ⟨b, off, rfl, fun i hi j v hj => (World.cell?_of_block (w := W) (hg.block b (World.block_lt_of_cell? W _ (h0 i hi j v hj)) (fun e => by have := hge b e.symm; omega))).trans (h0 i hi j v hj)⟩,
    fun i hi => (World.cell?_of_block (w := W) (hg.block _ h.ta.lt (fun e => by have := hge 0 e.symm; omega))).trans (h.ta i hi), h.bel.grown hg h.bel.size (fun q e => hge q e)⟩
theorem keeps_own {B base k size : Nat} {e : TypeId} {v : Value} {xs : List Value} (ho : W.ownsRow base e size v k xs) (hg : W.grownBy W' v.ownBlock) : KeepsFrom B W W' :=
  ⟨hg.size, fun i o _ hi hc => by
    refine (hg.block i (Array.getElem?_eq_some_iff.1 hi).1 (fun e => ?_)).trans hi
    rcases ho.2 with ⟨hv, _⟩ | ⟨g', cap', cur, hv, hbg, hg', _⟩
    · subst hv; cases e
    · subst hv
      have : i = g' := by simpa [Value.ownBlock] using e
      subst this
      rw [hi] at hg'
      injection hg' with hg'
      subst hg'
      cases hc⟩
end
theorem FnN.grown {q bs bl : Nat} {L : Nat → Nat → Int} {N : Nat} {s : Int} {W W' : World} (h : FnN q bs bl L N s W) {base k : Nat} (hb : 0 < base) {v : Value} {xs : List Value} (ho : W.ownsRow base 51 3 v k xs) (hg : W.grownBy W' v.ownBlock) : FnN q bs bl L N s W' := by
  have hge : ∀ q, v.ownBlock = some q → base ≤ q := fun q e => (World.ownsRow.lt ho q e).1
  have hat : ∀ {p T cs}, At W p T cs → 51 ≠ T → At W' p T cs := fun hA hT => (hg.block _ hA.lt (fun e => at_own_neS hA ho hT e.symm)).trans hA
  refine ⟨hat h.s (by decide), hat h.l (by decide), ?_, fun i hi => (World.cell?_of_block (w := W) (hg.block _ h.t.lt (fun e => by have := hge 0 e.symm; omega))).trans (h.t i hi)⟩
  obtain ⟨cs, h1, h2⟩ := h.a.blk
  refine h.a.of_block (hg.block q h.a.lt (fun e => ?_))
  exact at_own_neS (show At W q 32 cs from h1) ho (by decide) e.symm
theorem FnN.kept {q bs bl : Nat} {L : Nat → Nat → Int} {N : Nat} {s : Int} (base : Nat) : Kept base (fun W => FnN q bs bl L N s W) := fun W W' row h hg hr => by
  refine ⟨Kept.at _ _ W W' row h.s hg hr, Kept.at _ _ W W' row h.l hg hr, ?_, fun i hi => Kept.cell base _ _ W W' row (h.t i hi) hg hr⟩
  obtain ⟨cs, h1, h2⟩ := h.a.blk
  exact h.a.of_block ((Kept.at (B := base) 32 cs W W' row (show At W q 32 cs from h1) hg hr).trans h1.symm)
theorem FnN.only {q bs bl p : Nat} {L : Nat → Nat → Int} {N : Nat} {s : Int} {W W' : World} (h : FnN q bs bl L N s W) (ho : Only p W W') (h1 : bs ≠ p) (h2 : bl ≠ p) (h3 : q ≠ p) (h4 : p ≠ 0) : FnN q bs bl L N s W' := ⟨h.s.only ho h1, h.l.only ho h2, h.a.only ho h3, h.t.only ho h4⟩
theorem FdT.kept {w : World} {G S I J : Int} {la : Option Addr} {N : Nat} {L : Nat → Nat → Int} {hs ht : Int} {p8 : Nat} {a : Option Addr} {n c : Nat} {l : List Tr} (hTl : 0 < w.heap.size) (base : Nat) (hb : w.heap.size ≤ base) : Kept base (fun W => FdT w G S I J la N L hs ht p8 a n c l W) := fun W W' row h hg hr =>
  ⟨FdS.kept hTl base hb W W' row h.f hg hr, Kept.at _ _ W W' row h.p hg hr, TrM.kept _ _ base W W' row h.m hg hr⟩
theorem TrV.kept {B : Nat} {l : List Tr} (base k : Nat) (cs : Array Value) : Kept base (fun W => TrV B l k cs W) := fun W W' row h hg hr => by
  obtain ⟨t, ca, cc, ra, rc, h1, h2, h3, h4⟩ := h
  exact ⟨t, ca, cc, ra, rc, h1, h2, Kept.own W W' row h3 hg hr, Kept.own W W' row h4 hg hr⟩
/-- the region that turns the ring and begins the iterator -/
structure FdR (w : World) (G S I J : Int) (la : Option Addr) (N : Nat) (L : Nat → Nat → Int) (hs ht : Int) (p8 r : Nat) (R : Nat → Nat → Int) (t : Mv.St) (W : World) : Prop where
  f : FdT w G S I J la N L hs ht p8 none 0 0 [] W
  q1 : t.n = 1 → ∃ q, t.v = .slice (some ⟨q, 0, none⟩) r r ∧ w.heap.size ≤ q ∧ RArr W q 32 256 r (bkF R)
  q2 : t.n = 2 → ∃ q bs bl, t.v = .slice (some ⟨q, 0, none⟩) bs bl ∧ w.heap.size + 1 + 1 + 1 + 1 < q ∧ w.heap.size + 1 + 1 + 1 + 1 < bs ∧ w.heap.size + 1 + 1 + 1 + 1 < bl ∧ FnN q bs bl R r hs W
end Go.Proofs.YtnbmmhoofilmfaaDoor
