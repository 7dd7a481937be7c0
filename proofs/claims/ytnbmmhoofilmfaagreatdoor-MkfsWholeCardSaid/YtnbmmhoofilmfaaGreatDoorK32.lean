/- Texts of this claim, merged by a program (a claim may have 60 files): Sc4a. -/
import Derived.Test.YtnbmmhoofilmfaaGreatDoorK22
import Derived.Test.YtnbmmhoofilmfaaGreatDoorK26
/- scan.Find: its results' boxes; the region that stores them at the end. -/
namespace Go.Proofs.YtnbmmhoofilmfaaGreatDoor
open Go.RowKit
set_option linter.unusedVariables false

/-- what the results' boxes hold when all are stored -/
theorem results_fd {fn : Func} (h : fn.results = #[.cell 4 83, .cell 5 84, .cell 6 45, .cell 7 48]) (tmps : Array Value) (W : World) (b4 b5 b6 b7 : Nat) (s t : Int) (v : Value) (nn e : Int)
    (hp4 : tmps.getD 4 undef = .pointer (some ⟨b4, 0, none⟩)) (hp5 : tmps.getD 5 undef = .pointer (some ⟨b5, 0, none⟩)) (hp6 : tmps.getD 6 undef = .pointer (some ⟨b6, 0, none⟩)) (hp7 : tmps.getD 7 undef = .pointer (some ⟨b7, 0, none⟩))
    (h4 : At W b4 83 #[.int .u32 s, .int .i64 t]) (h5 : W.cell? ⟨b5, 0, none⟩ = some v) (h6 : W.cell? ⟨b6, 0, none⟩ = some (.int .u32 nn)) (h7 : W.cell? ⟨b7, 0, none⟩ = some (.int .i64 e)) : (results fn tmps).run Tryz.prog W = .ok (.tuple #[.agg #[.int .u32 s, .int .i64 t], v, .int .u32 nn, .int .i64 e]) W := by
  have hp4' : tmps[4]?.getD undef = .pointer (some ⟨b4, 0, none⟩) := by simpa using hp4
  have hp5' : tmps[5]?.getD undef = .pointer (some ⟨b5, 0, none⟩) := by simpa using hp5
  have hp6' : tmps[6]?.getD undef = .pointer (some ⟨b6, 0, none⟩) := by simpa using hp6
  have hp7' : tmps[7]?.getD undef = .pointer (some ⟨b7, 0, none⟩) := by simpa using hp7
  have c0 := h4.cell (i := 0) (v := .int .u32 s) rfl
  have c1 := h4.cell (i := 1) (v := .int .i64 t) rfl
  simp [results, h, hp4', hp5', hp6', hp7', go_sem, h5, h6, h7, c0, c1]
/-- three results stored -/
def st3 (W : World) (B : Nat) (v : Value) (nn E : Int) : World := ((W.setCell ⟨B + 1 + 1, 0, none⟩ v).setCell ⟨B + 1 + 1 + 1, 0, none⟩ (.int .u32 nn)).setCell ⟨B + 1 + 1 + 1 + 1, 0, none⟩ (.int .i64 E)
section
variable {w : World} {G S I J : Int} {la : Option Addr} {N : Nat} {L : Nat → Nat → Int} {hs ht : Int} {av : Value} {nn E : Int} {W W' : World}
theorem FdS.fin (h : FdS w G S I J la N L hs ht av nn E W) (v : Value) (n' E' : Int) : At (st3 W w.heap.size v n' E') (w.heap.size + 1) 83 #[.int .u32 hs, .int .i64 ht] ∧ (st3 W w.heap.size v n' E').cell? ⟨w.heap.size + 1 + 1, 0, none⟩ = some v ∧ (st3 W w.heap.size v n' E').cell? ⟨w.heap.size + 1 + 1 + 1, 0, none⟩ = some (.int .u32 n') ∧
    (st3 W w.heap.size v n' E').cell? ⟨w.heap.size + 1 + 1 + 1 + 1, 0, none⟩ = some (.int .i64 E') ∧ Below w.heap.size w (st3 W w.heap.size v n' E') := by
  unfold st3
  have o1 := Only.setCell W ⟨w.heap.size + 1 + 1, 0, none⟩ v
  have o2 := Only.setCell (W.setCell ⟨w.heap.size + 1 + 1, 0, none⟩ v) ⟨w.heap.size + 1 + 1 + 1, 0, none⟩ (.int .u32 n')
  have o3 := Only.setCell ((W.setCell ⟨w.heap.size + 1 + 1, 0, none⟩ v).setCell ⟨w.heap.size + 1 + 1 + 1, 0, none⟩ (.int .u32 n')) ⟨w.heap.size + 1 + 1 + 1 + 1, 0, none⟩ (.int .i64 E')
  have a1 := ((h.h.only o1 (by show w.heap.size + 1 ≠ w.heap.size + 1 + 1; omega)).only o2 (by show w.heap.size + 1 ≠ w.heap.size + 1 + 1 + 1; omega)).only o3 (by show w.heap.size + 1 ≠ w.heap.size + 1 + 1 + 1 + 1; omega)
  have a2 := ((h.l.set0 v).only o2 (by show w.heap.size + 1 + 1 ≠ w.heap.size + 1 + 1 + 1; omega)).only o3 (by show w.heap.size + 1 + 1 ≠ w.heap.size + 1 + 1 + 1 + 1; omega)
  have a3 := ((h.n.only o1 (by show w.heap.size + 1 + 1 + 1 ≠ w.heap.size + 1 + 1; omega)).set0 (.int .u32 n')).only o3 (by show w.heap.size + 1 + 1 + 1 ≠ w.heap.size + 1 + 1 + 1 + 1; omega)
  have a4 := ((h.e.only o1 (by show w.heap.size + 1 + 1 + 1 + 1 ≠ w.heap.size + 1 + 1; omega)).only o2 (by show w.heap.size + 1 + 1 + 1 + 1 ≠ w.heap.size + 1 + 1 + 1; omega)).set0 (.int .i64 E')
  exact ⟨a1, a2.cell (i := 0) rfl, a3.cell (i := 0) rfl, a4.cell (i := 0) rfl, ((h.bel.trans (o1.below (by show _ ≤ w.heap.size + 1 + 1; omega))).trans (o2.below (by show _ ≤ w.heap.size + 1 + 1 + 1; omega))).trans (o3.below (by show _ ≤ w.heap.size + 1 + 1 + 1 + 1; omega))⟩
end
section
variable {w : World} {G S I J : Int} {la : Option Addr} {N : Nat} {L : Nat → Nat → Int} {hs ht : Int} {av : Value} {nn E : Int} {W W' : World}
theorem FdS.head (h : FdS w G S I J la N L hs ht av nn E W) (hTl : 0 < w.heap.size) (hlb : ∀ b off, la = some ⟨b, off, none⟩ → 0 < N → b < w.heap.size) {hs' ht' : Int} (hh : At W' (w.heap.size + 1) 83 #[.int .u32 hs', .int .i64 ht']) (ho : Only (w.heap.size + 1) W W') : FdS w G S I J la N L hs' ht' av nn E W' :=
  ⟨h.g.only ho (by omega), hh, h.l.only ho (by omega), h.n.only ho (by omega), h.e.only ho (by omega), by
    rcases h.r with h0 | h0
    · exact .inl h0
    · rcases Nat.eq_zero_or_pos N with e | e
      · exact .inl e
      · exact RRow.only (.inr h0) ho fun b off e' => by have := hlb b off e' e; omega, h.ta.only ho (by omega), h.bel.trans (ho.below (by omega))⟩
end
section
variable {w : World} {G S I J : Int} {la : Option Addr} {N : Nat} {L : Nat → Nat → Int} {hs ht : Int} {av : Value} {nn E : Int} {W W' : World}
theorem FdS.setE (h : FdS w G S I J la N L hs ht av nn E W) (hTl : 0 < w.heap.size) (hlb : ∀ b off, la = some ⟨b, off, none⟩ → 0 < N → b < w.heap.size) (E' : Int) : FdS w G S I J la N L hs ht av nn E' (W.setCell ⟨w.heap.size + 1 + 1 + 1 + 1, 0, none⟩ (.int .i64 E')) := by
  have ho := Only.setCell W ⟨w.heap.size + 1 + 1 + 1 + 1, 0, none⟩ (.int .i64 E')
  exact ⟨h.g.only ho (by show w.heap.size ≠ w.heap.size + 1 + 1 + 1 + 1; omega), h.h.only ho (by show w.heap.size + 1 ≠ w.heap.size + 1 + 1 + 1 + 1; omega), h.l.only ho (by show w.heap.size + 1 + 1 ≠ w.heap.size + 1 + 1 + 1 + 1; omega), h.n.only ho (by show w.heap.size + 1 + 1 + 1 ≠ w.heap.size + 1 + 1 + 1 + 1; omega), h.e.set0 _, by
    rcases h.r with h0 | h0
    · exact .inl h0
    · rcases Nat.eq_zero_or_pos N with e | e
      · exact .inl e
      · exact RRow.only (.inr h0) ho fun b off e' => by have := hlb b off e' e; show b ≠ w.heap.size + 1 + 1 + 1 + 1; omega, h.ta.only ho (by show w.heap.size + 1 + 1 + 1 + 1 ≠ 0; omega), h.bel.trans (ho.below (by show _ ≤ w.heap.size + 1 + 1 + 1 + 1; omega))⟩
end
theorem hdS_bd {z : Nat → Int} (h : headRd z = true) : 1 ≤ hdS z ∧ hdS z ≤ 2147483648 := by
  unfold hdS; rw [if_pos h]
  unfold headRd at h
  rw [Bool.and_eq_true, beq_iff_eq] at h
  have hk : kindB z = true := by
    cases hk : kindB z with
    | true => rfl
    | false => have := h.1; unfold kindOf at this; rw [hk] at this; cases this
  have hk' := hk
  unfold seqOf
  rw [if_pos hk']
  unfold kindB at hk
  rw [Bool.and_eq_true, Bool.and_eq_true] at hk
  exact of_decide_eq_true hk.2.1
theorem hdT_bd {z : Nat → Int} (hz : Byt z) : 0 ≤ hdT z ∧ hdT z < 4294967296 := by
  unfold hdT; split
  · exact wd_wds hz 3
  · exact ⟨Int.le_refl 0, by decide⟩
theorem at_own_neS {W : World} {p base k size : Nat} {T e : TypeId} {cs : Array Value} {v : Value} {xs : List Value} (hA : At W p T cs) (h : W.ownsRow base e size v k xs) (he : e ≠ T) : v.ownBlock ≠ some p := by
  intro hp
  rcases h.2 with ⟨rfl, _⟩ | ⟨q, cap, cur, rfl, _, hh, _⟩
  · cases hp
  · injection hp with hp
    subst hp
    have := hA.symm.trans hh
    injection this with this
    injection this with _ h2
    exact he h2.symm
/-- transactions that stand in a row -/
def TrR (W : World) (a : Option Addr) (l : List Tr) : Prop :=
  ∃ ca cc ra rc, RRow W a 3 l.length (trC l ca cc ra rc) ∧ ∀ i t, l[i]? = some t → RRow W (ca i) 257 t.n (cpF t.cb t.cd) ∧ RRow W (ra i) 1 t.m (inF t.rv)
theorem TrM.rows {W : World} {B : Nat} {a : Option Addr} {n c : Nat} {l : List Tr} (h : TrM W B (.slice a n c) l) (hn : n = l.length) : TrR W a l := by
  subst hn
  obtain ⟨ca, cc, ra, rc, h1, h2⟩ := h
  exact ⟨ca, cc, ra, rc, (RMine.row h1 (trC_len l ca cc ra rc) : RRow W a 3 l.length _), fun i t ht => ⟨RMine.row (h2 i t ht).1 (cpF_len _ _), RMine.row (h2 i t ht).2 (inF_len _)⟩⟩
/-- .. and they lie in rows of their own -/
def TrQ (W : World) (a : Option Addr) (l : List Tr) : Prop := TrR W a l ∧ ∃ B c, TrM W B (.slice a l.length c) l
theorem TrM.q {W : World} {B : Nat} {a : Option Addr} {n c : Nat} {l : List Tr} (h : TrM W B (.slice a n c) l) (hn : n = l.length) : TrQ W a l := ⟨h.rows hn, B, c, by rw [← hn]; exact h⟩
theorem TrQ.below {W W' : World} {a : Option Addr} {l : List Tr} (h : TrQ W a l) (hb : Below W.heap.size W W') : TrQ W' a l := by
  obtain ⟨_, B, c, h⟩ := h
  exact (h.below hb).q rfl
theorem TrR.below {W W' : World} {a : Option Addr} {l : List Tr} (h : TrR W a l) (hb : Below W.heap.size W W') : TrR W' a l := by
  obtain ⟨ca, cc, ra, rc, h1, h2⟩ := h
  exact ⟨ca, cc, ra, rc, h1.below (by intro e; have := congrArg List.length e; rw [trC_len] at this; cases this) hb, fun i t ht => ⟨(h2 i t ht).1.below (by intro e; cases e) hb, (h2 i t ht).2.below (by intro e; cases e) hb⟩⟩
theorem TrM.only {W W' : World} {B p : Nat} {T : TypeId} {cs : Array Value} {v : Value} {l : List Tr} (h : TrM W B v l) (hA : At W p T cs) (h1 : 154 ≠ T) (h2 : 109 ≠ T) (h3 : 3 ≠ T) (ho : Only p W W') : TrM W' B v l := by
  obtain ⟨ca, cc, ra, rc, k1, k2⟩ := h
  exact ⟨ca, cc, ra, rc, own_only k1 ho (at_own_neS hA k1 h1), fun i t ht => ⟨own_only (k2 i t ht).1 ho (at_own_neS hA (k2 i t ht).1 h2), own_only (k2 i t ht).2 ho (at_own_neS hA (k2 i t ht).2 h3)⟩⟩
/-- at the end -/
structure FdT (w : World) (G S I J : Int) (la : Option Addr) (N : Nat) (L : Nat → Nat → Int) (hs ht : Int) (p8 : Nat) (a : Option Addr) (n c : Nat) (l : List Tr) (W : World) : Prop where
  f : FdS w G S I J la N L 0 0 (.slice a n c) 0 0 W
  p : At W p8 83 #[.int .u32 hs, .int .i64 ht]
  m : TrM W w.heap.size (.slice a n c) l
theorem FdT.below {w : World} {G S I J : Int} {la : Option Addr} {N : Nat} {L : Nat → Nat → Int} {hs ht : Int} {p8 : Nat} {a : Option Addr} {n c : Nat} {l : List Tr} {W W' : World} (h : FdT w G S I J la N L hs ht p8 a n c l W) (hb : Below W.heap.size W W') : FdT w G S I J la N L hs ht p8 a n c l W' := ⟨h.f.below hb, h.p.below hb h.p.lt, h.m.below hb⟩
set_option maxRecDepth 100000 in
theorem run_takeT (a : Option Addr) (len cap k : Nat) (K : Int) (hK : K = (k : Int)) (hk : k ≤ cap) (w : World) :
    (Instr.slice 84 (.slice a len cap) none (some (.int .i64 K)) (some (.int .i64 K))).run Tryz.prog w = .ok (.slice a k k) w := by
  subst hK
  have hsz : (Go.sizeOf 154).run Tryz.prog w = .ok 3 w := by kernel_rfl
  rw [run_slice_hm w 84 a len cap (by kernel_rfl) .i64 .i64 (k : Int) (k : Int) (by omega) (by omega) (by omega), show Tryz.prog.elem 84 = 154 from by kernel_rfl, hsz]
  simp only [Result.andThen, sliced, Int.toNat_natCast, Nat.zero_mul, Nat.sub_zero]
  congr 2
  split
  · rfl
  · cases a with
    | none => rfl
    | some x => rw [Option.map_some, addr_add0]
/-- what the last region's slots hold -/
def PvF (hs ht : Int) (a : Option Addr) (n c : Nat) (X : Int) : Nat → Value → Prop
  | 0, v => v = .agg #[.int .u32 hs, .int .i64 ht]
  | 1, v => v = .slice a n c
  | 2, v => v = .slice a n c
  | 3, v => v = .int .i64 (n : Int)
  | 4, v => v = .slice a n c
  | 5, v => v = .int .i64 (n : Int)
  | 6, v => v = .slice a n n
  | 7, v => v = .int .u64 X
  | 8, v => v = .int .u32 X
  | _, _ => True
/-- what holds between its operations -/
structure FdI (w : World) (p8 : Nat) (hs ht : Int) (a : Option Addr) (n c : Nat) (l : List Tr) (X : Int) (D : Nat) (o : Option Obj) (a0 : Act) (f : Nat → Bool) (a' : Act) (W : World) : Prop where
  defers : a'.defers = a0.defers
  size : a'.tmps.size = 84
  other : ∀ k, k < 75 → a'.tmps.getD k undef = a0.tmps.getD k undef
  vals : ∀ i, i < 9 → f i = true → PvF hs ht a n c X i (a'.tmps.getD (i + 75) undef)
  p : At W p8 83 #[.int .u32 hs, .int .i64 ht]
  h : At W (w.heap.size + 1) 83 (if f 9 then #[.int .u32 hs, .int .i64 ht] else #[.int .u32 0, .int .i64 0])
  fl : At W (w.heap.size + 1 + 1) 84 #[if f 10 then .slice a n n else .slice a n c]
  fn : At W (w.heap.size + 1 + 1 + 1) 45 #[.int .u32 (if f 11 then X else 0)]
  e : At W (w.heap.size + 1 + 1 + 1 + 1) 48 #[.int .i64 0]
  m : TrM W w.heap.size (.slice a n c) l
  w10 : f 10 = true → f 1 = true ∧ f 2 = true ∧ f 4 = true
  d : W.heap[D]? = o
  bel : Below w.heap.size w W
section
variable {w : World} {p8 : Nat} {hs ht : Int} {a : Option Addr} {n c : Nat} {l : List Tr} {X : Int} {D : Nat} {o : Option Obj} {a0 : Act} {f : Nat → Bool} {a' : Act} {W W' : World}
theorem FdI.congr {f' : Nat → Bool} (h : FdI w p8 hs ht a n c l X D o a0 f a' W) (e : ∀ i, i < 13 → f i = f' i) : FdI w p8 hs ht a n c l X D o a0 f' a' W :=
  ⟨h.defers, h.size, h.other, fun i hi hf => h.vals i hi (by rw [e i (by omega)]; exact hf), h.p, by rw [← e 9 (by omega)]; exact h.h, by rw [← e 10 (by omega)]; exact h.fl, by rw [← e 11 (by omega)]; exact h.fn, h.e, h.m, (by rw [← e 10 (by omega), ← e 1 (by omega), ← e 2 (by omega), ← e 4 (by omega)]; exact h.w10), h.d, h.bel⟩
theorem or_ne {i k : Nat} (f : Nat → Bool) (h : k ≠ i) : (k == i || f k) = f k := by rw [show (k == i) = false by simpa using h, Bool.false_or]
theorem or_eq {i k : Nat} (f : Nat → Bool) (h : k = i) : (k == i || f k) = true := by rw [show (k == i) = true by simpa using h, Bool.true_or]
theorem FdI.mono (h : FdI w p8 hs ht a n c l X D o a0 f a' W) {i : Nat} (hi : 10 ≠ i) : (10 == i || f 10) = true → (1 == i || f 1) = true ∧ (2 == i || f 2) = true ∧ (4 == i || f 4) = true := by
  rw [or_ne f hi]
  intro e
  obtain ⟨h1, h2, h4⟩ := h.w10 e
  rw [h1, h2, h4]
  simp
theorem FdI.quiet (h : FdI w p8 hs ht a n c l X D o a0 f a' W) (i : Nat) (hi : i < 9) (v : Value) (hv : PvF hs ht a n c X i v) : FdI w p8 hs ht a n c l X D o a0 (fun j => j == i || f j) (a'.put (some (i + 75)) v) W := by
  refine ⟨h.defers, by rw [Tb.put_size]; exact h.size, fun k hk => (Tb.put_other _ _ _ _ (by omega)).trans (h.other k hk), fun j hj hf => ?_, h.p, ?_, ?_, ?_, h.e, h.m, h.mono (show 10 ≠ i by omega), h.d, h.bel⟩
  · by_cases e : j = i
    · subst e
      rw [Tb.put_same _ _ _ (by rw [h.size]; omega)]
      exact hv
    · rw [Tb.put_other _ _ _ _ (by omega)]
      exact h.vals j hj (by rw [← or_ne f e]; exact hf)
  · show At W _ _ (if (9 == i || f 9) = true then _ else _)
    rw [or_ne f (by omega)]; exact h.h
  · show At W _ _ #[if (10 == i || f 10) = true then _ else _]
    rw [or_ne f (by omega)]; exact h.fl
  · show At W _ _ #[.int .u32 (if (11 == i || f 11) = true then _ else _)]
    rw [or_ne f (by omega)]; exact h.fn
theorem FdI.st9 (h : FdI w p8 hs ht a n c l X D o a0 f a' W) (hp8 : w.heap.size + 1 + 1 + 1 + 1 < p8) (hD : w.heap.size + 1 + 1 + 1 + 1 < D) (hh : At W' (w.heap.size + 1) 83 #[.int .u32 hs, .int .i64 ht]) (ho : Only (w.heap.size + 1) W W') :
    FdI w p8 hs ht a n c l X D o a0 (fun j => j == 9 || f j) (a'.put none undef) W' := by
  refine ⟨h.defers, h.size, h.other, fun j hj hf => h.vals j hj (by rw [← or_ne f (show j ≠ 9 by omega)]; exact hf), h.p.only ho (by omega), ?_, ?_, ?_, h.e.only ho (by omega), h.m.only h.h (by decide) (by decide) (by decide) ho, h.mono (show 10 ≠ 9 by omega), (ho.block D (by omega)).trans h.d, h.bel.trans (ho.below (by omega))⟩
  · show At W' _ _ (if (9 == 9 || f 9) = true then _ else _)
    rw [or_eq f rfl, if_pos rfl]; exact hh
  · show At W' _ _ #[if (10 == 9 || f 10) = true then _ else _]
    rw [or_ne f (by omega)]; exact h.fl.only ho (by omega)
  · show At W' _ _ #[.int .u32 (if (11 == 9 || f 11) = true then _ else _)]
    rw [or_ne f (by omega)]; exact h.fn.only ho (by omega)
theorem FdI.st10 (h : FdI w p8 hs ht a n c l X D o a0 f a' W) (h1 : f 1 = true) (h2 : f 2 = true) (h4 : f 4 = true) (hp8 : w.heap.size + 1 + 1 + 1 + 1 < p8) (hD : w.heap.size + 1 + 1 + 1 + 1 < D) :
    FdI w p8 hs ht a n c l X D o a0 (fun j => j == 10 || f j) (a'.put none undef) (W.setCell ⟨w.heap.size + 1 + 1, 0, none⟩ (.slice a n n)) := by
  have ho := Only.setCell W ⟨w.heap.size + 1 + 1, 0, none⟩ (.slice a n n)
  refine ⟨h.defers, h.size, h.other, fun j hj hf => h.vals j hj (by rw [← or_ne f (show j ≠ 10 by omega)]; exact hf), h.p.only ho (by show p8 ≠ w.heap.size + 1 + 1; omega), ?_, ?_, ?_, h.e.only ho (by show w.heap.size + 1 + 1 + 1 + 1 ≠ w.heap.size + 1 + 1; omega), h.m.only h.fl (by decide) (by decide) (by decide) ho, (fun _ => ⟨by show (1 == 10 || f 1) = true; rw [h1, Bool.or_true], by show (2 == 10 || f 2) = true; rw [h2, Bool.or_true], by show (4 == 10 || f 4) = true; rw [h4, Bool.or_true]⟩), (ho.block D (by show D ≠ w.heap.size + 1 + 1; omega)).trans h.d, h.bel.trans (ho.below (by show _ ≤ w.heap.size + 1 + 1; omega))⟩
  · show At _ _ _ (if (9 == 10 || f 9) = true then _ else _)
    rw [or_ne f (by omega)]; exact h.h.only ho (by show w.heap.size + 1 ≠ w.heap.size + 1 + 1; omega)
  · show At _ _ _ #[if (10 == 10 || f 10) = true then _ else _]
    rw [or_eq f rfl, if_pos rfl]; exact h.fl.set0 _
  · show At _ _ _ #[.int .u32 (if (11 == 10 || f 11) = true then _ else _)]
    rw [or_ne f (by omega)]; exact h.fn.only ho (by show w.heap.size + 1 + 1 + 1 ≠ w.heap.size + 1 + 1; omega)
theorem FdI.st11 (h : FdI w p8 hs ht a n c l X D o a0 f a' W) (hp8 : w.heap.size + 1 + 1 + 1 + 1 < p8) (hD : w.heap.size + 1 + 1 + 1 + 1 < D) :
    FdI w p8 hs ht a n c l X D o a0 (fun j => j == 11 || f j) (a'.put none undef) (W.setCell ⟨w.heap.size + 1 + 1 + 1, 0, none⟩ (.int .u32 X)) := by
  have ho := Only.setCell W ⟨w.heap.size + 1 + 1 + 1, 0, none⟩ (.int .u32 X)
  refine ⟨h.defers, h.size, h.other, fun j hj hf => h.vals j hj (by rw [← or_ne f (show j ≠ 11 by omega)]; exact hf), h.p.only ho (by show p8 ≠ w.heap.size + 1 + 1 + 1; omega), ?_, ?_, ?_, h.e.only ho (by show w.heap.size + 1 + 1 + 1 + 1 ≠ w.heap.size + 1 + 1 + 1; omega), h.m.only h.fn (by decide) (by decide) (by decide) ho, h.mono (show 10 ≠ 11 by omega), (ho.block D (by show D ≠ w.heap.size + 1 + 1 + 1; omega)).trans h.d, h.bel.trans (ho.below (by show _ ≤ w.heap.size + 1 + 1 + 1; omega))⟩
  · show At _ _ _ (if (9 == 11 || f 9) = true then _ else _)
    rw [or_ne f (by omega)]; exact h.h.only ho (by show w.heap.size + 1 ≠ w.heap.size + 1 + 1 + 1; omega)
  · show At _ _ _ #[if (10 == 11 || f 10) = true then _ else _]
    rw [or_ne f (by omega)]; exact h.fl.only ho (by show w.heap.size + 1 + 1 ≠ w.heap.size + 1 + 1 + 1; omega)
  · show At _ _ _ #[.int .u32 (if (11 == 11 || f 11) = true then _ else _)]
    rw [or_eq f rfl, if_pos rfl]; exact h.fn.set0 _
theorem FdI.st12 (h : FdI w p8 hs ht a n c l X D o a0 f a' W) (hp8 : w.heap.size + 1 + 1 + 1 + 1 < p8) (hD : w.heap.size + 1 + 1 + 1 + 1 < D) :
    FdI w p8 hs ht a n c l X D o a0 (fun j => j == 12 || f j) (a'.put none undef) (W.setCell ⟨w.heap.size + 1 + 1 + 1 + 1, 0, none⟩ (.int .i64 0)) := by
  have ho := Only.setCell W ⟨w.heap.size + 1 + 1 + 1 + 1, 0, none⟩ (.int .i64 0)
  refine ⟨h.defers, h.size, h.other, fun j hj hf => h.vals j hj (by rw [← or_ne f (show j ≠ 12 by omega)]; exact hf), h.p.only ho (by show p8 ≠ w.heap.size + 1 + 1 + 1 + 1; omega), ?_, ?_, ?_, h.e.set0 _, h.m.only h.e (by decide) (by decide) (by decide) ho, h.mono (show 10 ≠ 12 by omega), (ho.block D (by show D ≠ w.heap.size + 1 + 1 + 1 + 1; omega)).trans h.d, h.bel.trans (ho.below (by show _ ≤ w.heap.size + 1 + 1 + 1 + 1; omega))⟩
  · show At _ _ _ (if (9 == 12 || f 9) = true then _ else _)
    rw [or_ne f (by omega)]; exact h.h.only ho (by show w.heap.size + 1 ≠ w.heap.size + 1 + 1 + 1 + 1; omega)
  · show At _ _ _ #[if (10 == 12 || f 10) = true then _ else _]
    rw [or_ne f (by omega)]; exact h.fl.only ho (by show w.heap.size + 1 + 1 ≠ w.heap.size + 1 + 1 + 1 + 1; omega)
  · show At _ _ _ #[.int .u32 (if (11 == 12 || f 11) = true then _ else _)]
    rw [or_ne f (by omega)]; exact h.fn.only ho (by show w.heap.size + 1 + 1 + 1 ≠ w.heap.size + 1 + 1 + 1 + 1; omega)
end
theorem op_stc {w : World} {o : Oper} {a : Act} {K : Act → World → Prop} {Q : Exit → Act → World → Prop} (ty : TypeId) (x y : Operand) (ho : o.op = .store ty x y) (g : Nat) (u v : Value) (t : TypeId) (hx : a.eval x = .pointer (some ⟨g, 0, none⟩)) (hy : a.eval y = v) (hA : At w g t #[u])
    (hs : ∀ W : World, W.cell? ⟨g, 0, none⟩ = some u → W.frozen? ⟨g, 0, none⟩ = false → (Instr.storeAt ty (.pointer (some ⟨g, 0, none⟩)) v).run Tryz.prog W = .ok () (W.setCell ⟨g, 0, none⟩ v)) (h : K (a.put o.dst undef) (w.setCell ⟨g, 0, none⟩ v)) : o.wp Tryz.prog a w K Q := by
  refine op_skip ?_ h
  unfold execOp
  simp only [ho, hx, hy, Sem.run_bind, hs w (hA.cell (i := 0) rfl) (soft_of_heap hA 0), Result.andThen_ok, Sem.run_pure]
theorem stc_trs (g : Nat) (u : Value) (a : Option Addr) (n c : Nat) (W : World) (h1 : W.cell? ⟨g, 0, none⟩ = some u) (h2 : W.frozen? ⟨g, 0, none⟩ = false) : (Instr.storeAt 84 (.pointer (some ⟨g, 0, none⟩)) (.slice a n c)).run Tryz.prog W = .ok () (W.setCell ⟨g, 0, none⟩ (.slice a n c)) := by
  simp [go_sem, h1, h2]
theorem stc_u32 (g : Nat) (u : Value) (X : Int) (W : World) (h1 : W.cell? ⟨g, 0, none⟩ = some u) (h2 : W.frozen? ⟨g, 0, none⟩ = false) : (Instr.storeAt 45 (.pointer (some ⟨g, 0, none⟩)) (.int .u32 X)).run Tryz.prog W = .ok () (W.setCell ⟨g, 0, none⟩ (.int .u32 X)) := by
  simp [go_sem, h1, h2]
theorem stc_err (g : Nat) (u : Value) (X : Int) (W : World) (h1 : W.cell? ⟨g, 0, none⟩ = some u) (h2 : W.frozen? ⟨g, 0, none⟩ = false) : (Instr.storeAt 48 (.pointer (some ⟨g, 0, none⟩)) (.int .i64 X)).run Tryz.prog W = .ok () (W.setCell ⟨g, 0, none⟩ (.int .i64 X)) := by
  simp [go_sem, h1, h2]
theorem wp_region_invA {P : Program} (I : Act → (Nat → Bool) → Act → World → Prop) {id : Nat} {Q : Exit → Act → World → Prop} {a : Act} {w : World} {L : List Oper} (hm : P.follows .mixedOrders = true) (hd : downB .any L.toArray = true)
    (hI : ∀ l l' a' w, (∀ i, i < L.length → l i = l' i) → I a l a' w → I a l' a' w) (h0 : I a (fun _ => false) a { w with drawn := w.drawn + 1 }) (hst : StepsI P .any L.toArray Q (I a) 0 L)
    (hend : ∀ a' w', I a (fun _ => true) a' w' → Q .normal a' w') : (Code.region id L.toArray true).wp P Q a w := wp_region_inv (I a) hm hd hI h0 hst hend
/-- what Find tells -/
def FdPost (w : World) (G S I J : Int) (N : Nat) (L : Nat → Nat → Int) (e : Ending) (w' : World) : Prop :=
  (fdE G S I J N L ≠ 0 ∧ e = .returned (.tuple #[.agg #[.int .u32 0, .int .i64 0], .slice none 0 0, .int .u32 0, .int .i64 (fdE G S I J N L)])) ∨
  (fdE G S I J N L = 0 ∧ ∃ a cap, e = .returned (.tuple #[.agg #[.int .u32 (hdS (L 2)), .int .i64 (hdT (L 2))], .slice a (fdL J L).length cap, .int .u32 (hdS (L 2) + (fdL J L).length + 1), .int .i64 0]) ∧ TrQ w' a (fdL J L))

end Go.Proofs.YtnbmmhoofilmfaaGreatDoor
