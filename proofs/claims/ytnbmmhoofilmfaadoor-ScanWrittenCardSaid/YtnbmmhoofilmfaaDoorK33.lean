/- Texts of this claim, merged by a program (a claim may have 60 files): Sc4a, Sc4b. -/
import Derived.Test.YtnbmmhoofilmfaaDoorK31
import Derived.Test.YtnbmmhoofilmfaaDoorK32
/- scan.Find: its results' boxes; the region that stores them at the end. -/
namespace Go.Proofs.YtnbmmhoofilmfaaDoor
open Go.RowKit
set_option linter.unusedVariables false

/-- what the results' boxes hold when all are stored -/
theorem results_fd {fn : Func} (h : fn.results = #[.cell 4 36, .cell 5 56, .cell 6 34, .cell 7 27]) (tmps : Array Value) (W : World) (b4 b5 b6 b7 : Nat) (s t : Int) (v : Value) (nn e : Int)
    (hp4 : tmps.getD 4 undef = .pointer (some ⟨b4, 0, none⟩)) (hp5 : tmps.getD 5 undef = .pointer (some ⟨b5, 0, none⟩)) (hp6 : tmps.getD 6 undef = .pointer (some ⟨b6, 0, none⟩)) (hp7 : tmps.getD 7 undef = .pointer (some ⟨b7, 0, none⟩))
    (h4 : At W b4 36 #[.int .u32 s, .int .i64 t]) (h5 : W.cell? ⟨b5, 0, none⟩ = some v) (h6 : W.cell? ⟨b6, 0, none⟩ = some (.int .u32 nn)) (h7 : W.cell? ⟨b7, 0, none⟩ = some (.int .i64 e)) : (results fn tmps).run Tryd.prog W = .ok (.tuple #[.agg #[.int .u32 s, .int .i64 t], v, .int .u32 nn, .int .i64 e]) W := by
  have hp4' : tmps[4]?.getD undef = .pointer (some ⟨b4, 0, none⟩) := by simpa using hp4
  have hp5' : tmps[5]?.getD undef = .pointer (some ⟨b5, 0, none⟩) := by simpa using hp5
  have hp6' : tmps[6]?.getD undef = .pointer (some ⟨b6, 0, none⟩) := by simpa using hp6
  have hp7' : tmps[7]?.getD undef = .pointer (some ⟨b7, 0, none⟩) := by simpa using hp7
  have c0 := h4.cell (i := 0) (v := .int .u32 s) rfl
  have c1 := h4.cell (i := 1) (v := .int .i64 t) rfl
  simp [results, h, hp4', hp5', hp6', hp7', go_sem, h5, h6, h7, c0, c1]
/-- three results stored -/
def st3 (W : World) (B : Nat) (v : Value) (nn E : Int) : World := ((W.setCell ⟨B + 1 + 1, 0, none⟩ v).setCell ⟨B + 1 + 1 + 1, 0, none⟩ (.int .u32 nn)).setCell ⟨B + 1 + 1 + 1 + 1, 0, none⟩ (.int .i64 E)
section
variable {w : World} {G S I J : Int} {la : Option Addr} {N : Nat} {L : Nat → Nat → Int} {hs ht : Int} {av : Value} {nn E : Int} {W W' : World}
theorem FdS.fin (h : FdS w G S I J la N L hs ht av nn E W) (v : Value) (n' E' : Int) : At (st3 W w.heap.size v n' E') (w.heap.size + 1) 36 #[.int .u32 hs, .int .i64 ht] ∧ (st3 W w.heap.size v n' E').cell? ⟨w.heap.size + 1 + 1, 0, none⟩ = some v ∧ (st3 W w.heap.size v n' E').cell? ⟨w.heap.size + 1 + 1 + 1, 0, none⟩ = some (.int .u32 n') ∧
    (st3 W w.heap.size v n' E').cell? ⟨w.heap.size + 1 + 1 + 1 + 1, 0, none⟩ = some (.int .i64 E') ∧ Below w.heap.size w (st3 W w.heap.size v n' E') := by
  unfold st3
  have o1 := Only.setCell W ⟨w.heap.size + 1 + 1, 0, none⟩ v
  have o2 := Only.setCell (W.setCell ⟨w.heap.size + 1 + 1, 0, none⟩ v) ⟨w.heap.size + 1 + 1 + 1, 0, none⟩ (.int .u32 n')
  have o3 := Only.setCell ((W.setCell ⟨w.heap.size + 1 + 1, 0, none⟩ v).setCell ⟨w.heap.size + 1 + 1 + 1, 0, none⟩ (.int .u32 n')) ⟨w.heap.size + 1 + 1 + 1 + 1, 0, none⟩ (.int .i64 E')
  have a1 := ((h.h.only o1 (by show w.heap.size + 1 ≠ w.heap.size + 1 + 1; omega)).only o2 (by show w.heap.size + 1 ≠ w.heap.size + 1 + 1 + 1; omega)).only o3 (by show w.heap.size + 1 ≠ w.heap.size + 1 + 1 + 1 + 1; omega)
  have a2 := ((h.l.set0 v).only o2 (by show w.heap.size + 1 + 1 ≠ w.heap.size + 1 + 1 + 1; omega)).only o3 (by show w.heap.size + 1 + 1 ≠ w.heap.size + 1 + 1 + 1 + 1; omega)
  have a3 := ((h.n.only o1 (by show w.heap.size + 1 + 1 + 1 ≠ w.heap.size + 1 + 1; omega)).set0 (.int .u32 n')).only o3 (by show w.heap.size + 1 + 1 + 1 ≠ w.heap.size + 1 + 1 + 1 + 1; omega)
  have a4 := ((h.e.only o1 (by show w.heap.size + 1 + 1 + 1 + 1 ≠ w.heap.size + 1 + 1; omega)).only o2 (by show w.heap.size + 1 + 1 + 1 + 1 ≠ w.heap.size + 1 + 1 + 1; omega)).set0 (.int .i64 E')
  exact ⟨a1, a2.cell (i := 0) rfl, a3.cell (i := 0) rfl, a4.cell (i := 0) rfl, ((h.bel.trans (o1.below (by show _ ≤ w.heap.size + 1 + 1; omega))).trans (o2.below (by show _ ≤ w.heap.size + 1 + 1 + 1; omega))).trans (o3.below (by show _ ≤ w.heap.size + 1 + 1 + 1 + 1; omega))⟩
end
section
variable {w : World} {G S I J : Int} {la : Option Addr} {N : Nat} {L : Nat → Nat → Int} {hs ht : Int} {av : Value} {nn E : Int} {W W' : World}
theorem FdS.head (h : FdS w G S I J la N L hs ht av nn E W) (hTl : 0 < w.heap.size) (hlb : ∀ b off, la = some ⟨b, off, none⟩ → 0 < N → b < w.heap.size) {hs' ht' : Int} (hh : At W' (w.heap.size + 1) 36 #[.int .u32 hs', .int .i64 ht']) (ho : Only (w.heap.size + 1) W W') : FdS w G S I J la N L hs' ht' av nn E W' :=
  ⟨h.g.only ho (by omega), hh, h.l.only ho (by omega), h.n.only ho (by omega), h.e.only ho (by omega), by
    rcases h.r with h0 | h0
    · exact .inl h0
    · rcases Nat.eq_zero_or_pos N with e | e
      · exact .inl e
      · exact RRow.only (.inr h0) ho fun b off e' => by have := hlb b off e' e; omega, h.ta.only ho (by omega), h.bel.trans (ho.below (by omega))⟩
end
/-- .. behind a loop over a function -/
theorem st3_D {W : World} {B D : Nat} (v : Value) (nn E : Int) (hD : W.heap[D]? = some (.deferred (some []))) (hB : B + 1 + 1 + 1 + 1 < D) : (st3 W B v nn E).heap[D]? = some (.deferred (some [])) := by
  unfold st3
  have o1 := Only.setCell W ⟨B + 1 + 1, 0, none⟩ v
  have o2 := Only.setCell (W.setCell ⟨B + 1 + 1, 0, none⟩ v) ⟨B + 1 + 1 + 1, 0, none⟩ (.int .u32 nn)
  have o3 := Only.setCell ((W.setCell ⟨B + 1 + 1, 0, none⟩ v).setCell ⟨B + 1 + 1 + 1, 0, none⟩ (.int .u32 nn)) ⟨B + 1 + 1 + 1 + 1, 0, none⟩ (.int .i64 E)
  exact (((o3.block D (by show D ≠ B + 1 + 1 + 1 + 1; omega)).trans (o2.block D (by show D ≠ B + 1 + 1 + 1; omega))).trans (o1.block D (by show D ≠ B + 1 + 1; omega))).trans hD
section
variable {w : World} {G S I J : Int} {la : Option Addr} {N : Nat} {L : Nat → Nat → Int} {hs ht : Int} {av : Value} {nn E : Int} {W W' : World}
theorem FdS.finD (h : FdS w G S I J la N L hs ht av nn E W) (v : Value) (n' E' : Int) {D : Nat} (hD : W.heap[D]? = some (.deferred (some []))) (hB : w.heap.size + 1 + 1 + 1 + 1 < D) :
    At ((st3 W w.heap.size v n' E').putObj D (.deferred none)) (w.heap.size + 1) 36 #[.int .u32 hs, .int .i64 ht] ∧ ((st3 W w.heap.size v n' E').putObj D (.deferred none)).cell? ⟨w.heap.size + 1 + 1, 0, none⟩ = some v ∧ ((st3 W w.heap.size v n' E').putObj D (.deferred none)).cell? ⟨w.heap.size + 1 + 1 + 1, 0, none⟩ = some (.int .u32 n') ∧
    ((st3 W w.heap.size v n' E').putObj D (.deferred none)).cell? ⟨w.heap.size + 1 + 1 + 1 + 1, 0, none⟩ = some (.int .i64 E') ∧ Below w.heap.size w ((st3 W w.heap.size v n' E').putObj D (.deferred none)) := by
  obtain ⟨h1, h2, h3, h4, h5⟩ := h.fin v n' E'
  have hD' := st3_D (B := w.heap.size) v n' E' hD hB
  have hg := grownBy_putObj' (st3 W w.heap.size v n' E') D (.deferred none)
  have hr : ∀ r, some D = some r → 0 ≤ r ∧ ∃ o : Obj, (st3 W w.heap.size v n' E').heap[r]? = some o ∧ o.isCells = false := fun r e => by cases e; exact ⟨Nat.zero_le _, _, hD', rfl⟩
  exact ⟨Kept.at _ _ _ _ _ h1 hg hr, Kept.cell 0 _ _ _ _ _ h2 hg hr, Kept.cell 0 _ _ _ _ _ h3 hg hr, Kept.cell 0 _ _ _ _ _ h4 hg hr, below_putObj h5 _ (Nat.le_refl _) (by omega)⟩
theorem FdS.setE (h : FdS w G S I J la N L hs ht av nn E W) (hTl : 0 < w.heap.size) (hlb : ∀ b off, la = some ⟨b, off, none⟩ → 0 < N → b < w.heap.size) (E' : Int) : FdS w G S I J la N L hs ht av nn E' (W.setCell ⟨w.heap.size + 1 + 1 + 1 + 1, 0, none⟩ (.int .i64 E')) := by
  have ho := Only.setCell W ⟨w.heap.size + 1 + 1 + 1 + 1, 0, none⟩ (.int .i64 E')
  exact ⟨h.g.only ho (by show w.heap.size ≠ w.heap.size + 1 + 1 + 1 + 1; omega), h.h.only ho (by show w.heap.size + 1 ≠ w.heap.size + 1 + 1 + 1 + 1; omega), h.l.only ho (by show w.heap.size + 1 + 1 ≠ w.heap.size + 1 + 1 + 1 + 1; omega), h.n.only ho (by show w.heap.size + 1 + 1 + 1 ≠ w.heap.size + 1 + 1 + 1 + 1; omega), h.e.set0 _, by
    rcases h.r with h0 | h0
    · exact .inl h0
    · rcases Nat.eq_zero_or_pos N with e | e
      · exact .inl e
      · exact RRow.only (.inr h0) ho fun b off e' => by have := hlb b off e' e; show b ≠ w.heap.size + 1 + 1 + 1 + 1; omega, h.ta.only ho (by show w.heap.size + 1 + 1 + 1 + 1 ≠ 0; omega), h.bel.trans (ho.below (by show _ ≤ w.heap.size + 1 + 1 + 1 + 1; omega))⟩
end
theorem hdS_bd {z : Nat → Int} (h : headRd z = true) : 1 ≤ hdS z ∧ hdS z ≤ 2147483648 := by
  unfold hdS; rw [if_pos h]
  unfold headRd at h
  rw [Bool.and_eq_true, beq_iff_eq] at h
  have hk : kindB z = true := by
    cases hk : kindB z with
    | true => rfl
    | false => have := h.1; unfold kindOf at this; rw [hk] at this; cases this
  have hk' := hk
  unfold seqOf
  rw [if_pos hk']
  unfold kindB at hk
  rw [Bool.and_eq_true, Bool.and_eq_true] at hk
  exact of_decide_eq_true hk.2.1
theorem hdT_bd {z : Nat → Int} (hz : Byt z) : 0 ≤ hdT z ∧ hdT z < 4294967296 := by
  unfold hdT; split
  · exact wd_wds hz 3
  · exact ⟨Int.le_refl 0, by decide⟩
theorem at_own_neS {W : World} {p base k size : Nat} {T e : TypeId} {cs : Array Value} {v : Value} {xs : List Value} (hA : At W p T cs) (h : W.ownsRow base e size v k xs) (he : e ≠ T) : v.ownBlock ≠ some p := by
  intro hp
  rcases h.2 with ⟨rfl, _⟩ | ⟨q, cap, cur, rfl, _, hh, _⟩
  · cases hp
  · injection hp with hp
    subst hp
    have := hA.symm.trans hh
    injection this with this
    injection this with _ h2
    exact he h2.symm
/-- transactions that stand in a row -/
def TrR (W : World) (a : Option Addr) (l : List Tr) : Prop :=
  ∃ ca cc ra rc, RRow W a 3 l.length (trC l ca cc ra rc) ∧ ∀ i t, l[i]? = some t → RRow W (ca i) 257 t.n (cpF t.cb t.cd) ∧ RRow W (ra i) 1 t.m (inF t.rv)
theorem TrM.rows {W : World} {B : Nat} {a : Option Addr} {n c : Nat} {l : List Tr} (h : TrM W B (.slice a n c) l) (hn : n = l.length) : TrR W a l := by
  subst hn
  obtain ⟨ca, cc, ra, rc, h1, h2⟩ := h
  exact ⟨ca, cc, ra, rc, (RMine.row h1 (trC_len l ca cc ra rc) : RRow W a 3 l.length _), fun i t ht => ⟨RMine.row (h2 i t ht).1 (cpF_len _ _), RMine.row (h2 i t ht).2 (inF_len _)⟩⟩
/-- .. and they lie in rows of their own -/
def TrQ (W : World) (a : Option Addr) (l : List Tr) : Prop := TrR W a l ∧ ∃ B c, TrM W B (.slice a l.length c) l
theorem TrM.q {W : World} {B : Nat} {a : Option Addr} {n c : Nat} {l : List Tr} (h : TrM W B (.slice a n c) l) (hn : n = l.length) : TrQ W a l := ⟨h.rows hn, B, c, by rw [← hn]; exact h⟩
theorem TrQ.below {W W' : World} {a : Option Addr} {l : List Tr} (h : TrQ W a l) (hb : Below W.heap.size W W') : TrQ W' a l := by
  obtain ⟨_, B, c, h⟩ := h
  exact (h.below hb).q rfl
theorem TrQ.kept {W W' : World} {a : Option Addr} {l : List Tr} (h : TrQ W a l) (hk : ∀ B c, TrM W B (.slice a l.length c) l → TrM W' B (.slice a l.length c) l) : TrQ W' a l := by
  obtain ⟨_, B, c, h⟩ := h
  exact (hk B c h).q rfl
theorem TrR.below {W W' : World} {a : Option Addr} {l : List Tr} (h : TrR W a l) (hb : Below W.heap.size W W') : TrR W' a l := by
  obtain ⟨ca, cc, ra, rc, h1, h2⟩ := h
  exact ⟨ca, cc, ra, rc, h1.below (by intro e; have := congrArg List.length e; rw [trC_len] at this; cases this) hb, fun i t ht => ⟨(h2 i t ht).1.below (by intro e; cases e) hb, (h2 i t ht).2.below (by intro e; cases e) hb⟩⟩
theorem TrM.only {W W' : World} {B p : Nat} {T : TypeId} {cs : Array Value} {v : Value} {l : List Tr} (h : TrM W B v l) (hA : At W p T cs) (h1 : 51 ≠ T) (h2 : 101 ≠ T) (h3 : 3 ≠ T) (ho : Only p W W') : TrM W' B v l := by
  obtain ⟨ca, cc, ra, rc, k1, k2⟩ := h
  exact ⟨ca, cc, ra, rc, own_only k1 ho (at_own_neS hA k1 h1), fun i t ht => ⟨own_only (k2 i t ht).1 ho (at_own_neS hA (k2 i t ht).1 h2), own_only (k2 i t ht).2 ho (at_own_neS hA (k2 i t ht).2 h3)⟩⟩
theorem FdS.trs {w : World} {G S I J : Int} {la : Option Addr} {N : Nat} {L : Nat → Nat → Int} {hs ht : Int} {av : Value} {nn E : Int} {W : World} (h : FdS w G S I J la N L hs ht av nn E W) {B : Nat} {v : Value} {l : List Tr} (hM : TrM W B v l) (v' : Value) (n' E' : Int) : TrM (st3 W w.heap.size v' n' E') B v l := by
  unfold st3
  have o1 := Only.setCell W ⟨w.heap.size + 1 + 1, 0, none⟩ v'
  have o2 := Only.setCell (W.setCell ⟨w.heap.size + 1 + 1, 0, none⟩ v') ⟨w.heap.size + 1 + 1 + 1, 0, none⟩ (.int .u32 n')
  have o3 := Only.setCell ((W.setCell ⟨w.heap.size + 1 + 1, 0, none⟩ v').setCell ⟨w.heap.size + 1 + 1 + 1, 0, none⟩ (.int .u32 n')) ⟨w.heap.size + 1 + 1 + 1 + 1, 0, none⟩ (.int .i64 E')
  have a3 := h.n.only o1 (by show w.heap.size + 1 + 1 + 1 ≠ w.heap.size + 1 + 1; omega)
  have a4 := (h.e.only o1 (by show w.heap.size + 1 + 1 + 1 + 1 ≠ w.heap.size + 1 + 1; omega)).only o2 (by show w.heap.size + 1 + 1 + 1 + 1 ≠ w.heap.size + 1 + 1 + 1; omega)
  exact ((hM.only h.l (by decide) (by decide) (by decide) o1).only a3 (by decide) (by decide) (by decide) o2).only a4 (by decide) (by decide) (by decide) o3
/-- at the end -/
structure FdT (w : World) (G S I J : Int) (la : Option Addr) (N : Nat) (L : Nat → Nat → Int) (hs ht : Int) (p8 : Nat) (a : Option Addr) (n c : Nat) (l : List Tr) (W : World) : Prop where
  f : FdS w G S I J la N L 0 0 (.slice a n c) 0 0 W
  p : At W p8 36 #[.int .u32 hs, .int .i64 ht]
  m : TrM W w.heap.size (.slice a n c) l
theorem FdT.below {w : World} {G S I J : Int} {la : Option Addr} {N : Nat} {L : Nat → Nat → Int} {hs ht : Int} {p8 : Nat} {a : Option Addr} {n c : Nat} {l : List Tr} {W W' : World} (h : FdT w G S I J la N L hs ht p8 a n c l W) (hb : Below W.heap.size W W') : FdT w G S I J la N L hs ht p8 a n c l W' := ⟨h.f.below hb, h.p.below hb h.p.lt, h.m.below hb⟩
set_option maxRecDepth 100000 in
theorem run_takeT (a : Option Addr) (len cap k : Nat) (K : Int) (hK : K = (k : Int)) (hk : k ≤ cap) (w : World) :
    (Instr.slice 56 (.slice a len cap) none (some (.int .i64 K)) (some (.int .i64 K))).run Tryd.prog w = .ok (.slice a k k) w := by
  subst hK
  have hsz : (Go.sizeOf 51).run Tryd.prog w = .ok 3 w := by kernel_rfl
  rw [run_slice_hm w 56 a len cap (by kernel_rfl) .i64 .i64 (k : Int) (k : Int) (by omega) (by omega) (by omega), show Tryd.prog.elem 56 = 51 from by kernel_rfl, hsz]
  simp only [Result.andThen, sliced, Int.toNat_natCast, Nat.zero_mul, Nat.sub_zero]
  congr 2
  split
  · rfl
  · cases a with
    | none => rfl
    | some x => rw [Option.map_some, addr_add0]
/-- what the last region's slots hold -/
def PvF (hs ht : Int) (a : Option Addr) (n c : Nat) (X : Int) : Nat → Value → Prop
  | 0, v => v = .agg #[.int .u32 hs, .int .i64 ht]
  | 1, v => v = .slice a n c
  | 2, v => v = .slice a n c
  | 3, v => v = .int .i64 (n : Int)
  | 4, v => v = .slice a n c
  | 5, v => v = .int .i64 (n : Int)
  | 6, v => v = .slice a n n
  | 7, v => v = .int .u64 X
  | 8, v => v = .int .u32 X
  | _, _ => True
/-- what holds between its operations -/
structure FdI (w : World) (p8 : Nat) (hs ht : Int) (a : Option Addr) (n c : Nat) (l : List Tr) (X : Int) (D : Nat) (o : Option Obj) (a0 : Act) (f : Nat → Bool) (a' : Act) (W : World) : Prop where
  defers : a'.defers = a0.defers
  size : a'.tmps.size = 84
  other : ∀ k, k < 75 → a'.tmps.getD k undef = a0.tmps.getD k undef
  vals : ∀ i, i < 9 → f i = true → PvF hs ht a n c X i (a'.tmps.getD (i + 75) undef)
  p : At W p8 36 #[.int .u32 hs, .int .i64 ht]
  h : At W (w.heap.size + 1) 36 (if f 9 then #[.int .u32 hs, .int .i64 ht] else #[.int .u32 0, .int .i64 0])
  fl : At W (w.heap.size + 1 + 1) 56 #[if f 10 then .slice a n n else .slice a n c]
  fn : At W (w.heap.size + 1 + 1 + 1) 34 #[.int .u32 (if f 11 then X else 0)]
  e : At W (w.heap.size + 1 + 1 + 1 + 1) 27 #[.int .i64 0]
  m : TrM W w.heap.size (.slice a n c) l
  w10 : f 10 = true → f 1 = true ∧ f 2 = true ∧ f 4 = true
  d : W.heap[D]? = o
  bel : Below w.heap.size w W
section
variable {w : World} {p8 : Nat} {hs ht : Int} {a : Option Addr} {n c : Nat} {l : List Tr} {X : Int} {D : Nat} {o : Option Obj} {a0 : Act} {f : Nat → Bool} {a' : Act} {W W' : World}
theorem FdI.congr {f' : Nat → Bool} (h : FdI w p8 hs ht a n c l X D o a0 f a' W) (e : ∀ i, i < 13 → f i = f' i) : FdI w p8 hs ht a n c l X D o a0 f' a' W :=
  ⟨h.defers, h.size, h.other, fun i hi hf => h.vals i hi (by rw [e i (by omega)]; exact hf), h.p, by rw [← e 9 (by omega)]; exact h.h, by rw [← e 10 (by omega)]; exact h.fl, by rw [← e 11 (by omega)]; exact h.fn, h.e, h.m, (by rw [← e 10 (by omega), ← e 1 (by omega), ← e 2 (by omega), ← e 4 (by omega)]; exact h.w10), h.d, h.bel⟩
theorem or_ne {i k : Nat} (f : Nat → Bool) (h : k ≠ i) : (k == i || f k) = f k := by rw [show (k == i) = false by simpa using h, Bool.false_or]
theorem or_eq {i k : Nat} (f : Nat → Bool) (h : k = i) : (k == i || f k) = true := by rw [show (k == i) = true by simpa using h, Bool.true_or]
theorem FdI.mono (h : FdI w p8 hs ht a n c l X D o a0 f a' W) {i : Nat} (hi : 10 ≠ i) : (10 == i || f 10) = true → (1 == i || f 1) = true ∧ (2 == i || f 2) = true ∧ (4 == i || f 4) = true := by
  rw [or_ne f hi]
  intro e
  obtain ⟨h1, h2, h4⟩ := h.w10 e
  rw [h1, h2, h4]
  simp
theorem FdI.quiet (h : FdI w p8 hs ht a n c l X D o a0 f a' W) (i : Nat) (hi : i < 9) (v : Value) (hv : PvF hs ht a n c X i v) : FdI w p8 hs ht a n c l X D o a0 (fun j => j == i || f j) (a'.put (some (i + 75)) v) W := by
  refine ⟨h.defers, by rw [Tb.put_size]; exact h.size, fun k hk => (Tb.put_other _ _ _ _ (by omega)).trans (h.other k hk), fun j hj hf => ?_, h.p, ?_, ?_, ?_, h.e, h.m, h.mono (show 10 ≠ i by omega), h.d, h.bel⟩
  · by_cases e : j = i
    · subst e
      rw [Tb.put_same _ _ _ (by rw [h.size]; omega)]
      exact hv
    · rw [Tb.put_other _ _ _ _ (by omega)]
      exact h.vals j hj (by rw [← or_ne f e]; exact hf)
  · show At W _ _ (if (9 == i || f 9) = true then _ else _)
    rw [or_ne f (by omega)]; exact h.h
  · show At W _ _ #[if (10 == i || f 10) = true then _ else _]
    rw [or_ne f (by omega)]; exact h.fl
  · show At W _ _ #[.int .u32 (if (11 == i || f 11) = true then _ else _)]
    rw [or_ne f (by omega)]; exact h.fn
theorem FdI.st9 (h : FdI w p8 hs ht a n c l X D o a0 f a' W) (hp8 : w.heap.size + 1 + 1 + 1 + 1 < p8) (hD : w.heap.size + 1 + 1 + 1 + 1 < D) (hh : At W' (w.heap.size + 1) 36 #[.int .u32 hs, .int .i64 ht]) (ho : Only (w.heap.size + 1) W W') :
    FdI w p8 hs ht a n c l X D o a0 (fun j => j == 9 || f j) (a'.put none undef) W' := by
  refine ⟨h.defers, h.size, h.other, fun j hj hf => h.vals j hj (by rw [← or_ne f (show j ≠ 9 by omega)]; exact hf), h.p.only ho (by omega), ?_, ?_, ?_, h.e.only ho (by omega), h.m.only h.h (by decide) (by decide) (by decide) ho, h.mono (show 10 ≠ 9 by omega), (ho.block D (by omega)).trans h.d, h.bel.trans (ho.below (by omega))⟩
  · show At W' _ _ (if (9 == 9 || f 9) = true then _ else _)
    rw [or_eq f rfl, if_pos rfl]; exact hh
  · show At W' _ _ #[if (10 == 9 || f 10) = true then _ else _]
    rw [or_ne f (by omega)]; exact h.fl.only ho (by omega)
  · show At W' _ _ #[.int .u32 (if (11 == 9 || f 11) = true then _ else _)]
    rw [or_ne f (by omega)]; exact h.fn.only ho (by omega)
theorem FdI.st10 (h : FdI w p8 hs ht a n c l X D o a0 f a' W) (h1 : f 1 = true) (h2 : f 2 = true) (h4 : f 4 = true) (hp8 : w.heap.size + 1 + 1 + 1 + 1 < p8) (hD : w.heap.size + 1 + 1 + 1 + 1 < D) :
    FdI w p8 hs ht a n c l X D o a0 (fun j => j == 10 || f j) (a'.put none undef) (W.setCell ⟨w.heap.size + 1 + 1, 0, none⟩ (.slice a n n)) := by
  have ho := Only.setCell W ⟨w.heap.size + 1 + 1, 0, none⟩ (.slice a n n)
  refine ⟨h.defers, h.size, h.other, fun j hj hf => h.vals j hj (by rw [← or_ne f (show j ≠ 10 by omega)]; exact hf), h.p.only ho (by show p8 ≠ w.heap.size + 1 + 1; omega), ?_, ?_, ?_, h.e.only ho (by show w.heap.size + 1 + 1 + 1 + 1 ≠ w.heap.size + 1 + 1; omega), h.m.only h.fl (by decide) (by decide) (by decide) ho, (fun _ => ⟨by show (1 == 10 || f 1) = true; rw [h1, Bool.or_true], by show (2 == 10 || f 2) = true; rw [h2, Bool.or_true], by show (4 == 10 || f 4) = true; rw [h4, Bool.or_true]⟩), (ho.block D (by show D ≠ w.heap.size + 1 + 1; omega)).trans h.d, h.bel.trans (ho.below (by show _ ≤ w.heap.size + 1 + 1; omega))⟩
  · show At _ _ _ (if (9 == 10 || f 9) = true then _ else _)
    rw [or_ne f (by omega)]; exact h.h.only ho (by show w.heap.size + 1 ≠ w.heap.size + 1 + 1; omega)
  · show At _ _ _ #[if (10 == 10 || f 10) = true then _ else _]
    rw [or_eq f rfl, if_pos rfl]; exact h.fl.set0 _
  · show At _ _ _ #[.int .u32 (if (11 == 10 || f 11) = true then _ else _)]
    rw [or_ne f (by omega)]; exact h.fn.only ho (by show w.heap.size + 1 + 1 + 1 ≠ w.heap.size + 1 + 1; omega)
theorem FdI.st11 (h : FdI w p8 hs ht a n c l X D o a0 f a' W) (hp8 : w.heap.size + 1 + 1 + 1 + 1 < p8) (hD : w.heap.size + 1 + 1 + 1 + 1 < D) :
    FdI w p8 hs ht a n c l X D o a0 (fun j => j == 11 || f j) (a'.put none undef) (W.setCell ⟨w.heap.size + 1 + 1 + 1, 0, none⟩ (.int .u32 X)) := by
  have ho := Only.setCell W ⟨w.heap.size + 1 + 1 + 1, 0, none⟩ (.int .u32 X)
  refine ⟨h.defers, h.size, h.other, fun j hj hf => h.vals j hj (by rw [← or_ne f (show j ≠ 11 by omega)]; exact hf), h.p.only ho (by show p8 ≠ w.heap.size + 1 + 1 + 1; omega), ?_, ?_, ?_, h.e.only ho (by show w.heap.size + 1 + 1 + 1 + 1 ≠ w.heap.size + 1 + 1 + 1; omega), h.m.only h.fn (by decide) (by decide) (by decide) ho, h.mono (show 10 ≠ 11 by omega), (ho.block D (by show D ≠ w.heap.size + 1 + 1 + 1; omega)).trans h.d, h.bel.trans (ho.below (by show _ ≤ w.heap.size + 1 + 1 + 1; omega))⟩
  · show At _ _ _ (if (9 == 11 || f 9) = true then _ else _)
    rw [or_ne f (by omega)]; exact h.h.only ho (by show w.heap.size + 1 ≠ w.heap.size + 1 + 1 + 1; omega)
  · show At _ _ _ #[if (10 == 11 || f 10) = true then _ else _]
    rw [or_ne f (by omega)]; exact h.fl.only ho (by show w.heap.size + 1 + 1 ≠ w.heap.size + 1 + 1 + 1; omega)
  · show At _ _ _ #[.int .u32 (if (11 == 11 || f 11) = true then _ else _)]
    rw [or_eq f rfl, if_pos rfl]; exact h.fn.set0 _
theorem FdI.st12 (h : FdI w p8 hs ht a n c l X D o a0 f a' W) (hp8 : w.heap.size + 1 + 1 + 1 + 1 < p8) (hD : w.heap.size + 1 + 1 + 1 + 1 < D) :
    FdI w p8 hs ht a n c l X D o a0 (fun j => j == 12 || f j) (a'.put none undef) (W.setCell ⟨w.heap.size + 1 + 1 + 1 + 1, 0, none⟩ (.int .i64 0)) := by
  have ho := Only.setCell W ⟨w.heap.size + 1 + 1 + 1 + 1, 0, none⟩ (.int .i64 0)
  refine ⟨h.defers, h.size, h.other, fun j hj hf => h.vals j hj (by rw [← or_ne f (show j ≠ 12 by omega)]; exact hf), h.p.only ho (by show p8 ≠ w.heap.size + 1 + 1 + 1 + 1; omega), ?_, ?_, ?_, h.e.set0 _, h.m.only h.e (by decide) (by decide) (by decide) ho, h.mono (show 10 ≠ 12 by omega), (ho.block D (by show D ≠ w.heap.size + 1 + 1 + 1 + 1; omega)).trans h.d, h.bel.trans (ho.below (by show _ ≤ w.heap.size + 1 + 1 + 1 + 1; omega))⟩
  · show At _ _ _ (if (9 == 12 || f 9) = true then _ else _)
    rw [or_ne f (by omega)]; exact h.h.only ho (by show w.heap.size + 1 ≠ w.heap.size + 1 + 1 + 1 + 1; omega)
  · show At _ _ _ #[if (10 == 12 || f 10) = true then _ else _]
    rw [or_ne f (by omega)]; exact h.fl.only ho (by show w.heap.size + 1 + 1 ≠ w.heap.size + 1 + 1 + 1 + 1; omega)
  · show At _ _ _ #[.int .u32 (if (11 == 12 || f 11) = true then _ else _)]
    rw [or_ne f (by omega)]; exact h.fn.only ho (by show w.heap.size + 1 + 1 + 1 ≠ w.heap.size + 1 + 1 + 1 + 1; omega)
end
theorem op_stc {w : World} {o : Oper} {a : Act} {K : Act → World → Prop} {Q : Exit → Act → World → Prop} (ty : TypeId) (x y : Operand) (ho : o.op = .store ty x y) (g : Nat) (u v : Value) (t : TypeId) (hx : a.eval x = .pointer (some ⟨g, 0, none⟩)) (hy : a.eval y = v) (hA : At w g t #[u])
    (hs : ∀ W : World, W.cell? ⟨g, 0, none⟩ = some u → W.frozen? ⟨g, 0, none⟩ = false → (Instr.storeAt ty (.pointer (some ⟨g, 0, none⟩)) v).run Tryd.prog W = .ok () (W.setCell ⟨g, 0, none⟩ v)) (h : K (a.put o.dst undef) (w.setCell ⟨g, 0, none⟩ v)) : o.wp Tryd.prog a w K Q := by
  refine op_skip ?_ h
  unfold execOp
  simp only [ho, hx, hy, Sem.run_bind, hs w (hA.cell (i := 0) rfl) (soft_of_heap hA 0), Result.andThen_ok, Sem.run_pure]
theorem stc_trs (g : Nat) (u : Value) (a : Option Addr) (n c : Nat) (W : World) (h1 : W.cell? ⟨g, 0, none⟩ = some u) (h2 : W.frozen? ⟨g, 0, none⟩ = false) : (Instr.storeAt 56 (.pointer (some ⟨g, 0, none⟩)) (.slice a n c)).run Tryd.prog W = .ok () (W.setCell ⟨g, 0, none⟩ (.slice a n c)) := by
  simp [go_sem, h1, h2]
theorem stc_u32 (g : Nat) (u : Value) (X : Int) (W : World) (h1 : W.cell? ⟨g, 0, none⟩ = some u) (h2 : W.frozen? ⟨g, 0, none⟩ = false) : (Instr.storeAt 34 (.pointer (some ⟨g, 0, none⟩)) (.int .u32 X)).run Tryd.prog W = .ok () (W.setCell ⟨g, 0, none⟩ (.int .u32 X)) := by
  simp [go_sem, h1, h2]
theorem stc_err (g : Nat) (u : Value) (X : Int) (W : World) (h1 : W.cell? ⟨g, 0, none⟩ = some u) (h2 : W.frozen? ⟨g, 0, none⟩ = false) : (Instr.storeAt 27 (.pointer (some ⟨g, 0, none⟩)) (.int .i64 X)).run Tryd.prog W = .ok () (W.setCell ⟨g, 0, none⟩ (.int .i64 X)) := by
  simp [go_sem, h1, h2]
theorem wp_region_invA {P : Program} (I : Act → (Nat → Bool) → Act → World → Prop) {id : Nat} {Q : Exit → Act → World → Prop} {a : Act} {w : World} {L : List Oper} (hm : P.follows .mixedOrders = true) (hd : downB .any L.toArray = true)
    (hI : ∀ l l' a' w, (∀ i, i < L.length → l i = l' i) → I a l a' w → I a l' a' w) (h0 : I a (fun _ => false) a { w with drawn := w.drawn + 1 }) (hst : StepsI P .any L.toArray Q (I a) 0 L)
    (hend : ∀ a' w', I a (fun _ => true) a' w' → Q .normal a' w') : (Code.region id L.toArray true).wp P Q a w := wp_region_inv (I a) hm hd hI h0 hst hend
/-- what Find tells -/
def FdPost (w : World) (G S I J : Int) (N : Nat) (L : Nat → Nat → Int) (e : Ending) (w' : World) : Prop :=
  (fdE G S I J N L ≠ 0 ∧ e = .returned (.tuple #[.agg #[.int .u32 0, .int .i64 0], .slice none 0 0, .int .u32 0, .int .i64 (fdE G S I J N L)])) ∨
  (fdE G S I J N L = 0 ∧ ∃ a cap, e = .returned (.tuple #[.agg #[.int .u32 (hdS (L 2)), .int .i64 (hdT (L 2))], .slice a (fdL J L).length cap, .int .u32 (hdS (L 2) + (fdL J L).length + 1), .int .i64 0]) ∧ TrQ w' a (fdL J L))

end Go.Proofs.YtnbmmhoofilmfaaDoor

/- scan.Find: what its loop keeps. -/
namespace Go.Proofs.YtnbmmhoofilmfaaDoor
open Go.RowKit
set_option linter.unusedVariables false

section
variable {w : World} {G S I J : Int} {la : Option Addr} {N : Nat} {L : Nat → Nat → Int} {hs ht : Int} {av : Value} {nn E : Int} {W W' : World}
theorem FdS.setL (h : FdS w G S I J la N L hs ht av nn E W) (hTl : 0 < w.heap.size) (hlb : ∀ b off, la = some ⟨b, off, none⟩ → 0 < N → b < w.heap.size) (v : Value) : FdS w G S I J la N L hs ht v nn E (W.setCell ⟨w.heap.size + 1 + 1, 0, none⟩ v) := by
  have ho := Only.setCell W ⟨w.heap.size + 1 + 1, 0, none⟩ v
  exact ⟨h.g.only ho (by show w.heap.size ≠ w.heap.size + 1 + 1; omega), h.h.only ho (by show w.heap.size + 1 ≠ w.heap.size + 1 + 1; omega), h.l.set0 _, h.n.only ho (by show w.heap.size + 1 + 1 + 1 ≠ w.heap.size + 1 + 1; omega), h.e.only ho (by show w.heap.size + 1 + 1 + 1 + 1 ≠ w.heap.size + 1 + 1; omega), by
    rcases h.r with h0 | h0
    · exact .inl h0
    · rcases Nat.eq_zero_or_pos N with e | e
      · exact .inl e
      · exact RRow.only (.inr h0) ho fun b off e' => by have := hlb b off e' e; show b ≠ w.heap.size + 1 + 1; omega, h.ta.only ho (by show w.heap.size + 1 + 1 ≠ 0; omega), h.bel.trans (ho.below (by show _ ≤ w.heap.size + 1 + 1; omega))⟩
theorem FdS.setN (h : FdS w G S I J la N L hs ht av nn E W) (hTl : 0 < w.heap.size) (hlb : ∀ b off, la = some ⟨b, off, none⟩ → 0 < N → b < w.heap.size) (v : Int) : FdS w G S I J la N L hs ht av v E (W.setCell ⟨w.heap.size + 1 + 1 + 1, 0, none⟩ (.int .u32 v)) := by
  have ho := Only.setCell W ⟨w.heap.size + 1 + 1 + 1, 0, none⟩ (.int .u32 v)
  exact ⟨h.g.only ho (by show w.heap.size ≠ w.heap.size + 1 + 1 + 1; omega), h.h.only ho (by show w.heap.size + 1 ≠ w.heap.size + 1 + 1 + 1; omega), h.l.only ho (by show w.heap.size + 1 + 1 ≠ w.heap.size + 1 + 1 + 1; omega), h.n.set0 _, h.e.only ho (by show w.heap.size + 1 + 1 + 1 + 1 ≠ w.heap.size + 1 + 1 + 1; omega), by
    rcases h.r with h0 | h0
    · exact .inl h0
    · rcases Nat.eq_zero_or_pos N with e | e
      · exact .inl e
      · exact RRow.only (.inr h0) ho fun b off e' => by have := hlb b off e' e; show b ≠ w.heap.size + 1 + 1 + 1; omega, h.ta.only ho (by show w.heap.size + 1 + 1 + 1 ≠ 0; omega), h.bel.trans (ho.below (by show _ ≤ w.heap.size + 1 + 1 + 1; omega))⟩
theorem FdS.st3 (h : FdS w G S I J la N L hs ht av nn E W) (hTl : 0 < w.heap.size) (hlb : ∀ b off, la = some ⟨b, off, none⟩ → 0 < N → b < w.heap.size) (v : Value) (n' E' : Int) : FdS w G S I J la N L hs ht v n' E' (st3 W w.heap.size v n' E') :=
  ((h.setL hTl hlb v).setN hTl hlb n').setE hTl hlb E'
theorem keeps_cell {B b : Nat} {v u : Value} {T : TypeId} (hA : At W b T #[u]) : KeepsFrom B W (W.setCell ⟨b, 0, none⟩ v) := (Only.setCell W ⟨b, 0, none⟩ v).keeps (hA.cell (i := 0) rfl)
theorem FdS.keeps3 (h : FdS w G S I J la N L hs ht av nn E W) (hTl : 0 < w.heap.size) (hlb : ∀ b off, la = some ⟨b, off, none⟩ → 0 < N → b < w.heap.size) (B : Nat) (v : Value) (n' E' : Int) : KeepsFrom B W (Go.Proofs.YtnbmmhoofilmfaaDoor.st3 W w.heap.size v n' E') :=
  ((keeps_cell h.l).trans (keeps_cell (h.setL hTl hlb v).n)).trans (keeps_cell ((h.setL hTl hlb v).setN hTl hlb n').e)
theorem FdS.grown (h : FdS w G S I J la N L hs ht av nn E W) (hTl : 0 < w.heap.size) (hlb : ∀ b off, la = some ⟨b, off, none⟩ → 0 < N → b < w.heap.size) {k : Nat} {v : Value} {xs : List Value} (ho : W.ownsRow w.heap.size 51 3 v k xs) (hg : W.grownBy W' v.ownBlock) : FdS w G S I J la N L hs ht av nn E W' := by
  have hge : ∀ q, v.ownBlock = some q → w.heap.size ≤ q := fun q e => (World.ownsRow.lt ho q e).1
  have hat : ∀ {p T cs}, At W p T cs → 51 ≠ T → At W' p T cs := fun hA hT => (hg.block _ hA.lt (fun e => at_own_neS hA ho hT e.symm)).trans hA
  exact ⟨hat h.g (by decide), hat h.h (by decide), hat h.l (by decide), hat h.n (by decide), hat h.e (by decide), by
    rcases h.r with h0 | ⟨b, off, rfl, h0⟩
    · exact .inl h0
    · rcases Nat.eq_zero_or_pos N with e | e
      · exact .inl e
      · have hb := hlb b off rfl e
        exact .inr ⟨b, off, rfl, fun i hi j v hj => (World.cell?_of_block (w := W) (hg.block b (World.block_lt_of_cell? W _ (h0 i hi j v hj)) (fun e => by have := hge b e.symm; omega))).trans (h0 i hi j v hj)⟩,
    fun i hi => (World.cell?_of_block (w := W) (hg.block _ h.ta.lt (fun e => by have := hge 0 e.symm; omega))).trans (h.ta i hi), h.bel.grown hg h.bel.size (fun q e => hge q e)⟩
theorem keeps_own {B base k size : Nat} {e : TypeId} {v : Value} {xs : List Value} (ho : W.ownsRow base e size v k xs) (hg : W.grownBy W' v.ownBlock) : KeepsFrom B W W' :=
  ⟨hg.size, fun i o _ hi hc => by
    refine (hg.block i (Array.getElem?_eq_some_iff.1 hi).1 (fun e => ?_)).trans hi
    rcases ho.2 with ⟨hv, _⟩ | ⟨g', cap', cur, hv, hbg, hg', _⟩
    · subst hv; cases e
    · subst hv
      have : i = g' := by simpa [Value.ownBlock] using e
      subst this
      rw [hi] at hg'
      injection hg' with hg'
      subst hg'
      cases hc⟩
end
theorem FnN.grown {q bs bl : Nat} {L : Nat → Nat → Int} {N : Nat} {s : Int} {W W' : World} (h : FnN q bs bl L N s W) {base k : Nat} (hb : 0 < base) {v : Value} {xs : List Value} (ho : W.ownsRow base 51 3 v k xs) (hg : W.grownBy W' v.ownBlock) : FnN q bs bl L N s W' := by
  have hge : ∀ q, v.ownBlock = some q → base ≤ q := fun q e => (World.ownsRow.lt ho q e).1
  have hat : ∀ {p T cs}, At W p T cs → 51 ≠ T → At W' p T cs := fun hA hT => (hg.block _ hA.lt (fun e => at_own_neS hA ho hT e.symm)).trans hA
  refine ⟨hat h.s (by decide), hat h.l (by decide), ?_, fun i hi => (World.cell?_of_block (w := W) (hg.block _ h.t.lt (fun e => by have := hge 0 e.symm; omega))).trans (h.t i hi)⟩
  obtain ⟨cs, h1, h2⟩ := h.a.blk
  refine h.a.of_block (hg.block q h.a.lt (fun e => ?_))
  exact at_own_neS (show At W q 32 cs from h1) ho (by decide) e.symm
theorem FnN.kept {q bs bl : Nat} {L : Nat → Nat → Int} {N : Nat} {s : Int} (base : Nat) : Kept base (fun W => FnN q bs bl L N s W) := fun W W' row h hg hr => by
  refine ⟨Kept.at _ _ W W' row h.s hg hr, Kept.at _ _ W W' row h.l hg hr, ?_, fun i hi => Kept.cell base _ _ W W' row (h.t i hi) hg hr⟩
  obtain ⟨cs, h1, h2⟩ := h.a.blk
  exact h.a.of_block ((Kept.at (B := base) 32 cs W W' row (show At W q 32 cs from h1) hg hr).trans h1.symm)
theorem FnN.only {q bs bl p : Nat} {L : Nat → Nat → Int} {N : Nat} {s : Int} {W W' : World} (h : FnN q bs bl L N s W) (ho : Only p W W') (h1 : bs ≠ p) (h2 : bl ≠ p) (h3 : q ≠ p) (h4 : p ≠ 0) : FnN q bs bl L N s W' := ⟨h.s.only ho h1, h.l.only ho h2, h.a.only ho h3, h.t.only ho h4⟩
theorem FdT.kept {w : World} {G S I J : Int} {la : Option Addr} {N : Nat} {L : Nat → Nat → Int} {hs ht : Int} {p8 : Nat} {a : Option Addr} {n c : Nat} {l : List Tr} (hTl : 0 < w.heap.size) (base : Nat) (hb : w.heap.size ≤ base) : Kept base (fun W => FdT w G S I J la N L hs ht p8 a n c l W) := fun W W' row h hg hr =>
  ⟨FdS.kept hTl base hb W W' row h.f hg hr, Kept.at _ _ W W' row h.p hg hr, TrM.kept _ _ base W W' row h.m hg hr⟩
theorem TrV.kept {B : Nat} {l : List Tr} (base k : Nat) (cs : Array Value) : Kept base (fun W => TrV B l k cs W) := fun W W' row h hg hr => by
  obtain ⟨t, ca, cc, ra, rc, h1, h2, h3, h4⟩ := h
  exact ⟨t, ca, cc, ra, rc, h1, h2, Kept.own W W' row h3 hg hr, Kept.own W W' row h4 hg hr⟩
/-- the region that turns the ring and begins the iterator -/
structure FdR (w : World) (G S I J : Int) (la : Option Addr) (N : Nat) (L : Nat → Nat → Int) (hs ht : Int) (p8 r : Nat) (R : Nat → Nat → Int) (t : Mv.St) (W : World) : Prop where
  f : FdT w G S I J la N L hs ht p8 none 0 0 [] W
  q1 : t.n = 1 → ∃ q, t.v = .slice (some ⟨q, 0, none⟩) r r ∧ w.heap.size ≤ q ∧ RArr W q 32 256 r (bkF R)
  q2 : t.n = 2 → ∃ q bs bl, t.v = .slice (some ⟨q, 0, none⟩) bs bl ∧ w.heap.size + 1 + 1 + 1 + 1 < q ∧ w.heap.size + 1 + 1 + 1 + 1 < bs ∧ w.heap.size + 1 + 1 + 1 + 1 < bl ∧ FnN q bs bl R r hs W
theorem info_transP : ∃ i, Tryd.prog.info? 51 = some i ∧ i.zero = some (.agg (tcells 0 none 0 0 none 0 0)) ∧ i.size = 3 ∧ i.bytes = 56 := by
  have h : (Tryd.prog.info? 51).map (fun i => (i.zero, i.size, i.bytes)) = some (some (.agg (tcells 0 none 0 0 none 0 0)), 3, 56) := by kernel_rfl
  obtain ⟨i, hi, hz⟩ := Option.map_eq_some_iff.1 h
  simp only [Prod.mk.injEq] at hz
  exact ⟨i, hi, hz.1, hz.2.1, hz.2.2⟩
theorem run_trans1 (s : Int) (ca : Option Addr) (n cc : Nat) (ra : Option Addr) (m rc : Nat) (W : World) : (Instr.buildSlice 56 1 #[(0, tval s ca n cc ra m rc)]).run Tryd.prog W = .ok (.slice (some ⟨W.heap.size, 0, none⟩) 1 1) (W.alloc (.cells (tcells s ca n cc ra m rc) 51)) := by kernel_rfl
theorem all_trans (s : Int) (ca : Option Addr) (n cc : Nat) (ra : Option Addr) (m rc : Nat) : (tcells s ca n cc ra m rc).all (·.oneCell') = true := by kernel_rfl
theorem take_snoc {l : List Tr} {k : Nat} {t : Tr} (h : l[k]? = some t) : l.take (k + 1) = l.take k ++ [t] := by
  rw [List.take_add_one, h]; rfl
end Go.Proofs.YtnbmmhoofilmfaaDoor
