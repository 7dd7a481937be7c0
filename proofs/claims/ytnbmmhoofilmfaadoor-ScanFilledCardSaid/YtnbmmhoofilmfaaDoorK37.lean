/- Texts of this claim, merged by a program (a claim may have 60 files): MoveB, Geo3, Sc4. -/
import Derived.Test.YtnbmmhoofilmfaaDoorK26
import Derived.Laws.Tables
import Derived.Test.YtnbmmhoofilmfaaDoorK20
import Derived.Test.YtnbmmhoofilmfaaDoorK19
import Derived.Test.YtnbmmhoofilmfaaDoorK36
/- A whole row stored in a drawn region that moves (for XMove, XMove2). No program in sight. -/
namespace Go.Proofs.YtnbmmhoofilmfaaDoor.Mv
open Go.RowKit Go.Proofs.YtnbmmhoofilmfaaDoor
set_option linter.unusedVariables false
section
variable {P : Program} {ops : Array Oper} {σ : Type} {C : σ → World → Prop}
theorem lin_storeRow {Q : σ → Act → Prop} {s : σ} {o : Oper} {rest : List Oper} {a : Act} (hw : Region.wanted o (yielded ops a.tmps) = true) (ty : TypeId) (x y : Operand) (ho : o.op = .store ty x y)
    (g : Nat) (cells : Array Value) (t : TypeId) (hx : a.eval x = .pointer (some ⟨g, 0, none⟩)) (hy : a.eval y = .agg cells) (hi : (P.info? ty).map (·.size) = some cells.size) (h1 : cells.all (·.oneCell') = true) (s' : σ)
    (hc : ∀ w, C s w → (∃ old, w.heap[g]? = some (.cells old t (0, 0)) ∧ old.size = cells.size) ∧ C s' (w.setRow g cells))
    (hk : wpLin P ops C Q rest s' (a.put o.dst undef)) : wpLin P ops C Q (o :: rest) s a :=
  lin_move hw (by unfold mv plainOp; rw [ho]; rfl) fun w hC => by
    obtain ⟨⟨old, hu, hs⟩, hC'⟩ := hc w hC
    unfold execOp
    simp only [ho, hx, hy, Instr.storeAt, Instr.sureAddr, Sem.run_bind, Sem.run_pure, Result.andThen_ok, run_storeVar_row w g t ty old cells hu hi hs h1]
    exact ⟨s', hC', hk⟩
/-- a call whose answer is one of many -/
theorem lin_callE {Q : σ → Act → Prop} {s : σ} {o : Oper} {rest : List Oper} {a : Act} (hw : Region.wanted o (yielded ops a.tmps) = true) (hm : mv o = true) (f : FuncId) (args : Array Value)
    (hrun : ∀ W, (execOp a.eval o).run P W = .ok (.enter f args) W) (hcall : ∀ W, C s W → Calls P f args W fun e w' => ∃ u s', e = .returned u ∧ C s' w' ∧ wpLin P ops C Q rest s' (a.put o.dst u)) : wpLin P ops C Q (o :: rest) s a :=
  lin_move hw hm fun w hC => by
    rw [hrun]
    exact (hcall w hC).mono fun e w' ⟨u, s', h1, h2, h3⟩ => ⟨u, h1, s', h2, h3⟩
end
end Go.Proofs.YtnbmmhoofilmfaaDoor.Mv

/- geo.Blocks, geo.Start. -/
namespace Go.Proofs.YtnbmmhoofilmfaaDoor
open Go.RowKit
set_option linter.unusedVariables false

set_option maxHeartbeats 2000000 in
theorem geoBlocks_any (G S I J : Int) (w : World) : Calls Tryd.prog 13 #[gval G S I J] w fun e w' => e = .returned (.int .i64 (nBl G S I J)) ∧ Below w.heap.size w w' := by
  have HA := Lib.hid (At.new w 23 (gcells G S I J))
  have HL : Hid (Below w.heap.size w (w.alloc (.cells (gcells G S I J) 23))) := (Below.refl _ _).alloc (Nat.le_refl _) _
  go_enter Tryd.func13, Tryd.ntmps13
  have hA := HA.out
  go_wp2_with (first | (refine wp_loadAtG rfl 23 _ rfl _ _ _ rfl hA Tryd.underlying23 rfl (by kernel_rfl) ?_))
  refine (geoMay_any G S I J _).mono ?_
  rintro e w1 ⟨rfl, hb1⟩
  have hA1 := hA.below hb1 hA.lt
  have hL1 : Below w.heap.size w w1 := HL.out.trans (hb1.mono HL.out.size)
  clear hA HA HL hb1
  cases hm : mayG G S I J with
  | false =>
    have HN : Hid (nBl G S I J = 0) := by show _ = _; unfold nBl; rw [hm]; rfl
    clear hm
    go_wp2_with fail
    go_ret
    exact ⟨by rw [HN.out]; rfl, hL1⟩
  | true =>
    have HN : Hid (nBl G S I J = 2 + J + G * S) := by show _ = _; unfold nBl; rw [hm]; rfl
    obtain ⟨h1, h2, h3, h4, h5, h6, h7, h8, h9, h10, h11⟩ := (mayG_iff G S I J).1 hm
    have hg0 : 0 ≤ G * S := Int.mul_nonneg (by omega) (by omega)
    have hw : IntKind.i64.wrap (G * S) = G * S := IntWalk.i64_in _ (by omega)
    have hw1 : IntKind.i64.wrap (2 + J) = 2 + J := IntWalk.i64_in _ (by omega)
    have hw2 : IntKind.i64.wrap (2 + J + G * S) = 2 + J + G * S := IntWalk.i64_in _ (by omega)
    have c0 : w1.cell? ⟨w.heap.size, 0, none⟩ = some (.int .i64 G) := hA1.cell (i := 0) rfl
    have c1 : w1.cell? ⟨w.heap.size, 1, none⟩ = some (.int .i64 S) := hA1.cell (i := 1) rfl
    have c3 : w1.cell? ⟨w.heap.size, 3, none⟩ = some (.int .i64 J) := hA1.cell (i := 3) rfl
    clear hm h11
    go_wp2_with fail
    go_ret
    exact ⟨by rw [HN.out]; rfl, hL1⟩
/-- is there such a group? -/
def isGr (G S I J k : Int) : Bool := mayG G S I J && (decide (0 ≤ k) && decide (k < G))
def stGr (G S I J k : Int) : Int := if isGr G S I J k then 2 + J + k * S else 0
set_option maxHeartbeats 2000000 in
theorem geoStart_any (G S I J k : Int) (w : World) : Calls Tryd.prog 39 #[gval G S I J, .int .i64 k] w fun e w' => e = .returned (.tuple #[.int .i64 (stGr G S I J k), .bool (isGr G S I J k)]) ∧ Below w.heap.size w w' := by
  have HA := Lib.hid (At.new w 23 (gcells G S I J))
  have HL : Hid (Below w.heap.size w (w.alloc (.cells (gcells G S I J) 23))) := (Below.refl _ _).alloc (Nat.le_refl _) _
  go_enter Tryd.func39, Tryd.ntmps39
  have hA := HA.out
  go_wp2_with (first | (refine wp_loadAtG rfl 23 _ rfl _ _ _ rfl hA Tryd.underlying23 rfl (by kernel_rfl) ?_))
  refine (geoMay_any G S I J _).mono ?_
  rintro e w1 ⟨rfl, hb1⟩
  have hA1 := hA.below hb1 hA.lt
  have hL1 : Below w.heap.size w w1 := HL.out.trans (hb1.mono HL.out.size)
  clear hA HA HL hb1
  have c0 : w1.cell? ⟨w.heap.size, 0, none⟩ = some (.int .i64 G) := hA1.cell (i := 0) rfl
  have c1 : w1.cell? ⟨w.heap.size, 1, none⟩ = some (.int .i64 S) := hA1.cell (i := 1) rfl
  have c3 : w1.cell? ⟨w.heap.size, 3, none⟩ = some (.int .i64 J) := hA1.cell (i := 3) rfl
  cases hm : mayG G S I J with
  | false =>
    have HN : Hid (isGr G S I J k = false) := by show _ = _; unfold isGr; rw [hm]; rfl
    clear hm
    go_wp2_with fail
    go_ret2
    exact ⟨by unfold stGr; rw [HN.out]; rfl, hL1⟩
  | true =>
    obtain ⟨h1, h2, h3, h4, h5, h6, h7, h8, h9, h10, h11⟩ := (mayG_iff G S I J).1 hm
    have HD : Hid (isGr G S I J k = (decide (0 ≤ k) && decide (k < G))) := by show _ = _; unfold isGr; rw [hm]; rfl
    clear hm h11
    by_cases k0 : k < 0
    · have HN : Hid (isGr G S I J k = false) := by show _ = _; rw [HD.out]; simp; omega
      have q0 : decide (k < 0) = true := decide_eq_true k0
      go_wp2_with fail
      go_ret2
      exact ⟨by unfold stGr; rw [HN.out]; rfl, hL1⟩
    have q0 : decide (k < 0) = false := decide_eq_false k0
    by_cases k1 : G ≤ k
    · have HN : Hid (isGr G S I J k = false) := by show _ = _; rw [HD.out]; simp; omega
      have q1 : decide (G ≤ k) = true := decide_eq_true k1
      go_wp2_with fail
      go_ret2
      exact ⟨by unfold stGr; rw [HN.out]; rfl, hL1⟩
    have q1 : decide (G ≤ k) = false := decide_eq_false k1
    have HN : Hid (isGr G S I J k = true) := by show _ = _; rw [HD.out]; simp; omega
    have hg0 : 0 ≤ k * S := Int.mul_nonneg (by omega) (by omega)
    have hg1 : k * S ≤ 4 * 512 := Int.mul_le_mul (by omega) h4 (by omega) (by omega)
    have hw : IntKind.i64.wrap (k * S) = k * S := IntWalk.i64_in _ (by omega)
    have hw1 : IntKind.i64.wrap (2 + J) = 2 + J := IntWalk.i64_in _ (by omega)
    have hw2 : IntKind.i64.wrap (2 + J + k * S) = 2 + J + k * S := IntWalk.i64_in _ (by omega)
    go_wp2_with fail
    go_ret2
    exact ⟨by unfold stGr; rw [HN.out]; rfl, hL1⟩
end Go.Proofs.YtnbmmhoofilmfaaDoor

/- scan.Find: what it tells, plainly; the iterator's beginning; memory. -/
namespace Go.Proofs.YtnbmmhoofilmfaaDoor
open Go.RowKit
set_option linter.unusedVariables false

theorem found_any (q N : Nat) (s : Int) (w : World) :
    Calls Tryd.prog 56 #[.slice (some ⟨q, 0, none⟩) N N, .int .u32 s] w fun e w' => e = .returned (.func (.func 100) #[] #[.pointer (some ⟨w.heap.size + 1, 0, none⟩), .pointer (some ⟨w.heap.size, 0, none⟩)]) ∧ (w.alloc (.cells #[.slice (some ⟨q, 0, none⟩) N N] 24)).alloc (.cells #[.int .u32 s] 34) = w' := by
  go_enter Tryd.func56, Tryd.ntmps56
  go_wp2
  go_ret
  exact ⟨rfl, rfl⟩
/-- the transactions that Find tells -/
def fdL (J : Int) (L : Nat → Nat → Int) : List Tr := if 0 < hdT (L 2) then fnd (ringL L J.toNat (hdT (L 2)).toNat) (J.toNat - 1) 0 (hdS (L 2)) else []
def outTr (G S I J : Int) (t : Tr) : Bool := outT G S I J t.n t.cb t.m t.rv
def fdE (G S I J : Int) (N : Nat) (L : Nat → Nat → Int) : Int :=
  if mayG G S I J = false then 50 else if ¬ (N : Int) = nBl G S I J then 2 else if headRd (L 2) = false ∨ J ≤ hdT (L 2) then 90 else if (fdL J L).all (outTr G S I J) = false then 90 else if 2147483648 < hdS (L 2) + (fdL J L).length + 1 then 90 else 0
/-- a row of transactions, each with its own rows -/
def trC (l : List Tr) (ca : Nat → Option Addr) (cc : Nat → Nat) (ra : Nat → Option Addr) (rc : Nat → Nat) (i : Nat) : List Value :=
  match l[i]? with
  | some t => [.int .u32 t.s, .slice (ca i) t.n (cc i), .slice (ra i) t.m (rc i)]
  | none => [.int .u32 0, .slice none 0 0, .slice none 0 0]
theorem trC_len (l : List Tr) (ca : Nat → Option Addr) (cc : Nat → Nat) (ra : Nat → Option Addr) (rc : Nat → Nat) (i : Nat) : (trC l ca cc ra rc i).length = 3 := by unfold trC; split <;> rfl
def TrM (W : World) (B : Nat) (v : Value) (l : List Tr) : Prop :=
  ∃ ca cc ra rc, RMine W B 51 3 v l.length (trC l ca cc ra rc) ∧
    ∀ i t, l[i]? = some t → RMine W B 101 257 (.slice (ca i) t.n (cc i)) t.n (cpF t.cb t.cd) ∧ RMine W B 3 1 (.slice (ra i) t.m (rc i)) t.m (inF t.rv)
theorem TrM.nil (W : World) (B : Nat) : TrM W B (.slice none 0 0) [] := ⟨fun _ => none, fun _ => 0, fun _ => none, fun _ => 0, RMine.nil _ _ _ _ _, fun i t h => by simp at h⟩
theorem TrM.kept {B : Nat} (v : Value) (l : List Tr) (base : Nat) : Kept base (fun W => TrM W B v l) := fun W W' row h hg hr => by
  obtain ⟨ca, cc, ra, rc, h1, h2⟩ := h
  exact ⟨ca, cc, ra, rc, Kept.own W W' row h1 hg hr, fun i t ht => ⟨Kept.own W W' row (h2 i t ht).1 hg hr, Kept.own W W' row (h2 i t ht).2 hg hr⟩⟩
theorem TrM.below {W W' : World} {B : Nat} {v : Value} {l : List Tr} (h : TrM W B v l) (hb : Below W.heap.size W W') : TrM W' B v l := TrM.kept v l 0 W W' none h (grown_below hb) (fun r e => by cases e)
/-- a transaction more -/
theorem TrM.snoc {W : World} {B : Nat} {v : Value} {l : List Tr} {t : Tr} (h : TrM W B v l) {ca : Option Addr} {cc : Nat} {ra : Option Addr} {rc : Nat}
    (hC : RMine W B 101 257 (.slice ca t.n cc) t.n (cpF t.cb t.cd)) (hV : RMine W B 3 1 (.slice ra t.m rc) t.m (inF t.rv)) : ∃ xs, W.ownsRow B 51 3 v l.length xs ∧
      ∀ W0 W' v', Below W.heap.size W W0 → W'.ownsRow B 51 3 v' (l.length + 1) (xs ++ (tcells t.s ca t.n cc ra t.m rc).toList) → W0.grownBy W' v.ownBlock → TrM W' B v' (l ++ [t]) := by
  obtain ⟨ka, kc, kr, kq, h1, h2⟩ := h
  refine ⟨_, h1, fun W0 W' v' hb ho hg => ?_⟩
  have h1 := RMine.below h1 hb
  have hC := RMine.below hC hb
  have hV := RMine.below hV hb
  have h2 : ∀ i t, l[i]? = some t → RMine W0 B 101 257 (.slice (ka i) t.n (kc i)) t.n (cpF t.cb t.cd) ∧ RMine W0 B 3 1 (.slice (kr i) t.m (kq i)) t.m (inF t.rv) := fun i t ht => ⟨RMine.below (h2 i t ht).1 hb, RMine.below (h2 i t ht).2 hb⟩
  have kpt : ∀ {e size x n a xs}, World.ownsRow W0 B e size (.slice a n x) n xs → e ≠ 51 → World.ownsRow W' B e size (.slice a n x) n xs := fun {e size x n a xs} h he => World.ownsRow.kept h hg (by
    cases h1' : (Value.slice a n x).ownBlock with
    | none => exact .inl rfl
    | some g => exact .inr (fun e2 => own_ne h h1 he h1' e2.symm))
  refine ⟨fun i => if i = l.length then ca else ka i, fun i => if i = l.length then cc else kc i, fun i => if i = l.length then ra else kr i, fun i => if i = l.length then rc else kq i, ?_, fun i t' ht => ?_⟩
  · have e : Cs (trC (l ++ [t]) (fun i => if i = l.length then ca else ka i) (fun i => if i = l.length then cc else kc i) (fun i => if i = l.length then ra else kr i) (fun i => if i = l.length then rc else kq i)) (l.length + 1) = Cs (trC l ka kc kr kq) l.length ++ (tcells t.s ca t.n cc ra t.m rc).toList := by
      rw [Cs_succ]
      congr 1
      · exact Cs_congr fun i hi => by
          unfold trC
          rw [List.getElem?_append_left hi]
          simp only [if_neg (show ¬ i = l.length by omega)]
      · unfold trC
        rw [List.getElem?_append_right (Nat.le_refl _), Nat.sub_self]
        simp
    show W'.ownsRow _ _ _ _ _ _
    rw [List.length_append, List.length_singleton, e]
    exact ho
  · by_cases hi : i < l.length
    · rw [List.getElem?_append_left hi] at ht
      simp only [if_neg (show ¬ i = l.length by omega)]
      exact ⟨kpt (h2 i t' ht).1 (by decide), kpt (h2 i t' ht).2 (by decide)⟩
    · rw [List.getElem?_append_right (by omega)] at ht
      have hi' : i - l.length = 0 := by
        rcases Nat.eq_zero_or_pos (i - l.length) with e | e
        · exact e
        · rw [List.getElem?_eq_none (by simp; omega)] at ht; cases ht
      rw [hi'] at ht
      simp at ht
      subst ht
      simp only [if_pos (show i = l.length by omega)]
      exact ⟨kpt hC (by decide), kpt hV (by decide)⟩
/-- what Find keeps -/
structure FdS (w : World) (G S I J : Int) (la : Option Addr) (N : Nat) (L : Nat → Nat → Int) (hs ht : Int) (av : Value) (nn E : Int) (W : World) : Prop where
  g : At W w.heap.size 23 (gcells G S I J)
  h : At W (w.heap.size + 1) 36 #[.int .u32 hs, .int .i64 ht]
  l : At W (w.heap.size + 1 + 1) 56 #[av]
  n : At W (w.heap.size + 1 + 1 + 1) 34 #[.int .u32 nn]
  e : At W (w.heap.size + 1 + 1 + 1 + 1) 27 #[.int .i64 E]
  r : RRow W la 256 N (bkF L)
  ta : Tab W
  bel : Below w.heap.size w W
section
variable {w : World} {G S I J : Int} {la : Option Addr} {N : Nat} {L : Nat → Nat → Int} {hs ht : Int} {av : Value} {nn E : Int} {W W' : World}
theorem FdS.below (h : FdS w G S I J la N L hs ht av nn E W) (hb : Below W.heap.size W W') : FdS w G S I J la N L hs ht av nn E W' :=
  ⟨h.g.below hb h.g.lt, h.h.below hb h.h.lt, h.l.below hb h.l.lt, h.n.below hb h.n.lt, h.e.below hb h.e.lt, h.r.below (by intro e; cases e) hb, h.ta.below hb (Nat.le_refl _), h.bel.trans (hb.mono h.bel.size)⟩
theorem FdS.kept (hTl : 0 < w.heap.size) (base : Nat) (hb : w.heap.size ≤ base) : Kept base (fun W => FdS w G S I J la N L hs ht av nn E W) := fun W W' row h hg hr =>
  ⟨Kept.at _ _ W W' row h.g hg hr, Kept.at _ _ W W' row h.h hg hr, Kept.at _ _ W W' row h.l hg hr, Kept.at _ _ W W' row h.n hg hr, Kept.at _ _ W W' row h.e hg hr, by
    rcases h.r with h0 | ⟨b, off, rfl, h0⟩
    · exact .inl h0
    · exact .inr ⟨b, off, rfl, fun i hi j v hj => Kept.cell base _ _ W W' row (h0 i hi j v hj) hg hr⟩, fun i hi => Kept.cell base _ _ W W' row (h.ta i hi) hg hr, Kept.below w hb (Nat.le_refl _) W W' row h.bel hg hr⟩
end
end Go.Proofs.YtnbmmhoofilmfaaDoor
