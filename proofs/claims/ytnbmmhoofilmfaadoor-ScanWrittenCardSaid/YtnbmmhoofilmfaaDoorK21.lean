/- Texts of this claim, merged by a program (a claim may have 60 files): Pk7. -/
import Derived.Test.YtnbmmhoofilmfaaDoorK20
/- pack.Pack. -/
namespace Go.Proofs.YtnbmmhoofilmfaaDoor
open Go.RowKit Go.Shelf
set_option linter.unusedVariables false
attribute [local go_sem] Oper.semAt_some

/-- what stands while rows are laid -/
structure PkJ (w : World) (t : Tr) (ca : Option Addr) (cc : Nat) (ra : Option Addr) (rc : Nat) (q p5 p6 cnt cap : Nat) (W : World) : Prop where
  tr : At W w.heap.size 51 (tcells t.s ca t.n cc ra t.m rc)
  r1 : At W (w.heap.size + 1) 24 #[.slice none 0 0]
  r2 : At W (w.heap.size + 1 + 1) 27 #[.int .i64 0]
  bl : At W p5 24 #[.slice (some ⟨q, 0, none⟩) cnt cap]
  er : At W p6 27 #[.int .i64 0]
  b : BOwn W q cnt cap (pk0 t)
  c : RRow W ca 257 t.n (cpF t.cb t.cd)
  r : RRow W ra 1 t.m (inF t.rv)
  ta : Tab W
  bel : Below w.heap.size w W
structure PkA (w : World) (t : Tr) (ca : Option Addr) (cc : Nat) (ra : Option Addr) (rc : Nat) (W : World) : Prop where
  tr : At W w.heap.size 51 (tcells t.s ca t.n cc ra t.m rc)
  r1 : At W (w.heap.size + 1) 24 #[.slice none 0 0]
  r2 : At W (w.heap.size + 1 + 1) 27 #[.int .i64 0]
  c : RRow W ca 257 t.n (cpF t.cb t.cd)
  r : RRow W ra 1 t.m (inF t.rv)
  ta : Tab W
  bel : Below w.heap.size w W
theorem PkA.below {w : World} {t : Tr} {ca : Option Addr} {cc : Nat} {ra : Option Addr} {rc : Nat} {W W' : World} (h : PkA w t ca cc ra rc W) (hb : Below W.heap.size W W') : PkA w t ca cc ra rc W' :=
  ⟨h.tr.below hb h.tr.lt, h.r1.below hb h.r1.lt, h.r2.below hb h.r2.lt, h.c.below (by intro e; cases e) hb, h.r.below (by intro e; cases e) hb, h.ta.below hb (Nat.le_refl _), h.bel.trans (hb.mono h.bel.size)⟩
/-- what the results' boxes hold when both are stored -/
theorem results_pk {fn : Func} (h : fn.results = #[.cell 2 24, .cell 3 27]) (tmps : Array Value) (W : World) (b2 b3 : Nat) (v : Value) (e : Int) (hp2 : tmps.getD 2 undef = .pointer (some ⟨b2, 0, none⟩)) (hp3 : tmps.getD 3 undef = .pointer (some ⟨b3, 0, none⟩))
    (h2 : W.cell? ⟨b2, 0, none⟩ = some v) (h3 : W.cell? ⟨b3, 0, none⟩ = some (.int .i64 e)) : (results fn tmps).run Tryd.prog W = .ok (.tuple #[v, .int .i64 e]) W := by
  have hp2' : tmps[2]?.getD undef = .pointer (some ⟨b2, 0, none⟩) := by simpa using hp2
  have hp3' : tmps[3]?.getD undef = .pointer (some ⟨b3, 0, none⟩) := by simpa using hp3
  simp [results, h, hp2', hp3', go_sem, h2, h3]
/-- where things stand -/
structure PkO (w : World) (ca ra : Option Addr) (q p5 p6 : Nat) : Prop where
  o1 : 0 < w.heap.size
  o2 : w.heap.size + 2 < q
  o3 : q < p5
  o4 : p5 < p6
  o5 : ∀ b off, ca = some ⟨b, off, none⟩ → b < w.heap.size
  o6 : ∀ b off, ra = some ⟨b, off, none⟩ → b < w.heap.size
section
variable {w : World} {t : Tr} {ca : Option Addr} {cc : Nat} {ra : Option Addr} {rc q p5 p6 cnt cap : Nat} {W W' : World}
theorem PkJ.below (h : PkJ w t ca cc ra rc q p5 p6 cnt cap W) (hb : Below W.heap.size W W') : PkJ w t ca cc ra rc q p5 p6 cnt cap W' :=
  ⟨h.tr.below hb h.tr.lt, h.r1.below hb h.r1.lt, h.r2.below hb h.r2.lt, h.bl.below hb h.bl.lt, h.er.below hb h.er.lt, h.b.below hb, h.c.below (by intro e; cases e) hb, h.r.below (by intro e; cases e) hb, h.ta.below hb (Nat.le_refl _), h.bel.trans (hb.mono h.bel.size)⟩
theorem PkJ.local {B lb : Nat} (o : PkO w ca ra q p5 p6) (hB : p6 < B) (hl : p6 < lb) : LocalX B lb (PkJ w t ca cc ra rc q p5 p6 cnt cap) := fun A C h e1 e2 e3 e4 e5 => by
  obtain ⟨o1, o2, o3, o4, o5, o6⟩ := o
  exact ⟨LocalX.heap _ (by omega) (by omega) A C h.tr e1 e2 e3 e4 e5, LocalX.heap _ (by omega) (by omega) A C h.r1 e1 e2 e3 e4 e5, LocalX.heap _ (by omega) (by omega) A C h.r2 e1 e2 e3 e4 e5, LocalX.heap _ (by omega) (by omega) A C h.bl e1 e2 e3 e4 e5, LocalX.heap _ (by omega) (by omega) A C h.er e1 e2 e3 e4 e5,
    LocalX.owns (by omega) (by omega) A C h.b e1 e2 e3 e4 e5, LocalX.rrow (fun b off e => by have := o5 b off e; omega) A C h.c e1 e2 e3 e4 e5, LocalX.rrow (fun b off e => by have := o6 b off e; omega) A C h.r e1 e2 e3 e4 e5,
    fun i hi => LocalX.cell _ _ (by show 0 < B; omega) (by show 0 ≠ lb; omega) A C (h.ta i hi) e1 e2 e3 e4 e5, LocalX.below w (by omega) (Nat.le_refl _) (by omega) A C h.bel e1 e2 e3 e4 e5⟩
/-- blocks are laid behind, and the box of the slice says so -/
theorem PkJ.laid (o : PkO w ca ra q p5 p6) (h : PkJ w t ca cc ra rc q p5 p6 cnt cap W) {cnt' : Nat} (hg : W.grownBy W' (some q)) (hb : BOwn W' q cnt' cap (pk0 t)) :
    PkJ w t ca cc ra rc q p5 p6 cnt' cap ((W'.setCell ⟨p5, 0, none⟩ (.slice (some ⟨q, 0, none⟩) cnt' cap)).setCell ⟨p6, 0, none⟩ (.int .i64 0)) := by
  obtain ⟨o1, o2, o3, o4, o5, o6⟩ := o
  have kp : ∀ {g : Nat} {T : TypeId} {cs : Array Value}, At W g T cs → g ≠ q → At W' g T cs := fun hA hne => (hg.block _ hA.lt (by intro e; injection e with e; exact hne e)).trans hA
  have s1 := Only.setCell W' ⟨p5, 0, none⟩ (.slice (some ⟨q, 0, none⟩) cnt' cap)
  have s2 := Only.setCell (W'.setCell ⟨p5, 0, none⟩ (.slice (some ⟨q, 0, none⟩) cnt' cap)) ⟨p6, 0, none⟩ (.int .i64 0)
  have hL : Below w.heap.size w W' := h.bel.grown hg h.bel.size (fun k e => by cases e; omega)
  have rk : ∀ {a : Option Addr} {m n : Nat} {f : Nat → List Value}, RRow W a m n f → (∀ b off, a = some ⟨b, off, none⟩ → b < w.heap.size) → RRow W' a m n f := fun hr ha => by
    rcases hr with hr | ⟨b, off, rfl, hr⟩
    · exact .inl hr
    · have hbl := ha b off rfl
      exact .inr ⟨b, off, rfl, fun i hi j v hj => (World.cell?_of_block (w := W) (hg.block b (by have := h.bel.size; omega) (by intro e; injection e with e; omega))).trans (hr i hi j v hj)⟩
  exact ⟨((kp h.tr (by omega)).only s1 (by show _ ≠ p5; omega)).only s2 (by show _ ≠ p6; omega), ((kp h.r1 (by omega)).only s1 (by show _ ≠ p5; omega)).only s2 (by show _ ≠ p6; omega), ((kp h.r2 (by omega)).only s1 (by show _ ≠ p5; omega)).only s2 (by show _ ≠ p6; omega),
    ((kp h.bl (by omega)).set0 _).only s2 (by show _ ≠ p6; omega), ((kp h.er (by omega)).only s1 (by show _ ≠ p5; omega)).set0 _,
    (hb.kept s1.grown (by intro e; injection e with e; change p5 = q at e; omega)).kept s2.grown (by intro e; injection e with e; change p6 = q at e; omega),
    ((rk h.c o5).only s1 (fun b off e => by have := o5 b off e; show b ≠ p5; omega)).only s2 (fun b off e => by have := o5 b off e; show b ≠ p6; omega),
    ((rk h.r o6).only s1 (fun b off e => by have := o6 b off e; show b ≠ p5; omega)).only s2 (fun b off e => by have := o6 b off e; show b ≠ p6; omega),
    ((h.ta.kept hg (by intro e; injection e with e; omega)).kept s1.grown (by intro e; injection e with e; change p5 = _ at e; omega)).kept s2.grown (by intro e; injection e with e; change p6 = _ at e; omega),
    (hL.trans (s1.below (by show _ ≤ p5; omega))).trans (s2.below (by show _ ≤ p6; omega))⟩
theorem PkJ.congr (h : PkJ w t ca cc ra rc q p5 p6 cnt cap W) {cnt' : Nat} (e : cnt = cnt') : PkJ w t ca cc ra rc q p5 p6 cnt' cap W := e ▸ h
end
/-- a body that lays blocks and stores two boxes keeps all else -/
theorem keeps_laid {B q p5 p6 : Nat} {W W1 : World} {u v : Value} (hg : W.grownBy W1 (some q)) (h1 : q < B) (h2 : p5 < B) (h3 : p6 < B) : KeepsFrom B W ((W1.setCell ⟨p5, 0, none⟩ u).setCell ⟨p6, 0, none⟩ v) :=
  ⟨by have := hg.size; simpa [World.setCell] using this, fun k o hk ho _ => by
    have e1 := (Only.setCell W1 ⟨p5, 0, none⟩ u).block k (by show k ≠ p5; omega)
    have e2 := (Only.setCell (W1.setCell ⟨p5, 0, none⟩ u) ⟨p6, 0, none⟩ v).block k (by show k ≠ p6; omega)
    rw [e2, e1, hg.block k (Array.getElem?_eq_some_iff.1 ho).1 (by intro e; injection e with e; omega)]
    exact ho⟩
theorem heap_laid {q p5 p6 : Nat} {W W1 : World} {u v : Value} (hg : W.grownBy W1 (some q)) {k : Nat} {o : Obj} (h : W.heap[k]? = some o) (h1 : k ≠ q) (h2 : k ≠ p5) (h3 : k ≠ p6) : ((W1.setCell ⟨p5, 0, none⟩ u).setCell ⟨p6, 0, none⟩ v).heap[k]? = some o := by
  have e1 := (Only.setCell W1 ⟨p5, 0, none⟩ u).block k h2
  have e2 := (Only.setCell (W1.setCell ⟨p5, 0, none⟩ u) ⟨p6, 0, none⟩ v).block k h3
  rw [e2, e1, hg.block k (Array.getElem?_eq_some_iff.1 h).1 (by intro e; injection e with e; exact h1 e)]
  exact h
theorem At.grownQ {W W1 : World} {q g : Nat} {T : TypeId} {cs : Array Value} (h : At W g T cs) (hg : W.grownBy W1 (some q)) (hne : g ≠ q) : At W1 g T cs := (hg.block _ h.lt (by intro e; injection e with e; exact hne e)).trans h
theorem needC_local {B lb nb b off n k : Nat} (h1 : lb < B) (h2 : nb < B) : LocalP B (rowNeedC lb nb b off n k) :=
  (LocalP.ex fun sv => (LocalP.pure _ _).and (LocalP.heap _ h1)).and (LocalP.heap _ h2)
theorem needN_local {B lb nb b off n k : Nat} (h1 : lb < B) (h2 : nb < B) : LocalP B (rowNeedN lb nb b off n k) :=
  (LocalP.ex fun sv => (LocalP.pure _ _).and (LocalP.heap _ h1)).and (LocalP.heap _ h2)
theorem BOwn.putObj2 {W : World} {q N cap D D2 : Nat} {B : Nat → Nat → Int} {o o' : Obj} (h : BOwn W q N cap B) (h1 : q ≠ D) (h2 : q ≠ D2) : BOwn ((W.putObj D2 o').putObj D o) q N cap B := by
  refine ⟨h.1, ?_⟩
  rcases h.2 with ⟨hv, _⟩ | ⟨g, cap', cur, hv, hbg, hg, hh⟩
  · cases hv
  · cases hv
    exact .inr ⟨q, cap, cur, rfl, hbg, (World.putObj_heap_other h1).trans ((World.putObj_heap_other h2).trans hg), hh⟩
/-- the end of a function that holds two such loops -/
theorem bodyPostM_done2 {P : Program} {fn : Func} {R : Ending → World → Prop} {n : Nat} {tmps : Array Value} {D D2 : Nat} {W : World} {v : Value} (hD2 : W.heap[D2]? = some (.deferred (some []))) (hD : W.heap[D]? = some (.deferred (some []))) (hne : D ≠ D2)
    (hres : (results fn tmps).run P ((W.putObj D2 (.deferred none)).putObj D (.deferred none)) = .ok v ((W.putObj D2 (.deferred none)).putObj D (.deferred none))) (hR : R (.returned v) ((W.putObj D2 (.deferred none)).putObj D (.deferred none))) :
    bodyPostM Fence.wide n P fn R .ret { tmps := tmps, defers := [{ target := .collected D2, args := #[] }, { target := .collected D, args := #[] }] } W :=
  ⟨by simp, .inl ⟨_, _, rfl, run_takeDeferred hD2, ⟨by simp, .inl ⟨_, _, rfl, run_takeDeferred ((World.putObj_heap_other hne).trans hD), ⟨_, hres, hR⟩⟩⟩⟩⟩
/-- what Pack answers -/
def PackPost (w : World) (t : Tr) (e : Ending) (w' : World) : Prop :=
  (packE t ≠ 0 ∧ e = .returned (.tuple #[.slice none 0 0, .int .i64 (packE t)])) ∨ (packE t = 0 ∧ ∃ q, e = .returned (.tuple #[.slice (some ⟨q, 0, none⟩) (t.c + 1) (t.c + 1), .int .i64 0]) ∧ w.heap.size ≤ q ∧ BOwn w' q (t.c + 1) (t.c + 1) (pkB t))

set_option maxRecDepth 100000 in
set_option maxHeartbeats 8000000 in
theorem pack_any (t : Tr) (ht : t.Ok) (ca : Option Addr) (cc : Nat) (ra : Option Addr) (rc : Nat) (w : World) (hT : Tab w) (hc : RRow w ca 257 t.n (cpF t.cb t.cd)) (hr : RRow w ra 1 t.m (inF t.rv))
    (hcl : ∀ b off, ca = some ⟨b, off, none⟩ → b < w.heap.size) (hrl : ∀ b off, ra = some ⟨b, off, none⟩ → b < w.heap.size) (hcc : t.n ≤ cc) (hrc : t.m ≤ rc) :
    Calls Tryd.prog 14 #[tval t.s ca t.n cc ra t.m rc] w fun e w' => PackPost w t e w' ∧ Below w.heap.size w w' := by
  refine (callsIn_wide (n := 5)).1 (callsIn_of_wp_marks Tryd.func14 rfl trivial ?_ rfl)
  refine wpIn_wide.2 ?_
  simp only [Tryd.ntmps14, List.size_toArray, List.length_cons, List.length_nil, Nat.reduceAdd, Nat.reduceSub, Array.replicate_succ, Array.replicate_zero, List.push_toArray, List.append_toArray, List.nil_append, List.cons_append]
  have hTl := hT.lt
  have hs0 := ((At.new w 51 (tcells t.s ca t.n cc ra t.m rc)).alloc (.cells #[.slice none 0 0] 24)).alloc (.cells #[.int .i64 0] 27)
  obtain ⟨W0, hW0⟩ : ∃ W0, W0 = ((w.alloc (.cells (tcells t.s ca t.n cc ra t.m rc) 51)).alloc (.cells #[.slice none 0 0] 24)).alloc (.cells #[.int .i64 0] 27) := ⟨_, rfl⟩
  have st0 : Hid (PkA w t ca cc ra rc W0) := by
    rw [hW0]
    refine ⟨hs0, ?_, ?_, ((hc.alloc _).alloc _).alloc _, ((hr.alloc _).alloc _).alloc _, ((hT.alloc _).alloc _).alloc _, (((Below.refl _ _).alloc (Nat.le_refl _) _).alloc (by simp) _).alloc (by simp; omega) _⟩
    · have := (At.new (w.alloc (.cells (tcells t.s ca t.n cc ra t.m rc) 51)) 24 #[.slice none 0 0]).alloc (.cells #[.int .i64 0] 27)
      simp only [World.size_alloc] at this; exact this
    · have := At.new ((w.alloc (.cells (tcells t.s ca t.n cc ra t.m rc) 51)).alloc (.cells #[.slice none 0 0] 24)) 27 #[.int .i64 0]
      simp only [World.size_alloc] at this; exact this
  have HW0 := Lib.hid hW0
  have HCL : Hid (∀ b off, ca = some ⟨b, off, none⟩ → b < w.heap.size) := hcl
  have HRL : Hid (∀ b off, ra = some ⟨b, off, none⟩ → b < w.heap.size) := hrl
  have HOK := Lib.hid ht
  have hn := ht.n
  have hm := ht.m
  clear hT hc hr hcl hrl ht hW0
  go_wp2_with (first | (refine wp_loadAtG rfl 51 (.tmp 1) rfl _ _ _ rfl hs0 Tryd.underlying51 rfl (by kernel_rfl) ?_))
  rw [show (w.alloc (.cells #[.int .u32 t.s, .slice ca t.n cc, .slice ra t.m rc] 51)) = w.alloc (.cells (tcells t.s ca t.n cc ra t.m rc) 51) from rfl, ← HW0.out]
  clear HW0 hs0
  refine (packMay_any t.s ca t.n cc ra t.m rc t.cb t.cd t.rv HOK.out.s hn hm W0 st0.out.c st0.out.r).mono ?_
  rintro e w1 ⟨rfl, hb1⟩
  have st1 := Lib.hid (st0.out.below hb1)
  have hl1 := st1.out.r2.lt
  clear st0 hb1
  have c1 : w1.cell? ⟨w.heap.size, 1, none⟩ = some (.slice ca t.n cc) := st1.out.tr.cell (i := 1) rfl
  have c2 : w1.cell? ⟨w.heap.size, 2, none⟩ = some (.slice ra t.m rc) := st1.out.tr.cell (i := 2) rfl
  have d1 : w1.cell? ⟨w.heap.size + 1, 0, none⟩ = some (.slice none 0 0) := st1.out.r1.cell (i := 0) rfl
  have d2 : w1.cell? ⟨w.heap.size + 1 + 1, 0, none⟩ = some (.int .i64 0) := st1.out.r2.cell (i := 0) rfl
  have f1 : w1.frozen? ⟨w.heap.size + 1, 0, none⟩ = false := soft_of_heap st1.out.r1 0
  have f2 : w1.frozen? ⟨w.heap.size + 1 + 1, 0, none⟩ = false := soft_of_heap st1.out.r2 0
  -- refused
  have HREF : Hid (∀ E : Int, E ≠ 0 → packE t = E → PackPost w t (.returned (.tuple #[.slice none 0 0, .int .i64 E])) ((w1.setCell ⟨w.heap.size + 1, 0, none⟩ (.slice none 0 0)).setCell ⟨w.heap.size + 1 + 1, 0, none⟩ (.int .i64 E)) ∧
      Below w.heap.size w ((w1.setCell ⟨w.heap.size + 1, 0, none⟩ (.slice none 0 0)).setCell ⟨w.heap.size + 1 + 1, 0, none⟩ (.int .i64 E)) ∧
      ((w1.setCell ⟨w.heap.size + 1, 0, none⟩ (.slice none 0 0)).setCell ⟨w.heap.size + 1 + 1, 0, none⟩ (.int .i64 E)).cell? ⟨w.heap.size + 1, 0, none⟩ = some (.slice none 0 0) ∧
      ((w1.setCell ⟨w.heap.size + 1, 0, none⟩ (.slice none 0 0)).setCell ⟨w.heap.size + 1 + 1, 0, none⟩ (.int .i64 E)).cell? ⟨w.heap.size + 1 + 1, 0, none⟩ = some (.int .i64 E)) := fun E hE he => by
    have s1 := Only.setCell w1 ⟨w.heap.size + 1, 0, none⟩ (.slice none 0 0)
    have s2 := Only.setCell (w1.setCell ⟨w.heap.size + 1, 0, none⟩ (.slice none 0 0)) ⟨w.heap.size + 1 + 1, 0, none⟩ (.int .i64 E)
    have a1 := (st1.out.r1.set0 (.slice none 0 0)).only s2 (by show w.heap.size + 1 ≠ w.heap.size + 1 + 1; omega)
    have a2 := (st1.out.r2.only s1 (by show w.heap.size + 1 + 1 ≠ w.heap.size + 1; omega)).set0 (.int .i64 E)
    exact ⟨.inl ⟨by rw [he]; exact hE, by rw [he]⟩, (st1.out.bel.trans (s1.below (by show _ ≤ w.heap.size + 1; omega))).trans (s2.below (by show _ ≤ w.heap.size + 1 + 1; omega)), a1.cell (i := 0) rfl, a2.cell (i := 0) rfl⟩
  cases hmay : mayT t.s t.n t.cb t.m t.rv with
  | false =>
    obtain ⟨o1, o2, o3, o4⟩ := HREF.out 150 (by decide) (by unfold packE Tr.may; rw [hmay]; rfl)
    have O1 := Lib.hid o1
    have O2 := Lib.hid o2
    have O3 := Lib.hid o3
    have O4 := Lib.hid o4
    clear o1 o2 o3 o4 hmay HREF
    go_wp2_with fail
    exact bodyPostM_early (results_pk rfl _ _ _ _ _ _ rfl rfl O3.out O4.out) ⟨O1.out, O2.out⟩
  | true =>
  have HMAY : Hid (t.may = true) := hmay
  obtain ⟨hq1, hq2, hq3, hq4⟩ := t.may_iff.1 hmay
  have hn48 := riseT_len hq3
  have hm48 := riseT_len hq4
  have hwc := wds_of hq3 HOK.out.cb0
  have hwr := wds_of hq4 HOK.out.rv0
  have HWC := Lib.hid hwc
  have HWR := Lib.hid hwr
  obtain ⟨cap, hcap⟩ : ∃ cap, cap = t.c + 1 := ⟨_, rfl⟩
  have hsz : sizeOf (t.n : Int) (t.m : Int) = (cap : Int) := by have := size_c hmay; unfold Tr.size at this; rw [this, hcap]; omega
  have HSZ : Hid (t.size = (cap : Int)) := hsz
  have HCAP := Lib.hid hcap
  have HCC := Lib.hid hcc
  have HRC := Lib.hid hrc
  clear hmay hq1 hq2 hq3 hq4 hwc hwr hcap hcc hrc
  go_wp2_with fail
  refine (packSize_any (t.n : Int) (t.m : Int) w1).mono ?_
  rintro e w2 ⟨rfl, rfl⟩
  rw [hsz]
  clear hsz
  by_cases hbig : 255 < cap
  · obtain ⟨o1, o2, o3, o4⟩ := HREF.out 4 (by decide) (by unfold packE; rw [HMAY.out, HSZ.out, if_pos rfl, if_neg (by omega)])
    have O1 := Lib.hid o1
    have O2 := Lib.hid o2
    have O3 := Lib.hid o3
    have O4 := Lib.hid o4
    have hb' : (255 : Int) < (cap : Int) := by omega
    clear o1 o2 o3 o4 HREF
    go_wp2_with fail
    exact bodyPostM_early (results_pk rfl _ _ _ _ _ _ rfl rfl O3.out O4.out) ⟨O1.out, O2.out⟩
  have hcb : (cap : Int) ≤ 255 := by omega
  clear HREF d1 d2 f1 f2
  have hmk : ∀ W, (Instr.makeSlice 24 (.int .i64 0) (.int .i64 (cap : Int))).run Tryd.prog W = .ok (.slice (some ⟨W.heap.size, 0, none⟩) 0 cap) (W.alloc (.cells (madeCells (Ks .u8 256 fun _ => 0).toArray (cap * 256)) 32)) := fun W => run_blocks0 cap (by omega) W
  obtain ⟨q, hq⟩ : ∃ q, q = w1.heap.size := ⟨_, rfl⟩
  obtain ⟨W2, hW2⟩ : ∃ W2, W2 = ((w1.alloc (.cells (madeCells (Ks .u8 256 fun _ => 0).toArray (cap * 256)) 32)).alloc (.cells #[.slice (some ⟨w1.heap.size, 0, none⟩) 0 cap] 24)).alloc (.cells #[.int .i64 0] 27) := ⟨_, rfl⟩
  have ord : PkO w ca ra q (q + 1) (q + 1 + 1) := ⟨hTl, by omega, by omega, by omega, HCL.out, HRL.out⟩
  have st2 : PkJ w t ca cc ra rc q (q + 1) (q + 1 + 1) 0 cap W2 := by
    have b2 : Below w1.heap.size w1 W2 := by rw [hW2]; exact (((Below.refl _ _).alloc (Nat.le_refl _) _).alloc (by simp) _).alloc (by simp; omega) _
    have s2 := st1.out.below b2
    refine ⟨s2.tr, s2.r1, s2.r2, ?_, ?_, ?_, s2.c, s2.r, s2.ta, s2.bel⟩
    · rw [hW2, hq]
      have := (At.new (w1.alloc (.cells (madeCells (Ks .u8 256 fun _ => 0).toArray (cap * 256)) 32)) 24 #[.slice (some ⟨w1.heap.size, 0, none⟩) 0 cap]).alloc (.cells #[.int .i64 0] 27)
      simp only [World.size_alloc] at this; exact this
    · rw [hW2, hq]
      have := At.new ((w1.alloc (.cells (madeCells (Ks .u8 256 fun _ => 0).toArray (cap * 256)) 32)).alloc (.cells #[.slice (some ⟨w1.heap.size, 0, none⟩) 0 cap] 24)) 27 #[.int .i64 0]
      simp only [World.size_alloc] at this; exact this
    · have h0 : (w1.alloc (.cells (madeCells (Ks .u8 256 fun _ => 0).toArray (cap * 256)) 32)).heap[q]? = some (.cells (madeCells (Ks .u8 256 fun _ => 0).toArray (cap * 256)) 32 (0, 0)) := by rw [hq]; exact heap_alloc_new w1 _
      have h1 : BOwn (w1.alloc (.cells (madeCells (Ks .u8 256 fun _ => 0).toArray (cap * 256)) 32)) q 0 cap (pk0 t) := BOwn.none h0 (size_madeCells _ _) (by unfold maxLen; omega)
      rw [hW2]
      exact h1.below (((Below.refl _ _).alloc (Nat.le_refl _) _).alloc (by simp) _)
  have HW2 := Lib.hid hW2
  have HQ := Lib.hid hq
  have ST2 := Lib.hid st2
  have HO := Lib.hid ord
  have hl2 : q + 1 + 1 < W2.heap.size := st2.er.lt
  have c1' : W2.cell? ⟨w.heap.size, 1, none⟩ = some (.slice ca t.n cc) := st2.tr.cell (i := 1) rfl
  rw [hW2] at c1'
  clear hW2 hq st2 ord st1
  go_wp2_with fail
  rw [← HW2.out, ← HQ.out]
  clear HW2 HQ c1 c2 hl1 hmk c1'
  refine (rowsC_any ca t.n cc W2).mono ?_
  rintro e w3 ⟨rfl, hw3⟩
  have hb23 : Below W2.heap.size W2 w3 := by rw [← hw3]; exact ((Below.refl _ _).alloc (Nat.le_refl _) _).alloc (by simp) _
  have st3 := ST2.out.below hb23
  obtain ⟨lb, hlb⟩ : ∃ lb, lb = W2.heap.size := ⟨_, rfl⟩
  have hLB : At w3 lb 49 #[.slice ca t.n cc] := by rw [← hw3, hlb]; exact (At.new W2 _ _).alloc _
  have hNB : At w3 (lb + 1) 3 #[.int .i64 30] := by
    rw [← hw3, hlb]
    have := At.new (W2.alloc (.cells #[.slice ca t.n cc] 49)) 3 #[.int .i64 30]
    simp only [World.size_alloc] at this; exact this
  obtain ⟨b, off, hba⟩ : ∃ b off, 0 < t.n → ca = some ⟨b, off, none⟩ := by
    rcases st3.c with h | ⟨b, off, h, _⟩
    · exact ⟨0, 0, fun hp => by omega⟩
    · exact ⟨b, off, fun _ => h⟩
  have HBA : Hid (0 < t.n → ca = some ⟨b, off, none⟩) := hba
  have hneed : rowNeedC lb (lb + 1) b off t.n 0 w3 := ⟨⟨_, ⟨ca, cc, rfl, fun h => ⟨by rw [hba (by omega)]; rfl, by have := HCC.out; omega⟩⟩, hLB⟩, hNB⟩
  rw [← hlb]
  have hlq : q + 1 + 1 < lb := by omega
  have hlw := hNB.lt
  have ST3 := Lib.hid (st3.congr (cnt' := cntC t.n 0) (cntC_zero t.n).symm)
  have HND := Lib.hid hneed
  clear ST2 hb23 st3 hLB hNB hba hneed hlb hw3 hl2
  go_wp2_with fail
  apply wp_rangeK (gf := 90) (lb := #[.pointer (some ⟨lb, 0, none⟩), .pointer (some ⟨lb + 1, 0, none⟩)]) lb rfl (enters_of Tryd.func90 (by kernel_rfl) rfl)
    (rowsC_iter 4 (by decide) lb (lb + 1) b off t.n (by omega) (by omega)) (fun k => rfl) (by omega)
    (fun k W => PkJ w t ca cc ra rc q (q + 1) (q + 1 + 1) (cntC t.n k) cap W) (fun _ _ _ => False)
    (fun k => PkJ.local HO.out (by omega) hlq) (fun c k => LocalX.pure _ _ _) (fun k => needC_local (by omega) (by omega)) ST3.out HND.out
  case assign =>
    intro l k W K hk hK
    dsimp only [rowEncC]
    gi_wp2
    exact hK
  case body =>
    intro l k W hk st hN
    obtain ⟨e1, e2⟩ := cntC_row hk
    have hca := HBA.out (by omega)
    have hseg : RSeg W b off 257 t.n (cpF t.cb t.cd) := by
      rcases st.c with h | ⟨b', off', h, hs⟩
      · omega
      · rw [hca] at h; injection h with h; injection h with h1 h2; subst h1 h2; exact hs
    have hsub := hseg.sub (30 * k) (min 30 (t.n - 30 * k)) (by omega)
    obtain ⟨kk, hkk⟩ : ∃ kk, kk = min 30 (t.n - 30 * k) := ⟨_, rfl⟩
    rw [← hkk] at hsub e2 ⊢
    have c0 : W.cell? ⟨q + 1, 0, none⟩ = some (.slice (some ⟨q, 0, none⟩) (cntC t.n k) cap) := st.bl.cell (i := 0) rfl
    have c1 : W.cell? ⟨w.heap.size, 0, none⟩ = some (.int .u32 t.s) := st.tr.cell (i := 0) rfl
    have hle := cntC_le t.n (k + 1) (by omega)
    have hcapd : dN t.n ≤ cap := by have := HCAP.out; unfold Tr.c at this; omega
    have hcall := packCopies_any q (cntC t.n k) cap (pk0 t) t.s (some ⟨b, off + 30 * k * 257, none⟩) kk kk (fun j => t.cb (30 * k + j)) (fun j => t.cd (30 * k + j)) HOK.out.s (by omega) (fun j => HWC.out _) (fun j => HOK.out.cd _) (by omega) W st.b (.inr ⟨_, _, rfl, hsub⟩) (fun b' off' e => by
      injection e with e; injection e with e _; subst e
      exact Nat.lt_of_lt_of_le (HCL.out b off hca) st.bel.size)
    have HCALL := Lib.hid hcall
    have HKK := Lib.hid hkk
    have HE1 := Lib.hid e1
    have HE2 := Lib.hid e2
    have HST := Lib.hid st
    have HNN := Lib.hid hN
    clear hcall hkk e1 e2 st hN hsub hseg hca
    gi_wp2
    refine ⟨trivial, ?_⟩
    refine (CallsIn.inRound l (callsIn_wide.2 HCALL.out)).mono ?_
    rintro e W1 ⟨rfl, hB1, hg1⟩
    rw [show errOf (jdOk t.s kk fun j => t.cb (30 * k + j)) 2 = 0 from by rw [HKK.out, jdOk_row HMAY.out hk]; rfl, show cntC t.n k + 1 + kk = cntC t.n (k + 1) from by rw [HE1.out, HE2.out]]
    have hB2 : BOwn W1 q (cntC t.n (k + 1)) cap (pk0 t) := by
      rw [show cntC t.n k + 1 + kk = cntC t.n (k + 1) from by rw [HE1.out, HE2.out]] at hB1
      refine hB1.congr fun i hi j hj => ?_
      have h := pk0_desc hk (i := i) (by rw [← HKK.out]; have := HE2.out; omega)
      rw [← HKK.out, ← HE1.out] at h
      exact congrFun h j
    have HLD := Lib.hid (HST.out.laid HO.out hg1 hB2)
    have HKP : Hid (∀ u v, KeepsFrom w3.heap.size W ((W1.setCell ⟨q + 1, 0, none⟩ u).setCell ⟨q + 1 + 1, 0, none⟩ v)) := fun u v => keeps_laid hg1 (by omega) (by omega) (by omega)
    have HN2 : Hid (∀ u v, rowNeedC lb (lb + 1) b off t.n k ((W1.setCell ⟨q + 1, 0, none⟩ u).setCell ⟨q + 1 + 1, 0, none⟩ v)) := fun u v => by
      obtain ⟨⟨sv, h1, h2⟩, h3⟩ := HNN.out
      exact ⟨⟨sv, h1, heap_laid hg1 h2 (by omega) (by omega) (by omega)⟩, heap_laid hg1 h3 (by omega) (by omega) (by omega)⟩
    have a5 := HST.out.bl.grownQ hg1 (by omega)
    have a6 := HST.out.er.grownQ hg1 (by omega)
    have k5 : W1.cell? ⟨q + 1, 0, none⟩ = some (.slice (some ⟨q, 0, none⟩) (cntC t.n k) cap) := a5.cell (i := 0) rfl
    have k6 : W1.cell? ⟨q + 1 + 1, 0, none⟩ = some (.int .i64 0) := a6.cell (i := 0) rfl
    have f5 : W1.frozen? ⟨q + 1, 0, none⟩ = false := soft_of_heap a5 0
    have f6 : W1.frozen? ⟨q + 1 + 1, 0, none⟩ = false := soft_of_heap a6 0
    clear hB1 hB2 hg1 a5 a6 HCALL HKK HE1 HE2 HST HNN c0 c1
    gi_wp2
    exact ⟨HKP.out _ _, HLD.out, HN2.out _ _⟩
  case done =>
    intro D W hD st hK
    have st := st.congr (cntC_end t.n)
    have c2 : W.cell? ⟨w.heap.size, 2, none⟩ = some (.slice ra t.m rc) := st.tr.cell (i := 2) rfl
    have ST4 := Lib.hid st
    have HK4 := Lib.hid hK
    have hDl : D < W.heap.size := (Array.getElem?_eq_some_iff.1 hK).1
    clear st hK ST3 HND HBA
    go_wp2_with fail
    refine (rowsN_any ra t.m rc W).mono ?_
    rintro e w5 ⟨rfl, hw5⟩
    have hb5 : Below W.heap.size W w5 := by rw [← hw5]; exact ((Below.refl _ _).alloc (Nat.le_refl _) _).alloc (by simp) _
    have st5 := ST4.out.below hb5
    have hK5 : w5.heap[D]? = some (.deferred (some [])) := (hb5.block D hDl).trans HK4.out
    obtain ⟨lb2, hlb⟩ : ∃ lb2, lb2 = W.heap.size := ⟨_, rfl⟩
    have hLB : At w5 lb2 45 #[.slice ra t.m rc] := by rw [← hw5, hlb]; exact (At.new W _ _).alloc _
    have hNB : At w5 (lb2 + 1) 3 #[.int .i64 60] := by
      rw [← hw5, hlb]
      have := At.new (W.alloc (.cells #[.slice ra t.m rc] 45)) 3 #[.int .i64 60]
      simp only [World.size_alloc] at this; exact this
    obtain ⟨b2, off2, hba⟩ : ∃ b off, 0 < t.m → ra = some ⟨b, off, none⟩ := by
      rcases st5.r with h | ⟨b, off, h, _⟩
      · exact ⟨0, 0, fun hp => by omega⟩
      · exact ⟨b, off, fun _ => h⟩
    have HBA : Hid (0 < t.m → ra = some ⟨b2, off2, none⟩) := hba
    have hneed : rowNeedN lb2 (lb2 + 1) b2 off2 t.m 0 w5 := ⟨⟨_, ⟨ra, rc, rfl, fun h => ⟨by rw [hba (by omega)]; rfl, by have := HRC.out; omega⟩⟩, hLB⟩, hNB⟩
    rw [← hlb]
    have hlw5 := hNB.lt
    have hDlb : D < lb2 := by omega
    have hlq2 : q + 1 + 1 < lb2 := by omega
    have hDq : q + 1 + 1 < D := by omega
    have ST5 := Lib.hid st5
    have HK5 := Lib.hid hK5
    have HND := Lib.hid hneed
    clear ST4 HK4 hb5 st5 hK5 hLB hNB hba hneed hlb hw5 hDl hD c2
    go_wp2_with fail
    apply wp_rangeK (gf := 93) (lb := #[.pointer (some ⟨lb2, 0, none⟩), .pointer (some ⟨lb2 + 1, 0, none⟩)]) lb2 rfl (enters_of Tryd.func93 (by kernel_rfl) rfl)
      (rowsN_iter 4 (by decide) lb2 (lb2 + 1) b2 off2 t.m (by omega) (by omega)) (fun k => rfl) (by omega)
      (fun k W => PkJ w t ca cc ra rc q (q + 1) (q + 1 + 1) (dN t.n + k) cap W ∧ W.heap[D]? = some (.deferred (some []))) (fun _ _ _ => False)
      (fun k => (PkJ.local HO.out (by omega) hlq2).and (LocalX.heap _ (by omega) (by omega))) (fun c k => LocalX.pure _ _ _) (fun k => needN_local (by omega) (by omega)) ⟨ST5.out, HK5.out⟩ HND.out
    case assign =>
      intro l k W K hk hK
      dsimp only [rowEncN]
      gi_wp2
      exact hK
    case body =>
      rintro l k W hk ⟨st, hD6⟩ hN
      have hra := HBA.out (by omega)
      have hseg : RSeg W b2 off2 1 t.m (inF t.rv) := by
        rcases st.r with h | ⟨b', off', h, hs⟩
        · omega
        · rw [hra] at h; injection h with h; injection h with h1 h2; subst h1 h2; exact hs
      have hsub := hseg.sub (60 * k) (min 60 (t.m - 60 * k)) (by omega)
      rw [Nat.mul_one] at hsub
      obtain ⟨kk, hkk⟩ : ∃ kk, kk = min 60 (t.m - 60 * k) := ⟨_, rfl⟩
      rw [← hkk] at hsub ⊢
      have c0 : W.cell? ⟨q + 1, 0, none⟩ = some (.slice (some ⟨q, 0, none⟩) (dN t.n + k) cap) := st.bl.cell (i := 0) rfl
      have c1 : W.cell? ⟨w.heap.size, 0, none⟩ = some (.int .u32 t.s) := st.tr.cell (i := 0) rfl
      have hkr : k < rN t.m := by unfold rN; exact hk
      have hcapd : dN t.n + rN t.m + 1 = cap := by have := HCAP.out; unfold Tr.c at this; omega
      have hcall := packRevokes_any q (dN t.n + k) cap (pk0 t) t.s (some ⟨b2, off2 + 60 * k, none⟩) kk kk (fun j => t.rv (60 * k + j)) HOK.out.s (by omega) (fun j => HWR.out _) (by omega) W st.b (.inr ⟨_, _, rfl, hsub⟩) (fun b' off' e => by
        injection e with e; injection e with e _; subst e
        exact Nat.lt_of_lt_of_le (HRL.out b2 off2 hra) st.bel.size)
      have HCALL := Lib.hid hcall
      have HKK := Lib.hid hkk
      have HST := Lib.hid st
      have HNN := Lib.hid hN
      have HD6 := Lib.hid hD6
      clear hcall hkk st hN hsub hseg hra hD6
      gi_wp2
      refine ⟨trivial, ?_⟩
      refine (CallsIn.inRound l (callsIn_wide.2 HCALL.out)).mono ?_
      rintro e W1 ⟨rfl, hB1, hg1⟩
      rw [show errOf (revOk t.s kk fun j => t.rv (60 * k + j)) 2 = 0 from by rw [HKK.out, revOk_row HMAY.out hkr]; rfl]
      have hB2 : BOwn W1 q (dN t.n + k + 1) cap (pk0 t) := by
        refine hB1.congr fun i hi j hj => ?_
        have h := pk0_rev (t := t) (r := k) hi
        rw [← HKK.out] at h
        exact congrFun h j
      have HLD := Lib.hid (HST.out.laid HO.out hg1 hB2)
      have HKP : Hid (∀ u v, KeepsFrom w5.heap.size W ((W1.setCell ⟨q + 1, 0, none⟩ u).setCell ⟨q + 1 + 1, 0, none⟩ v)) := fun u v => keeps_laid hg1 (by omega) (by omega) (by omega)
      have HN2 : Hid (∀ u v, rowNeedN lb2 (lb2 + 1) b2 off2 t.m k ((W1.setCell ⟨q + 1, 0, none⟩ u).setCell ⟨q + 1 + 1, 0, none⟩ v)) := fun u v => by
        obtain ⟨⟨sv, h1, h2⟩, h3⟩ := HNN.out
        exact ⟨⟨sv, h1, heap_laid hg1 h2 (by omega) (by omega) (by omega)⟩, heap_laid hg1 h3 (by omega) (by omega) (by omega)⟩
      have HD7 : Hid (∀ u v, ((W1.setCell ⟨q + 1, 0, none⟩ u).setCell ⟨q + 1 + 1, 0, none⟩ v).heap[D]? = some (.deferred (some []))) := fun u v => heap_laid hg1 HD6.out (by omega) (by omega) (by omega)
      have a5 := HST.out.bl.grownQ hg1 (by omega)
      have a6 := HST.out.er.grownQ hg1 (by omega)
      have k5 : W1.cell? ⟨q + 1, 0, none⟩ = some (.slice (some ⟨q, 0, none⟩) (dN t.n + k) cap) := a5.cell (i := 0) rfl
      have k6 : W1.cell? ⟨q + 1 + 1, 0, none⟩ = some (.int .i64 0) := a6.cell (i := 0) rfl
      have f5 : W1.frozen? ⟨q + 1, 0, none⟩ = false := soft_of_heap a5 0
      have f6 : W1.frozen? ⟨q + 1 + 1, 0, none⟩ = false := soft_of_heap a6 0
      clear hB1 hB2 hg1 a5 a6 HCALL HKK HST HNN c0 c1 HD6
      gi_wp2
      exact ⟨HKP.out _ _, ⟨HLD.out, HD7.out _ _⟩, HN2.out _ _⟩
    case done =>
      rintro D2 W hD2 ⟨st, hD6⟩ hK
      have st : PkJ w t ca cc ra rc q (q + 1) (q + 1 + 1) t.c cap W := st
      have c0 : W.cell? ⟨q + 1, 0, none⟩ = some (.slice (some ⟨q, 0, none⟩) t.c cap) := st.bl.cell (i := 0) rfl
      have c1 : W.cell? ⟨w.heap.size, 0, none⟩ = some (.int .u32 t.s) := st.tr.cell (i := 0) rfl
      have hcall := packCommit_any q t.c cap (pk0 t) (pk0_byt t HOK.out) t.s HOK.out.s (by have := HCAP.out; omega) (by have := HCAP.out; omega) W st.b st.ta
      have HCALL := Lib.hid hcall
      have HST := Lib.hid st
      have HD6 := Lib.hid hD6
      have HK6 := Lib.hid hK
      have hDD : D < D2 := by omega
      clear hcall st hD6 hK hD2 ST5 HK5 HND HBA
      go_wp2_with fail
      refine HCALL.out.mono ?_
      rintro e W1 ⟨rfl, hB1, hg1⟩
      rw [show errOf (commitOk t.s t.c) 2 = 0 from by rw [commitOk_c HMAY.out (by rw [HSZ.out]; omega)]; rfl, ← HCAP.out]
      have hB2 : BOwn W1 q cap cap (pkB t) := by
        rw [← HCAP.out] at hB1
        exact hB1.congr fun i hi j hj => rfl
      have o2 := HO.out.o2
      have a5 := HST.out.bl.grownQ hg1 (by omega)
      have a6 := HST.out.er.grownQ hg1 (by omega)
      have a1 := HST.out.r1.grownQ hg1 (by omega)
      have a2 := HST.out.r2.grownQ hg1 (by omega)
      have k5 : W1.cell? ⟨q + 1, 0, none⟩ = some (.slice (some ⟨q, 0, none⟩) t.c cap) := a5.cell (i := 0) rfl
      have k6 : W1.cell? ⟨q + 1 + 1, 0, none⟩ = some (.int .i64 0) := a6.cell (i := 0) rfl
      have k1 : W1.cell? ⟨w.heap.size + 1, 0, none⟩ = some (.slice none 0 0) := a1.cell (i := 0) rfl
      have k2 : W1.cell? ⟨w.heap.size + 1 + 1, 0, none⟩ = some (.int .i64 0) := a2.cell (i := 0) rfl
      have f5 : W1.frozen? ⟨q + 1, 0, none⟩ = false := soft_of_heap a5 0
      have f6 : W1.frozen? ⟨q + 1 + 1, 0, none⟩ = false := soft_of_heap a6 0
      have f1 : W1.frozen? ⟨w.heap.size + 1, 0, none⟩ = false := soft_of_heap a1 0
      have f2 : W1.frozen? ⟨w.heap.size + 1 + 1, 0, none⟩ = false := soft_of_heap a2 0
      obtain ⟨Wf, hWf⟩ : ∃ Wf, Wf = (((W1.setCell ⟨q + 1, 0, none⟩ (.slice (some ⟨q, 0, none⟩) cap cap)).setCell ⟨q + 1 + 1, 0, none⟩ (.int .i64 0)).setCell ⟨w.heap.size + 1, 0, none⟩ (.slice (some ⟨q, 0, none⟩) cap cap)).setCell ⟨w.heap.size + 1 + 1, 0, none⟩ (.int .i64 0) := ⟨_, rfl⟩
      have s1 := Only.setCell W1 ⟨q + 1, 0, none⟩ (.slice (some ⟨q, 0, none⟩) cap cap)
      have s2 := Only.setCell (W1.setCell ⟨q + 1, 0, none⟩ (.slice (some ⟨q, 0, none⟩) cap cap)) ⟨q + 1 + 1, 0, none⟩ (.int .i64 0)
      have s3 := Only.setCell ((W1.setCell ⟨q + 1, 0, none⟩ (.slice (some ⟨q, 0, none⟩) cap cap)).setCell ⟨q + 1 + 1, 0, none⟩ (.int .i64 0)) ⟨w.heap.size + 1, 0, none⟩ (.slice (some ⟨q, 0, none⟩) cap cap)
      have s4 := Only.setCell (((W1.setCell ⟨q + 1, 0, none⟩ (.slice (some ⟨q, 0, none⟩) cap cap)).setCell ⟨q + 1 + 1, 0, none⟩ (.int .i64 0)).setCell ⟨w.heap.size + 1, 0, none⟩ (.slice (some ⟨q, 0, none⟩) cap cap)) ⟨w.heap.size + 1 + 1, 0, none⟩ (.int .i64 0)
      simp only [← hWf] at s4
      have hdn : ∀ {k : Nat} {o : Obj}, W.heap[k]? = some o → k ≠ q → k ≠ q + 1 → k ≠ q + 1 + 1 → k ≠ w.heap.size + 1 → k ≠ w.heap.size + 1 + 1 → Wf.heap[k]? = some o := fun {k o} h e0 e1 e2 e3 e4 => by
        rw [s4.block k e4, s3.block k e3, s2.block k e2, s1.block k e1, hg1.block k (Array.getElem?_eq_some_iff.1 h).1 (by intro e; injection e with e; exact e0 e)]
        exact h
      have HD7 := Lib.hid (hdn HD6.out (by omega) (by omega) (by omega) (by omega) (by omega))
      have HK7 := Lib.hid (hdn HK6.out (by omega) (by omega) (by omega) (by omega) (by omega))
      have HR1 : Hid (Wf.cell? ⟨w.heap.size + 1, 0, none⟩ = some (.slice (some ⟨q, 0, none⟩) cap cap)) := ((((a1.only s1 (by show w.heap.size + 1 ≠ q + 1; omega)).only s2 (by show w.heap.size + 1 ≠ q + 1 + 1; omega)).set0 _).only s4 (by show w.heap.size + 1 ≠ w.heap.size + 1 + 1; omega)).cell (i := 0) rfl
      have HR2 : Hid (Wf.cell? ⟨w.heap.size + 1 + 1, 0, none⟩ = some (.int .i64 0)) := by
        have := (((a2.only s1 (by show w.heap.size + 1 + 1 ≠ q + 1; omega)).only s2 (by show w.heap.size + 1 + 1 ≠ q + 1 + 1; omega)).only s3 (by show w.heap.size + 1 + 1 ≠ w.heap.size + 1; omega)).set0 (.int .i64 0)
        rw [← hWf] at this
        exact this.cell (i := 0) rfl
      have HBF : Hid (BOwn Wf q cap cap (pkB t)) :=
        (((hB2.kept s1.grown (by intro e; injection e with e; change q + 1 = q at e; omega)).kept s2.grown (by intro e; injection e with e; change q + 1 + 1 = q at e; omega)).kept s3.grown (by intro e; injection e with e; change w.heap.size + 1 = q at e; omega)).kept s4.grown (by intro e; injection e with e; change w.heap.size + 1 + 1 = q at e; omega)
      have HLF : Hid (Below w.heap.size w Wf) :=
        ((((HST.out.bel.grown hg1 HST.out.bel.size (fun k e => by cases e; omega)).trans (s1.below (by show _ ≤ q + 1; omega))).trans (s2.below (by show _ ≤ q + 1 + 1; omega))).trans (s3.below (by show _ ≤ w.heap.size + 1; omega))).trans (s4.below (by show _ ≤ w.heap.size + 1 + 1; omega))
      have HWF := Lib.hid hWf
      have hqz : w.heap.size ≤ q := by omega
      have hDw : w.heap.size < D := by omega
      have hq1 : ¬ q = w.heap.size := by omega
      have hq2 : ¬ w.heap.size = q := by omega
      have hq3 : ¬ q + 1 = w.heap.size := by omega
      have hq5 : ¬ q = w.heap.size + 1 := by omega
      have hq6 : ¬ w.heap.size + 1 = q := by omega
      have hq4 : ¬ w.heap.size = q + 1 := by omega
      clear hB1 hB2 hg1 a5 a6 a1 a2 s1 s2 s3 s4 hdn hWf HCALL HST HD6 HK6 c0 c1 o2
      go_wp2_with fail
      rw [← HWF.out]
      have hk := HK7.out
      have hd := HD7.out
      refine bodyPostM_done2 (D := D) (D2 := D2) hk hd (by omega) (results_pk rfl _ _ _ _ (.slice (some ⟨q, 0, none⟩) cap cap) 0 rfl rfl ?_ ?_) ⟨.inr ⟨?_, q, ?_, hqz, ?_⟩, ?_⟩
      · exact cell_putObj ((World.putObj_heap_other (by omega)).trans hd) rfl (cell_putObj hk rfl HR1.out)
      · exact cell_putObj ((World.putObj_heap_other (by omega)).trans hd) rfl (cell_putObj hk rfl HR2.out)
      · unfold packE; rw [HMAY.out, HSZ.out, if_pos rfl, if_pos hcb]
      · rw [← HCAP.out]
      · rw [← HCAP.out]
        exact HBF.out.putObj2 (by omega) (by omega)
      · exact below_putObj (below_putObj HLF.out _ (Nat.le_refl _) (by omega)) _ (Nat.le_refl _) (by omega)
    case stop =>
      intro D c k W hD k' h hK
      exact h.elim
  case stop =>
    intro D c k W hD hk h hK
    exact h.elim
end Go.Proofs.YtnbmmhoofilmfaaDoor
