/- Texts of this claim, merged by a program (a claim may have 60 files): What, RangeV, RangeV4, RangeK2, Pk9, Pk10, Pk11, Pk12, Sc0, CopyB, Outside, Sc1, Sc2, Sc3. -/
import Derived.Test.YtnbmmhoofilmfaaDoorK22
import Derived.Test.YtnbmmhoofilmfaaDoorK21
import Derived.Test.YtnbmmhoofilmfaaDoorK14
import Derived.Test.YtnbmmhoofilmfaaDoorK11
import Derived.Deep.QuietTactic
import Derived.Test.YtnbmmhoofilmfaaDoorK05
import Derived.Test.YtnbmmhoofilmfaaDoorK09
import Derived.Test.YtnbmmhoofilmfaaDoorK23
import Derived.Test.YtnbmmhoofilmfaaDoorK10
import Derived.Laws.CopyRow
import Derived.Deep.RegionLaw
import Derived.Test.YtnbmmhoofilmfaaDoorK07
import Derived.RegionIn
/- geo.What. -/
namespace Go.Proofs.YtnbmmhoofilmfaaDoor
open Go.RowKit
set_option linter.unusedVariables false
attribute [local go_sem] Oper.semAt_some

def outB (G S I J x : Int) : Bool := decide (0 ≤ x) && (decide (x < nBl G S I J) && (decide (x < 2) || decide (2 + J ≤ x)))
/-- parts that are over -/
def Past (g S J x : Int) (k : Nat) : Prop := (1 ≤ k → 1 ≤ x) ∧ (2 ≤ k → 2 ≤ x) ∧ (3 ≤ k → 2 + J ≤ x) ∧ ((k : Int) = 3 + 4 * g → 2 + J + g * S ≤ x)
theorem ptF_form {g : Nat} {S t J : Int} (h1 : 16 ≤ S) (h2 : S ≤ 512) (h3 : 0 ≤ t) (h4 : 3 + t ≤ S) (h5 : 40 ≤ J) (h6 : J ≤ 256) (hg : g ≤ 4) (k : Nat) (hk : k < 3 + 4 * g) :
    ∃ K Gg Fr Sz Pl : Int, ptF S t J k = pcells K Gg Fr Sz Pl ∧ (0 ≤ Fr ∧ 0 ≤ Sz ∧ Fr + Sz ≤ 2 + J + g * S ∧ 0 ≤ Pl ∧ Pl ≤ 512 ∧ Fr + Sz ≤ 4000 ∧ 0 ≤ K ∧ K ≤ 7) ∧
      (k = 0 ∧ Fr + Sz = 1 ∧ K = 1 ∨ k = 1 ∧ Fr + Sz = 2 ∧ K = 2 ∨ k = 2 ∧ Fr + Sz = 2 + J ∧ K = 3 ∨ 3 ≤ k ∧ 2 + J ≤ Fr + Sz ∧ 4 ≤ K ∧ K ≤ 7 ∧ (k + 1 = 3 + 4 * g → Fr + Sz = 2 + J + g * S)) := by
  have hgs0 : 0 ≤ (g : Int) * S := Int.mul_nonneg (by omega) (by omega)
  have hgs1 : (g : Int) * S ≤ 4 * 512 := Int.mul_le_mul (by omega) h2 (by omega) (by omega)
  by_cases c0 : k = 0
  · subst c0; exact ⟨1, 0, 0, 1, 0, rfl, by omega, by omega⟩
  by_cases c1 : k = 1
  · subst c1; exact ⟨2, 0, 1, 1, 0, rfl, by omega, by omega⟩
  by_cases c2 : k = 2
  · subst c2; exact ⟨3, 0, 2, J, 0, rfl, by omega, by omega⟩
  obtain ⟨γ, i, hi, rfl⟩ : ∃ γ i, i < 4 ∧ k = 3 + 4 * γ + i := ⟨(k - 3) / 4, (k - 3) % 4, by omega, by omega⟩
  have hγ : γ + 1 ≤ g := by omega
  have hm0 : 0 ≤ (γ : Int) * S := Int.mul_nonneg (by omega) (by omega)
  have hm1 : ((γ : Int) + 1) * S ≤ (g : Int) * S := Int.mul_le_mul_of_nonneg_right (by omega) (by omega)
  rw [Int.add_mul, Int.one_mul] at hm1
  have hlast : γ + 1 = g → (γ : Int) * S + S = (g : Int) * S := fun e => by rw [← e]; rw [show ((γ + 1 : Nat) : Int) = (γ : Int) + 1 by omega, Int.add_mul, Int.one_mul]
  rw [ptF_at S t J γ hi]
  generalize (γ : Int) * S = a at *
  generalize (g : Int) * S = b at *
  have : i = 0 ∨ i = 1 ∨ i = 2 ∨ i = 3 := by omega
  rcases this with rfl | rfl | rfl | rfl
  · exact ⟨4, γ, 2 + J + a, 1, 0, rfl, by omega, by omega⟩
  · exact ⟨5, γ, 2 + J + a + 1, 1, 1, rfl, by omega, by omega⟩
  · exact ⟨6, γ, 2 + J + a + 2, t, 2, rfl, by omega, by omega⟩
  · refine ⟨7, γ, 2 + J + a + 2 + t, S - 2 - t, 2 + t, rfl, by omega, .inr (.inr (.inr ⟨by omega, by omega, by omega, by omega, fun e => ?_⟩))⟩
    have := hlast (by omega)
    omega
theorem At.setCell {w : World} {g : Nat} {T : TypeId} {cs : Array Value} (h : At w g T cs) (i : Nat) (v : Value) : At (w.setCell ⟨g, i, none⟩ v) g T (cs.setIfInBounds i v) := by
  obtain ⟨hlt, hk⟩ := Array.getElem?_eq_some_iff.1 h
  show (w.heap.modify g _)[g]? = _
  rw [Array.getElem?_eq_getElem (by rw [Array.size_modify]; exact hlt), Array.getElem_modify_self, hk]
  rfl
structure WhS (w : World) (G S I J x K A B : Int) (W : World) : Prop where
  g : At W w.heap.size 23 (gcells G S I J)
  x : At W (w.heap.size + 1) 3 #[.int .i64 x]
  k : At W (w.heap.size + 2) 5 #[.int .u8 K]
  a : At W (w.heap.size + 3) 3 #[.int .i64 A]
  b : At W (w.heap.size + 4) 3 #[.int .i64 B]
  bel : Below w.heap.size w W
section
variable {w : World} {G S I J x K A B : Int} {W W' : World}
theorem WhS.below (h : WhS w G S I J x K A B W) (hb : Below W.heap.size W W') : WhS w G S I J x K A B W' := ⟨h.g.below hb h.g.lt, h.x.below hb h.x.lt, h.k.below hb h.k.lt, h.a.below hb h.a.lt, h.b.below hb h.b.lt, h.bel.trans (hb.mono h.bel.size)⟩
theorem WhS.sz (h : WhS w G S I J x K A B W) : w.heap.size + 5 ≤ W.heap.size := h.b.lt
theorem WhS.setK (h : WhS w G S I J x K A B W) (v : Int) : WhS w G S I J x v A B (W.setCell ⟨w.heap.size + 2, 0, none⟩ (.int .u8 v)) :=
  have ho := Only.setCell W ⟨w.heap.size + 2, 0, none⟩ (.int .u8 v)
  ⟨h.g.only ho (by simp), h.x.only ho (by simp), h.k.setCell 0 _, h.a.only ho (by simp), h.b.only ho (by simp), h.bel.trans (ho.below (by simp))⟩
theorem WhS.setA (h : WhS w G S I J x K A B W) (v : Int) : WhS w G S I J x K v B (W.setCell ⟨w.heap.size + 3, 0, none⟩ (.int .i64 v)) :=
  have ho := Only.setCell W ⟨w.heap.size + 3, 0, none⟩ (.int .i64 v)
  ⟨h.g.only ho (by simp), h.x.only ho (by simp), h.k.only ho (by simp), h.a.setCell 0 _, h.b.only ho (by simp), h.bel.trans (ho.below (by simp))⟩
theorem WhS.setB (h : WhS w G S I J x K A B W) (v : Int) : WhS w G S I J x K A v (W.setCell ⟨w.heap.size + 4, 0, none⟩ (.int .i64 v)) :=
  have ho := Only.setCell W ⟨w.heap.size + 4, 0, none⟩ (.int .i64 v)
  ⟨h.g.only ho (by simp), h.x.only ho (by simp), h.k.only ho (by simp), h.a.only ho (by simp), h.b.setCell 0 _, h.bel.trans (ho.below (by simp))⟩
theorem WhS.loc {B0 : Nat} (hB : w.heap.size + 5 ≤ B0) : LocalP B0 (WhS w G S I J x K A B) := fun A' C hs hg =>
  ⟨LocalP.at _ _ (by omega) A' C hs.g hg, LocalP.at _ _ (by omega) A' C hs.x hg, LocalP.at _ _ (by omega) A' C hs.k hg, LocalP.at _ _ (by omega) A' C hs.a hg, LocalP.at _ _ (by omega) A' C hs.b hg, LocalP.below w (by omega) (Nat.le_refl _) A' C hs.bel hg⟩
end
theorem parts_any (G S I J : Int) (w : World) : Calls Tryd.prog 64 #[gval G S I J] w fun e w' => e = .returned (.func (.func 121) #[] #[.pointer (some ⟨w.heap.size, 0, none⟩)]) ∧ At w' w.heap.size 23 (gcells G S I J) ∧ Below w.heap.size w w' := by
  have hA := Lib.hid (At.new w 23 (gcells G S I J))
  have hL : Hid (Below w.heap.size w (w.alloc (.cells (gcells G S I J) 23))) := (Below.refl _ _).alloc (Nat.le_refl _) _
  go_enter Tryd.func64, Tryd.ntmps64
  go_wp2_with fail
  go_ret
  exact ⟨rfl, hA.out, hL.out⟩
/-- while a round returns -/
structure WhC (w : World) (G S I J x K A B : Int) (p : Nat) (cs : Array Value) (B0 : Nat) (W0 : World) (t : Mv.St) (W : World) : Prop where
  s : WhS w G S I J x (if t.n ≥ 1 then K else 0) (if t.n ≥ 2 then A else 0) (if t.n ≥ 3 then B else 0) W
  p : At W p 141 cs
  keep : KeepsFrom B0 W0 W
section
variable {w : World} {G S I J x K A B : Int} {p : Nat} {cs : Array Value} {B0 : Nat} {W0 W : World}
theorem At.unlike {W : World} {p q : Nat} {T U : TypeId} {cs ds : Array Value} (h : At W p T cs) (k : At W q U ds) (hT : T ≠ U) : p ≠ q := by
  intro e
  subst e
  have := h.symm.trans k
  injection this with this
  injection this with _ h2 _
  exact hT h2
theorem WhC.s1 (h : WhC w G S I J x K A B p cs B0 W0 ⟨0, undef⟩ W) : WhC w G S I J x K A B p cs B0 W0 ⟨1, undef⟩ (W.setCell ⟨w.heap.size + 2, 0, none⟩ (.int .u8 K)) :=
  have ho := Only.setCell W ⟨w.heap.size + 2, 0, none⟩ (.int .u8 K)
  ⟨h.s.setK K, h.p.only ho (At.unlike h.p h.s.k (by decide)), h.keep.trans (ho.keeps (h.s.k.cell (i := 0) rfl))⟩
theorem WhC.s2 (h : WhC w G S I J x K A B p cs B0 W0 ⟨1, undef⟩ W) : WhC w G S I J x K A B p cs B0 W0 ⟨2, undef⟩ (W.setCell ⟨w.heap.size + 3, 0, none⟩ (.int .i64 A)) :=
  have ho := Only.setCell W ⟨w.heap.size + 3, 0, none⟩ (.int .i64 A)
  ⟨h.s.setA A, h.p.only ho (At.unlike h.p h.s.a (by decide)), h.keep.trans (ho.keeps (h.s.a.cell (i := 0) rfl))⟩
theorem WhC.s3 (h : WhC w G S I J x K A B p cs B0 W0 ⟨2, undef⟩ W) : WhC w G S I J x K A B p cs B0 W0 ⟨3, undef⟩ (W.setCell ⟨w.heap.size + 4, 0, none⟩ (.int .i64 B)) :=
  have ho := Only.setCell W ⟨w.heap.size + 4, 0, none⟩ (.int .i64 B)
  ⟨h.s.setB B, h.p.only ho (At.unlike h.p h.s.b (by decide)), h.keep.trans (ho.keeps (h.s.b.cell (i := 0) rfl))⟩
end
theorem info_i64 : (Tryd.prog.info? 3).map (·.size) = some 1 := by kernel_rfl

end Go.Proofs.YtnbmmhoofilmfaaDoor

/- As XRange: a range over a function whose k-th value is known by a law alone (it may hold addresses of memory that the iterator has made): Val k vs W. No program in sight. -/
namespace Go.Proofs.YtnbmmhoofilmfaaDoor
open Go.RowKit
set_option linter.unusedVariables false
variable {F : Fence} {n : Nat} {P : Program}

/-- An iterator hands over N values, the k-th one meets Val k. Need: what it wants of memory. -/
def IterV (F : Fence) (n : Nat) (P : Program) (g : Nat) (lb : Array Value) (Val : Nat → Array Value → World → Prop) (N : Nat) (own : Nat → Prop) (Need : Nat → World → Prop) : Prop :=
  ∀ (l : Nat) (J Jx : Nat → World → Prop) (W : World),
    (∀ k A B, J k A → Turns own A B → J k B) → (∀ k A B, Jx k A → Turns own A B → Jx k B) →
    (∀ k vs A, k < N → J k A → Need k A → Val k vs A → YieldAt F (n - 1) P l vs A fun e B => (e = .returned (.bool true) ∧ J (k + 1) B ∧ Need k B) ∨ (e = .returned (.bool false) ∧ Jx k B)) →
    J 0 W → Need 0 W →
    CallsIn F n P g (#[.func (.yield l) #[] #[]] ++ lb) W fun e B => (∃ v, e = .returned v) ∧ (J N B ∨ ∃ k, k < N ∧ Jx k B)

/-- how the body of round k may be left -/
def roundV (B : Nat) (J : Nat → World → Prop) (Jx : Code → Nat → World → Prop) (Need : Nat → World → Prop) (k : Nat) (W : World) : Exit → Act → World → Prop
  | .normal, _, W' => KeepsFrom B W W' ∧ J (k + 1) W' ∧ Need k W'
  | .ret, _, W' => KeepsFrom B W W' ∧ Jx .ret k W'
  | .exit id, _, W' => KeepsFrom B W W' ∧ Jx (.exit id) k W'
  | .goto t, _, W' => KeepsFrom B W W' ∧ Jx (.goto t) k W'
  | .panic _, _, _ => False
  | .outgrown, _, _ => False

/-- X stands whatever is new, or a block from B on that is no cells is turned -/
def Kept (B : Nat) (X : World → Prop) : Prop := ∀ W W' row, X W → W.grownBy W' row → (∀ r, row = some r → B ≤ r ∧ ∃ o : Obj, W.heap[r]? = some o ∧ o.isCells = false) → X W'
theorem Kept.from {B : Nat} {J : Nat → World → Prop} (h : ∀ k, Kept B (J k)) : OwnFrom B J := fun s W W' row hs hg hr => h s W W' row hs hg hr
theorem Kept.turns {B : Nat} {X : World → Prop} (h : Kept B X) {A C : World} (hs : X A) (ht : Turns (fun _ => False) A C) : X C := by
  obtain ⟨row, hg, hr⟩ := ht
  exact h A C row hs hg (fun r e => (hr r e).elim)
theorem Kept.and {B : Nat} {X Y : World → Prop} (h : Kept B X) (k : Kept B Y) : Kept B (fun W => X W ∧ Y W) := fun W W' row hs hg hr => ⟨h W W' row hs.1 hg hr, k W W' row hs.2 hg hr⟩
theorem Kept.pure (B : Nat) (p : Prop) : Kept B (fun _ => p) := fun _ _ _ h _ _ => h
theorem Kept.ex {B : Nat} {α : Type} {X : α → World → Prop} (h : ∀ x, Kept B (X x)) : Kept B (fun W => ∃ x, X x W) := fun W W' row hs hg hr => let ⟨x, hx⟩ := hs; ⟨x, h x W W' row hx hg hr⟩
theorem Kept.all {B : Nat} {α : Type} {X : α → World → Prop} (h : ∀ x, Kept B (X x)) : Kept B (fun W => ∀ x, X x W) := fun W W' row hs hg hr x => h x W W' row (hs x) hg hr
theorem Kept.ofLocal {B : Nat} {X : World → Prop} (h : LocalP B X) : Kept B X := fun W W' row hs hg hr => h W W' hs (Still.of_grown hg fun r e => (hr r e).1)
theorem Kept.cell (B : Nat) (p : Addr) (v : Value) : Kept B (fun W => W.cell? p = some v) := fun W W' row hs hg hr => by
  have hl := World.block_lt_of_cell? W _ hs
  refine (World.cell?_of_block (w := W) (hg.block p.block hl fun e => ?_)).trans hs
  obtain ⟨_, o, ho, hc⟩ := hr _ e.symm
  simp only [World.cell?, ho] at hs
  cases o with
  | cells c e f => cases hc
  | _ => cases hs
theorem Kept.own {B base : Nat} {e : TypeId} {size k : Nat} {v : Value} {xs : List Value} : Kept B (fun W => W.ownsRow base e size v k xs) := fun W W' row hs hg hr => by
  refine World.ownsRow.kept hs hg ?_
  cases row with
  | none => cases h1 : v.ownBlock with
    | none => exact .inl rfl
    | some g => exact .inr (fun e => by cases e)
  | some r =>
    obtain ⟨_, o, ho, hc⟩ := hr r rfl
    cases h1 : v.ownBlock with
    | none => exact .inl rfl
    | some g =>
      refine .inr fun e => ?_
      injection e with e
      subst e
      rcases hs.2 with ⟨hv, _⟩ | ⟨g', cap', cur, hv, hbg, hg', h⟩
      · subst hv; cases h1
      · subst hv
        have : g' = g := by simpa [Value.ownBlock] using h1
        subst this
        rw [ho] at hg'
        injection hg' with hg'
        subst hg'
        cases hc
end Go.Proofs.YtnbmmhoofilmfaaDoor

/- A range over a function whose values are structs that are known by a law alone; the assignment of each round puts the value into a new block. No program in sight. -/
namespace Go.Proofs.YtnbmmhoofilmfaaDoor
open Go.RowKit
set_option linter.unusedVariables false
variable {P : Program}
theorem Kept.at {B b : Nat} (T : TypeId) (cs : Array Value) : Kept B (fun W => At W b T cs) := fun W W' row hs hg hr => by
  refine (hg.block b hs.lt fun e => ?_).trans hs
  obtain ⟨_, o, ho, hc⟩ := hr b e.symm
  have : some (Obj.cells cs T (0, 0)) = some o := Eq.trans (Eq.symm hs) ho
  injection this with this
  subst this
  cases hc
theorem Kept.below {B n : Nat} (w : World) (hn : n ≤ B) (hw : n ≤ w.heap.size) : Kept B (fun W => Below n w W) := Kept.ofLocal (LocalP.below w hn hw)
end Go.Proofs.YtnbmmhoofilmfaaDoor

/- A range over a function in a plain walk, for states that may speak of memory of the loop's own (XRange3's law, whose states speak of the blocks that lay ahead of it). No program in sight. -/
namespace Go.Proofs.YtnbmmhoofilmfaaDoor
open Go.RowKit
variable {P : Program}
theorem wp_rangeIxK {g : Operand} {ps : Array Tmp} {asg bdy : Code} {Q : Exit → Act → World → Prop} {a : Act} {w : World} {gf : Nat} {lb : Array Value}
    (hg : a.eval g = .func (.func gf) #[] lb) (eg : ∀ args w, (callFunc gf args).run P w = .ok (.enter gf args) w)
    {encs : Nat → Array Value} {N : Nat} {Need : Nat → World → Prop} (hit : IterIx Fence.wide 4 P gf lb encs N (fun _ => False) Need) (hps : ∀ k, (encs k).size = ps.size)
    (J : Nat → World → Prop) (Jx : Code → Nat → World → Prop)
    (hJ : ∀ k, Kept w.heap.size (J k)) (hJx : ∀ c k, Kept w.heap.size (Jx c k)) (hN : ∀ k, Kept w.heap.size (Need k)) (h0 : J 0 w) (hn0 : Need 0 w) (A1 : Nat → Act)
    (assign : ∀ (l k : Nat) (W : World) (K : Act → World → Prop), k < N → K (A1 k) W →
      asg.wpIn (Fence.wide.inRound l) 3 P (Exit.then K (fun _ _ _ => False)) { tmps := (ps.zip (encs k)).foldl (fun t (p, v) => t.setIfInBounds p v) a.tmps, defers := [] } W)
    (body : ∀ (l k : Nat) (W : World), k < N → J k W → Need k W → bdy.wpIn (Fence.wide.inRound l) 3 P (roundIx w.heap.size J Jx Need k W) (A1 k) W)
    (done : ∀ (D : Nat) (W : World), w.heap.size ≤ D → J N W → W.heap[D]? = some (.deferred (some [])) → Q .normal { a with defers := { target := .collected D, args := #[] } :: a.defers } W)
    (stop : ∀ (D : Nat) (c : Code) (k : Nat) (W : World), w.heap.size ≤ D → k < N → Jx c k W → W.heap[D]? = some (.deferred (some [])) → c.wp P Q { a with defers := { target := .collected D, args := #[] } :: a.defers } W) :
    (Code.rangeFunc g ps asg bdy).wp P Q a w := by
  refine (wpIn_wide (n := 5)).1 ?_
  exact wpIn_rangeIx rfl (by decide) hg trivial eg hit (fun r h => h.elim) hps J Jx (fun k a' _ => a' = A1 k)
    (Kept.from hJ) (fun c => Kept.from (hJx c)) (Kept.from hN) (fun a' => Kept.from (fun k => Kept.pure _ _))
    (fun k A C hs ht => (hJ k).turns hs ht) (fun c k A C hs ht => (hJx c k).turns hs ht) h0 hn0
    (fun l k W K hk hj hn hK => assign l k W K hk (hK _ _ (KeepsFrom.refl _ _) hj hn rfl))
    (fun l k a' W hk hj hn ha => by subst ha; exact body l k W hk hj hn)
    done (fun D c k W h1 h2 h3 h4 => wpIn_wide.2 (stop D c k W h1 h2 h3 h4))
end Go.Proofs.YtnbmmhoofilmfaaDoor

/- What pack.parse tells, plainly; its memory. -/
namespace Go.Proofs.YtnbmmhoofilmfaaDoor
open Go.RowKit
set_option linter.unusedVariables false

/-- k copies more: from block u on, by the tags -/
def addC (t : Tr) (L : Nat → Nat → Int) (u k : Nat) (tb : Nat → Int) (te : Nat → Bool) : Tr :=
  ⟨t.s, t.n + k, fun i => if i < t.n then t.cb i else if i < t.n + k then tb (i - t.n) else 0,
    fun i => if i < t.n then t.cd i else if i < t.n + k then (if te (i - t.n) = true then unescZ (L (u + (i - t.n))) else L (u + (i - t.n))) else (fun _ => 0), t.m, t.rv⟩
/-- k revoked blocks more -/
def addR (t : Tr) (k : Nat) (m : Nat → Int) : Tr := ⟨t.s, t.n, t.cb, t.cd, t.m + k, fun i => if i < t.m then t.rv i else if i < t.m + k then m (i - t.m) else 0⟩
def tr0 (s : Int) : Tr := ⟨s, 0, fun _ => 0, fun _ _ => 0, 0, fun _ => 0⟩
/-- blocks read up to the first commit block -/
def prs (L : Nat → Nat → Int) (N : Nat) (s : Int) : Nat → Nat → Tr → Option (Tr × Nat)
  | 0, _, _ => none
  | f + 1, u, t =>
    if u < N then
      if seqOf (L u) = s then
        if kindOf (L u) = 1 then
          if descRd (L u) = true ∧ rowsN (L u) ≤ N - (u + 1) then prs L N s f (u + 1 + rowsN (L u)) (addC t L (u + 1) (rowsN (L u)) (descT (L u)) (jdE (L u))) else none
        else if kindOf (L u) = 3 then
          if revRd (L u) = true then prs L N s f (u + 1) (addR t (rowsN (L u)) (revM (L u))) else none
        else if kindOf (L u) = 2 then some (t, u + 1) else none
      else none
    else none
/-- what the parser keeps in memory: the transaction's box and rows, the blocks -/
structure PrS (w : World) (la : Option Addr) (N : Nat) (L : Nat → Nat → Int) (n m : Nat) (s : Int) (cb : Nat → Int) (cd : Nat → Nat → Int) (rv : Nat → Int) (ca : Option Addr) (cc : Nat) (ra : Option Addr) (rc : Nat) (W : World) : Prop where
  b : At W w.heap.size 51 (tcells s ca n cc ra m rc)
  c : RMine W (w.heap.size + 1) 101 257 (.slice ca n cc) n (cpF cb cd)
  r : RMine W (w.heap.size + 1) 3 1 (.slice ra m rc) m (inF rv)
  l : RRow W la 256 N (bkF L)
  bel : Below w.heap.size w W
section
variable {w : World} {la : Option Addr} {N : Nat} {L : Nat → Nat → Int} {n m : Nat} {s : Int} {cb : Nat → Int} {cd : Nat → Nat → Int} {rv : Nat → Int} {ca : Option Addr} {cc : Nat} {ra : Option Addr} {rc : Nat} {W W' : World}
theorem PrS.below (h : PrS w la N L n m s cb cd rv ca cc ra rc W) (hb : Below W.heap.size W W') : PrS w la N L n m s cb cd rv ca cc ra rc W' :=
  ⟨h.b.below hb h.b.lt, h.c.below hb, h.r.below hb, h.l.below (by intro e; have := bkF_len L 0; rw [e] at this; cases this) hb, h.bel.trans (hb.mono h.bel.size)⟩
end
theorem own_ne {W : World} {base base' k k' size size' g : Nat} {e e' : TypeId} {v v' : Value} {xs xs' : List Value} (h : W.ownsRow base e size v k xs) (h' : W.ownsRow base' e' size' v' k' xs') (he : e ≠ e') (hg : v.ownBlock = some g) : v'.ownBlock ≠ some g := by
  intro hg'
  rcases h.2 with ⟨rfl, _⟩ | ⟨q, cap, cur, rfl, _, hh, _⟩
  · cases hg
  rcases h'.2 with ⟨rfl, _⟩ | ⟨q', cap', cur', rfl, _, hh', _⟩
  · cases hg'
  simp [Value.ownBlock] at hg hg'
  subst hg hg'
  rw [hh] at hh'
  injection hh' with hh'
  injection hh' with _ h2 _
  exact he h2
theorem AtGrown {W W1 : World} {g : Nat} {T : TypeId} {cs : Array Value} {row : Option Nat} (h : At W g T cs) (hg : W.grownBy W1 row) (hne : row ≠ some g) : At W1 g T cs := (hg.block _ h.lt (fun e => hne e.symm)).trans h
theorem At.setF {W : World} {g : Nat} {T : TypeId} {cs : Array Value} (h : At W g T cs) (i : Nat) (v : Value) : At (W.setCell ⟨g, i, none⟩ v) g T (cs.setIfInBounds i v) := by
  obtain ⟨hlt, hk⟩ := Array.getElem?_eq_some_iff.1 h
  show (W.heap.modify g _)[g]? = _
  rw [Array.getElem?_eq_getElem (by rw [Array.size_modify]; exact hlt), Array.getElem_modify_self, hk]
  rfl
theorem info_int3 : (Tryd.prog.info? 3).map (fun i => (i.zero, i.size, i.bytes)) = some (some (.int .i64 0), 1, 8) := by kernel_rfl
theorem info_intP : ∃ i, Tryd.prog.info? 3 = some i ∧ i.zero = some (.int .i64 0) ∧ i.size = 1 ∧ i.bytes = 8 := by
  obtain ⟨i, hi, hz⟩ := Option.map_eq_some_iff.1 info_int3
  simp only [Prod.mk.injEq] at hz
  exact ⟨i, hi, hz.1, hz.2.1, hz.2.2⟩
end Go.Proofs.YtnbmmhoofilmfaaDoor

/- pack.parse. Printed by gen_pkparse.py. -/
namespace Go.Proofs.YtnbmmhoofilmfaaDoor
open Go.RowKit
set_option linter.unusedVariables false

/-- what parse answers -/
def ParsePost (w : World) (s : Int) (R : Option (Tr × Nat)) (e : Ending) (w' : World) : Prop :=
  (R = none ∧ e = .returned (.tuple #[tval 0 none 0 0 none 0 0, .int .i64 0, .bool false])) ∨
  (∃ (t : Tr) (u : Nat) (ca : Option Addr) (cc : Nat) (ra : Option Addr) (rc : Nat), R = some (t, u) ∧ e = .returned (.tuple #[tval s ca t.n cc ra t.m rc, .int .i64 (u : Int), .bool true]) ∧
    RMine w' (w.heap.size + 1) 101 257 (.slice ca t.n cc) t.n (cpF t.cb t.cd) ∧ RMine w' (w.heap.size + 1) 3 1 (.slice ra t.m rc) t.m (inF t.rv))

end Go.Proofs.YtnbmmhoofilmfaaDoor

/- pack.Unpack. -/
namespace Go.Proofs.YtnbmmhoofilmfaaDoor
open Go.RowKit
set_option linter.unusedVariables false

/-- what Unpack tells -/
def unp (L : Nat → Nat → Int) (N : Nat) (s : Int) : Option (Tr × Nat) :=
  match prs L (min N 255) s (min N 255) 0 (tr0 s) with
  | none => none
  | some (t, u) => if packE t = 0 ∧ sameB (pkB t) L (t.c + 1) u = true then some (t, u) else none
theorem unescB {z : Nat → Int} (hz : Byt z) : Byt (unescZ z) := byt_over hz (byt_byteOf _) _ _
/-- what is read fits its kinds -/
structure POk (t : Tr) (s : Int) (K : Nat) : Prop where
  s : t.s = s
  cb : ∀ i, 0 ≤ t.cb i ∧ t.cb i < 4294967296
  cd : ∀ i, Byt (t.cd i)
  rv : ∀ i, 0 ≤ t.rv i ∧ t.rv i < 4294967296
  n : t.n ≤ K
  m : t.m ≤ 60 * K
  cb0 : ∀ i, t.n ≤ i → t.cb i = 0
  rv0 : ∀ i, t.m ≤ i → t.rv i = 0
theorem POk.ok {t : Tr} {s : Int} {n : Nat} (h : POk t s n) (hs : 0 ≤ s ∧ s < 4294967296) (hn : n ≤ 255) : t.Ok :=
  ⟨by rw [h.s]; exact hs, fun i => by have := h.cb i; omega, h.cd, fun i => by have := h.rv i; omega, by have := h.n; omega, by have := h.m; omega, h.cb0, h.rv0⟩
theorem POk.zero (s : Int) : POk (tr0 s) s 0 := ⟨rfl, fun i => ⟨Int.le_refl 0, (by decide : (0 : Int) < 4294967296)⟩, fun i => zero_bytJ, fun i => ⟨Int.le_refl 0, (by decide : (0 : Int) < 4294967296)⟩, Nat.le_refl _, Nat.le_refl _, fun i _ => rfl, fun i _ => rfl⟩
theorem POk.addC {t : Tr} {s : Int} {n k u : Nat} {L : Nat → Nat → Int} {tb : Nat → Int} {te : Nat → Bool} (h : POk t s n) (hL : ∀ i, Byt (L i)) (htb : Wds tb) : POk (addC t L u k tb te) s (n + 1 + k) := by
  refine ⟨h.s, fun i => ?_, fun i => ?_, h.rv, by have := h.n; show t.n + k ≤ _; omega, by have := h.m; show t.m ≤ _; omega, fun i hi => ?_, h.rv0⟩
  · show 0 ≤ (if i < t.n then _ else if i < t.n + k then _ else _) ∧ (if i < t.n then _ else if i < t.n + k then _ else _) < _
    split
    · exact h.cb i
    · split
      · exact htb _
      · omega
  · show Byt (if i < t.n then _ else if i < t.n + k then _ else _)
    split
    · exact h.cd i
    · split
      · split
        · exact unescB (hL _)
        · exact hL _
      · exact zero_bytJ
  · show (if i < t.n then _ else if i < t.n + k then _ else _) = _
    have hi : t.n + k ≤ i := hi
    rw [if_neg (by omega), if_neg (by omega)]
theorem POk.addR {t : Tr} {s : Int} {n k : Nat} {m : Nat → Int} (h : POk t s n) (hk : k ≤ 60) (hm : Wds m) : POk (addR t k m) s (n + 1) := by
  refine ⟨h.s, h.cb, h.cd, fun i => ?_, by have := h.n; show t.n ≤ _; omega, by have := h.m; show t.m + k ≤ _; omega, h.cb0, fun i hi => ?_⟩
  · show 0 ≤ (if i < t.m then _ else if i < t.m + k then _ else _) ∧ (if i < t.m then _ else if i < t.m + k then _ else _) < _
    split
    · exact h.rv i
    · split
      · exact hm _
      · omega
  · show (if i < t.m then _ else if i < t.m + k then _ else _) = _
    have hi : t.m + k ≤ i := hi
    rw [if_neg (by omega), if_neg (by omega)]
theorem RRow.take {w : World} {a : Option Addr} {m n : Nat} {f : Nat → List Value} (h : RRow w a m n f) (k : Nat) (hk : k ≤ n) : RRow w a m k f := by
  rcases h with h | ⟨b, off, rfl, h⟩
  · exact .inl (by omega)
  · exact .inr ⟨b, off, rfl, fun i hi => h i (by omega)⟩

end Go.Proofs.YtnbmmhoofilmfaaDoor

/- What is packed is read: the plain law. -/
namespace Go.Proofs.YtnbmmhoofilmfaaDoor
open Go.RowKit
set_option linter.unusedVariables false

/-- a transaction's first copies and revoked blocks -/
def cut (t : Tr) (n m : Nat) : Tr := ⟨t.s, n, fun i => if i < n then t.cb i else 0, fun i => if i < n then t.cd i else fun _ => 0, m, fun i => if i < m then t.rv i else 0⟩
section
variable {t : Tr} {L : Nat → Nat → Int} {N : Nat}
end
end Go.Proofs.YtnbmmhoofilmfaaDoor

/- scan, plainly: the transactions with which blocks begin, one behind the other. -/
namespace Go.Proofs.YtnbmmhoofilmfaaDoor
open Go.RowKit
set_option linter.unusedVariables false

def fndF (L : Nat → Nat → Int) (N : Nat) : Nat → Nat → Int → List Tr
  | 0, _, _ => []
  | f + 1, k, s => if k < N ∧ s ≤ 2147483648 then (match unp (fun i => L (k + i)) (N - k) s with | none => [] | some (t, u) => t :: fndF L N f (k + u) (s + 1)) else []
/-- the transactions with which the blocks from k on begin, the first one with the number s -/
def fnd (L : Nat → Nat → Int) (N k : Nat) (s : Int) : List Tr := fndF L N (N - k) k s
section
variable {L : Nat → Nat → Int} {N : Nat}
/-- blocks in which transactions stand one behind the other from k on, and behind them nothing of the next number -/
inductive Laid (L : Nat → Nat → Int) (N : Nat) : Nat → Int → List Tr → Prop
  | nil {k : Nat} {s : Int} (h : k < N → seqOf (L k) ≠ s) : Laid L N k s []
  | cons {k : Nat} {s : Int} {t : Tr} {l : List Tr} (ht : t.Ok) (hz : ∀ i, t.n ≤ i → t.cd i = fun _ => 0) (hE : packE t = 0) (hs : t.s = s) (hN : k + (t.c + 1) ≤ N) (hl : ∀ i, i ≤ t.c → L (k + i) = pkB t i) (h : Laid L N (k + (t.c + 1)) (s + 1) l) : Laid L N k s (t :: l)
end
end Go.Proofs.YtnbmmhoofilmfaaDoor

/- 'copy(dst, src)' of elements of m cells each, dst in a row of one's own. No program in sight. -/
namespace Go.Proofs.YtnbmmhoofilmfaaDoor
open Go.RowKit
set_option linter.unusedVariables false

/-- f, with n elements of h from k on -/
def laid (f h : Nat → List Value) (k n : Nat) (i : Nat) : List Value := if k ≤ i ∧ i < k + n then h (i - k) else f i
end Go.Proofs.YtnbmmhoofilmfaaDoor

/- ScanOutside. -/
namespace Go.Proofs.YtnbmmhoofilmfaaDoor
open Go.RowKit
set_option linter.unusedVariables false

structure SoS (w : World) (G S I J : Int) (W : World) : Prop where
  g : At W w.heap.size 23 (gcells G S I J)
  bel : Below w.heap.size w W
theorem SoS.below {w : World} {G S I J : Int} {W W' : World} (h : SoS w G S I J W) (hb : Below W.heap.size W W') : SoS w G S I J W' := ⟨h.g.below hb h.g.lt, h.bel.trans (hb.mono h.bel.size)⟩
end Go.Proofs.YtnbmmhoofilmfaaDoor

/- scan.turned, scan.outside. -/
namespace Go.Proofs.YtnbmmhoofilmfaaDoor
open Go.RowKit
set_option linter.unusedVariables false

/-- the ring's blocks, from a place on -/
def ringL (L : Nat → Nat → Int) (j t k : Nat) : Nat → Int := L (3 + (t - 1 + k) % (j - 1))
/-- while the ring is turned -/
structure TuS (w : World) (b off : Nat) (L : Nat → Nat → Int) (N q r : Nat) (f : Nat → List Value) (W : World) : Prop where
  l : RRow W (some ⟨b, off, none⟩) 256 N (bkF L)
  a : RArr W q 32 256 r f
  bel : Below w.heap.size w W
end Go.Proofs.YtnbmmhoofilmfaaDoor

/- scan.outside. -/
namespace Go.Proofs.YtnbmmhoofilmfaaDoor
open Go.RowKit
set_option linter.unusedVariables false

/-- all of the first n -/
def allQ (p : Nat → Bool) : Nat → Bool
  | 0 => true
  | n + 1 => allQ p n && p n
/-- are all blocks that a transaction names outside of the journal? -/
def outT (G S I J : Int) (n : Nat) (cb : Nat → Int) (m : Nat) (rv : Nat → Int) : Bool := allQ (fun i => outB G S I J (cb i)) n && allQ (fun i => outB G S I J (rv i)) m
structure OuS (w : World) (G S I J s : Int) (ca : Option Addr) (n cc : Nat) (cb : Nat → Int) (cd : Nat → Nat → Int) (ra : Option Addr) (m rc : Nat) (rv : Nat → Int) (W : World) : Prop where
  g : At W w.heap.size 23 (gcells G S I J)
  t : At W (w.heap.size + 1) 51 (tcells s ca n cc ra m rc)
  c : RRow W ca 257 n (cpF cb cd)
  v : RRow W ra 1 m (inF rv)
  bel : Below w.heap.size w W
theorem OuS.below {w : World} {G S I J s : Int} {ca : Option Addr} {n cc : Nat} {cb : Nat → Int} {cd : Nat → Nat → Int} {ra : Option Addr} {m rc : Nat} {rv : Nat → Int} {W W' : World} (h : OuS w G S I J s ca n cc cb cd ra m rc rv W) (hb : Below W.heap.size W W') : OuS w G S I J s ca n cc cb cd ra m rc rv W' :=
  ⟨h.g.below hb h.g.lt, h.t.below hb h.t.lt, h.c.below (by intro e; cases e) hb, h.v.below (by intro e; cases e) hb, h.bel.trans (hb.mono h.bel.size)⟩
theorem OuS.only {w : World} {G S I J s : Int} {ca : Option Addr} {n cc : Nat} {cb : Nat → Int} {cd : Nat → Nat → Int} {ra : Option Addr} {m rc : Nat} {rv : Nat → Int} {W W' : World} {p : Nat} (h : OuS w G S I J s ca n cc cb cd ra m rc rv W) (ho : Only p W W') (hp : w.heap.size + 1 < p)
    (hc : ∀ b off, ca = some ⟨b, off, none⟩ → 0 < n → b ≠ p) (hr : ∀ b off, ra = some ⟨b, off, none⟩ → 0 < m → b ≠ p) : OuS w G S I J s ca n cc cb cd ra m rc rv W' :=
  ⟨h.g.only ho (by omega), h.t.only ho (by omega), by
    rcases h.c with h0 | h0
    · exact .inl h0
    · rcases Nat.eq_zero_or_pos n with e | e
      · exact .inl e
      · exact RRow.only (.inr h0) ho fun b off e' => hc b off e' e, by
    rcases h.v with h0 | h0
    · exact .inl h0
    · rcases Nat.eq_zero_or_pos m with e | e
      · exact .inl e
      · exact RRow.only (.inr h0) ho fun b off e' => hr b off e' e, h.bel.trans (ho.below (by omega))⟩
end Go.Proofs.YtnbmmhoofilmfaaDoor

/- scan.found: the iterator over transactions. -/
namespace Go.Proofs.YtnbmmhoofilmfaaDoor
open Go.RowKit
set_option linter.unusedVariables false

/-- what the iterator wants of memory -/
structure FnN (q bs bl : Nat) (L : Nat → Nat → Int) (N : Nat) (s : Int) (W : World) : Prop where
  s : At W bs 34 #[.int .u32 s]
  l : At W bl 24 #[.slice (some ⟨q, 0, none⟩) N N]
  a : RArr W q 32 256 N (bkF L)
  t : Tab W
theorem FnN.below {q bs bl : Nat} {L : Nat → Nat → Int} {N : Nat} {s : Int} {W W' : World} (h : FnN q bs bl L N s W) (hb : Below W.heap.size W W') : FnN q bs bl L N s W' :=
  ⟨h.s.below hb h.s.lt, h.l.below hb h.l.lt, h.a.below hb, h.t.below hb (Nat.le_refl _)⟩
/-- the k-th transaction of a list, as a value in memory that is new -/
def TrV (B : Nat) (l : List Tr) (k : Nat) (cs : Array Value) (W : World) : Prop :=
  ∃ t ca cc ra rc, l[k]? = some t ∧ cs = tcells t.s ca t.n cc ra t.m rc ∧ RMine W B 101 257 (.slice ca t.n cc) t.n (cpF t.cb t.cd) ∧ RMine W B 3 1 (.slice ra t.m rc) t.m (inF t.rv)
end Go.Proofs.YtnbmmhoofilmfaaDoor
