/- Texts of this claim, merged by a program (a claim may have 60 files): What. -/
import Derived.Test.YtnbmmhoofilmfaaDoorK15
import Derived.Test.YtnbmmhoofilmfaaDoorK08
import Derived.Test.YtnbmmhoofilmfaaDoorK22
import Derived.Test.YtnbmmhoofilmfaaDoorK16
import Derived.Deep.QuietTactic
/- geo.What. -/
namespace Go.Proofs.YtnbmmhoofilmfaaDoor
open Go.RowKit
set_option linter.unusedVariables false
attribute [local go_sem] Oper.semAt_some

def outB (G S I J x : Int) : Bool := decide (0 ≤ x) && (decide (x < nBl G S I J) && (decide (x < 2) || decide (2 + J ≤ x)))
/-- parts that are over -/
def Past (g S J x : Int) (k : Nat) : Prop := (1 ≤ k → 1 ≤ x) ∧ (2 ≤ k → 2 ≤ x) ∧ (3 ≤ k → 2 + J ≤ x) ∧ ((k : Int) = 3 + 4 * g → 2 + J + g * S ≤ x)
theorem ptF_form {g : Nat} {S t J : Int} (h1 : 16 ≤ S) (h2 : S ≤ 512) (h3 : 0 ≤ t) (h4 : 3 + t ≤ S) (h5 : 40 ≤ J) (h6 : J ≤ 256) (hg : g ≤ 4) (k : Nat) (hk : k < 3 + 4 * g) :
    ∃ K Gg Fr Sz Pl : Int, ptF S t J k = pcells K Gg Fr Sz Pl ∧ (0 ≤ Fr ∧ 0 ≤ Sz ∧ Fr + Sz ≤ 2 + J + g * S ∧ 0 ≤ Pl ∧ Pl ≤ 512 ∧ Fr + Sz ≤ 4000 ∧ 0 ≤ K ∧ K ≤ 7) ∧
      (k = 0 ∧ Fr + Sz = 1 ∧ K = 1 ∨ k = 1 ∧ Fr + Sz = 2 ∧ K = 2 ∨ k = 2 ∧ Fr + Sz = 2 + J ∧ K = 3 ∨ 3 ≤ k ∧ 2 + J ≤ Fr + Sz ∧ 4 ≤ K ∧ K ≤ 7 ∧ (k + 1 = 3 + 4 * g → Fr + Sz = 2 + J + g * S)) := by
  have hgs0 : 0 ≤ (g : Int) * S := Int.mul_nonneg (by omega) (by omega)
  have hgs1 : (g : Int) * S ≤ 4 * 512 := Int.mul_le_mul (by omega) h2 (by omega) (by omega)
  by_cases c0 : k = 0
  · subst c0; exact ⟨1, 0, 0, 1, 0, rfl, by omega, by omega⟩
  by_cases c1 : k = 1
  · subst c1; exact ⟨2, 0, 1, 1, 0, rfl, by omega, by omega⟩
  by_cases c2 : k = 2
  · subst c2; exact ⟨3, 0, 2, J, 0, rfl, by omega, by omega⟩
  obtain ⟨γ, i, hi, rfl⟩ : ∃ γ i, i < 4 ∧ k = 3 + 4 * γ + i := ⟨(k - 3) / 4, (k - 3) % 4, by omega, by omega⟩
  have hγ : γ + 1 ≤ g := by omega
  have hm0 : 0 ≤ (γ : Int) * S := Int.mul_nonneg (by omega) (by omega)
  have hm1 : ((γ : Int) + 1) * S ≤ (g : Int) * S := Int.mul_le_mul_of_nonneg_right (by omega) (by omega)
  rw [Int.add_mul, Int.one_mul] at hm1
  have hlast : γ + 1 = g → (γ : Int) * S + S = (g : Int) * S := fun e => by rw [← e]; rw [show ((γ + 1 : Nat) : Int) = (γ : Int) + 1 by omega, Int.add_mul, Int.one_mul]
  rw [ptF_at S t J γ hi]
  generalize (γ : Int) * S = a at *
  generalize (g : Int) * S = b at *
  have : i = 0 ∨ i = 1 ∨ i = 2 ∨ i = 3 := by omega
  rcases this with rfl | rfl | rfl | rfl
  · exact ⟨4, γ, 2 + J + a, 1, 0, rfl, by omega, by omega⟩
  · exact ⟨5, γ, 2 + J + a + 1, 1, 1, rfl, by omega, by omega⟩
  · exact ⟨6, γ, 2 + J + a + 2, t, 2, rfl, by omega, by omega⟩
  · refine ⟨7, γ, 2 + J + a + 2 + t, S - 2 - t, 2 + t, rfl, by omega, .inr (.inr (.inr ⟨by omega, by omega, by omega, by omega, fun e => ?_⟩))⟩
    have := hlast (by omega)
    omega
theorem At.setCell {w : World} {g : Nat} {T : TypeId} {cs : Array Value} (h : At w g T cs) (i : Nat) (v : Value) : At (w.setCell ⟨g, i, none⟩ v) g T (cs.setIfInBounds i v) := by
  obtain ⟨hlt, hk⟩ := Array.getElem?_eq_some_iff.1 h
  show (w.heap.modify g _)[g]? = _
  rw [Array.getElem?_eq_getElem (by rw [Array.size_modify]; exact hlt), Array.getElem_modify_self, hk]
  rfl
structure WhS (w : World) (G S I J x K A B : Int) (W : World) : Prop where
  g : At W w.heap.size 23 (gcells G S I J)
  x : At W (w.heap.size + 1) 3 #[.int .i64 x]
  k : At W (w.heap.size + 2) 5 #[.int .u8 K]
  a : At W (w.heap.size + 3) 3 #[.int .i64 A]
  b : At W (w.heap.size + 4) 3 #[.int .i64 B]
  bel : Below w.heap.size w W
section
variable {w : World} {G S I J x K A B : Int} {W W' : World}
theorem WhS.below (h : WhS w G S I J x K A B W) (hb : Below W.heap.size W W') : WhS w G S I J x K A B W' := ⟨h.g.below hb h.g.lt, h.x.below hb h.x.lt, h.k.below hb h.k.lt, h.a.below hb h.a.lt, h.b.below hb h.b.lt, h.bel.trans (hb.mono h.bel.size)⟩
theorem WhS.sz (h : WhS w G S I J x K A B W) : w.heap.size + 5 ≤ W.heap.size := h.b.lt
theorem WhS.setK (h : WhS w G S I J x K A B W) (v : Int) : WhS w G S I J x v A B (W.setCell ⟨w.heap.size + 2, 0, none⟩ (.int .u8 v)) :=
  have ho := Only.setCell W ⟨w.heap.size + 2, 0, none⟩ (.int .u8 v)
  ⟨h.g.only ho (by simp), h.x.only ho (by simp), h.k.setCell 0 _, h.a.only ho (by simp), h.b.only ho (by simp), h.bel.trans (ho.below (by simp))⟩
theorem WhS.setA (h : WhS w G S I J x K A B W) (v : Int) : WhS w G S I J x K v B (W.setCell ⟨w.heap.size + 3, 0, none⟩ (.int .i64 v)) :=
  have ho := Only.setCell W ⟨w.heap.size + 3, 0, none⟩ (.int .i64 v)
  ⟨h.g.only ho (by simp), h.x.only ho (by simp), h.k.only ho (by simp), h.a.setCell 0 _, h.b.only ho (by simp), h.bel.trans (ho.below (by simp))⟩
theorem WhS.setB (h : WhS w G S I J x K A B W) (v : Int) : WhS w G S I J x K A v (W.setCell ⟨w.heap.size + 4, 0, none⟩ (.int .i64 v)) :=
  have ho := Only.setCell W ⟨w.heap.size + 4, 0, none⟩ (.int .i64 v)
  ⟨h.g.only ho (by simp), h.x.only ho (by simp), h.k.only ho (by simp), h.a.only ho (by simp), h.b.setCell 0 _, h.bel.trans (ho.below (by simp))⟩
theorem WhS.loc {B0 : Nat} (hB : w.heap.size + 5 ≤ B0) : LocalP B0 (WhS w G S I J x K A B) := fun A' C hs hg =>
  ⟨LocalP.at _ _ (by omega) A' C hs.g hg, LocalP.at _ _ (by omega) A' C hs.x hg, LocalP.at _ _ (by omega) A' C hs.k hg, LocalP.at _ _ (by omega) A' C hs.a hg, LocalP.at _ _ (by omega) A' C hs.b hg, LocalP.below w (by omega) (Nat.le_refl _) A' C hs.bel hg⟩
end
theorem parts_any (G S I J : Int) (w : World) : Calls Tryd.prog 64 #[gval G S I J] w fun e w' => e = .returned (.func (.func 121) #[] #[.pointer (some ⟨w.heap.size, 0, none⟩)]) ∧ At w' w.heap.size 23 (gcells G S I J) ∧ Below w.heap.size w w' := by
  have hA := Lib.hid (At.new w 23 (gcells G S I J))
  have hL : Hid (Below w.heap.size w (w.alloc (.cells (gcells G S I J) 23))) := (Below.refl _ _).alloc (Nat.le_refl _) _
  go_enter Tryd.func64, Tryd.ntmps64
  go_wp2_with fail
  go_ret
  exact ⟨rfl, hA.out, hL.out⟩
/-- while a round returns -/
structure WhC (w : World) (G S I J x K A B : Int) (p : Nat) (cs : Array Value) (B0 : Nat) (W0 : World) (t : Mv.St) (W : World) : Prop where
  s : WhS w G S I J x (if t.n ≥ 1 then K else 0) (if t.n ≥ 2 then A else 0) (if t.n ≥ 3 then B else 0) W
  p : At W p 141 cs
  keep : KeepsFrom B0 W0 W
section
variable {w : World} {G S I J x K A B : Int} {p : Nat} {cs : Array Value} {B0 : Nat} {W0 W : World}
theorem At.unlike {W : World} {p q : Nat} {T U : TypeId} {cs ds : Array Value} (h : At W p T cs) (k : At W q U ds) (hT : T ≠ U) : p ≠ q := by
  intro e
  subst e
  have := h.symm.trans k
  injection this with this
  injection this with _ h2 _
  exact hT h2
theorem WhC.s1 (h : WhC w G S I J x K A B p cs B0 W0 ⟨0, undef⟩ W) : WhC w G S I J x K A B p cs B0 W0 ⟨1, undef⟩ (W.setCell ⟨w.heap.size + 2, 0, none⟩ (.int .u8 K)) :=
  have ho := Only.setCell W ⟨w.heap.size + 2, 0, none⟩ (.int .u8 K)
  ⟨h.s.setK K, h.p.only ho (At.unlike h.p h.s.k (by decide)), h.keep.trans (ho.keeps (h.s.k.cell (i := 0) rfl))⟩
theorem WhC.s2 (h : WhC w G S I J x K A B p cs B0 W0 ⟨1, undef⟩ W) : WhC w G S I J x K A B p cs B0 W0 ⟨2, undef⟩ (W.setCell ⟨w.heap.size + 3, 0, none⟩ (.int .i64 A)) :=
  have ho := Only.setCell W ⟨w.heap.size + 3, 0, none⟩ (.int .i64 A)
  ⟨h.s.setA A, h.p.only ho (At.unlike h.p h.s.a (by decide)), h.keep.trans (ho.keeps (h.s.a.cell (i := 0) rfl))⟩
theorem WhC.s3 (h : WhC w G S I J x K A B p cs B0 W0 ⟨2, undef⟩ W) : WhC w G S I J x K A B p cs B0 W0 ⟨3, undef⟩ (W.setCell ⟨w.heap.size + 4, 0, none⟩ (.int .i64 B)) :=
  have ho := Only.setCell W ⟨w.heap.size + 4, 0, none⟩ (.int .i64 B)
  ⟨h.s.setB B, h.p.only ho (At.unlike h.p h.s.b (by decide)), h.keep.trans (ho.keeps (h.s.b.cell (i := 0) rfl))⟩
end
theorem info_i64 : (Tryd.prog.info? 3).map (·.size) = some 1 := by kernel_rfl

set_option maxRecDepth 100000 in
set_option maxHeartbeats 4000000 in
theorem what_any (G S I J x : Int) (hx0 : -9223372036854775808 ≤ x) (hx1 : x ≤ 9223372036854775807) (w : World) :
    Calls Tryd.prog 24 #[gval G S I J, .int .i64 x] w fun e w' => ∃ K A B : Int, e = .returned (.tuple #[.int .u8 K, .int .i64 A, .int .i64 B]) ∧ (K != 0 && K != 3) = outB G S I J x ∧ Below w.heap.size w w' := by
  refine (callsIn_wide (n := 5)).1 (callsIn_of_wp_marks Tryd.func24 rfl trivial ?_ rfl)
  refine wpIn_wide.2 ?_
  simp only [Tryd.ntmps24, List.size_toArray, List.length_cons, List.length_nil, Nat.reduceAdd, Nat.reduceSub, Array.replicate_succ, Array.replicate_zero, List.push_toArray, List.append_toArray, List.nil_append, List.cons_append]
  obtain ⟨W, hW⟩ : ∃ W, W = ((((w.alloc (.cells (gcells G S I J) 23)).alloc (.cells #[.int .i64 x] 3)).alloc (.cells #[.int .u8 0] 5)).alloc (.cells #[.int .i64 0] 3)).alloc (.cells #[.int .i64 0] 3) := ⟨_, rfl⟩
  have st0 : WhS w G S I J x 0 0 0 W := by
    rw [hW]
    refine ⟨((((At.new w _ _).alloc _).alloc _).alloc _).alloc _, ?_, ?_, ?_, ?_, ((((((Below.refl _ _).alloc (Nat.le_refl _) _).alloc (by simp) _).alloc (by simp; omega) _).alloc (by simp; omega) _).alloc (by simp; omega) _)⟩
    · have := (((At.new (w.alloc (.cells (gcells G S I J) 23)) 3 #[.int .i64 x]).alloc (.cells #[.int .u8 0] 5)).alloc (.cells #[.int .i64 0] 3)).alloc (.cells #[.int .i64 0] 3)
      simp only [World.size_alloc] at this; exact this
    · have := ((At.new ((w.alloc (.cells (gcells G S I J) 23)).alloc (.cells #[.int .i64 x] 3)) 5 #[.int .u8 0]).alloc (.cells #[.int .i64 0] 3)).alloc (.cells #[.int .i64 0] 3)
      simp only [World.size_alloc] at this; exact this
    · have := (At.new (((w.alloc (.cells (gcells G S I J) 23)).alloc (.cells #[.int .i64 x] 3)).alloc (.cells #[.int .u8 0] 5)) 3 #[.int .i64 0]).alloc (.cells #[.int .i64 0] 3)
      simp only [World.size_alloc] at this; exact this
    · have := At.new ((((w.alloc (.cells (gcells G S I J) 23)).alloc (.cells #[.int .i64 x] 3)).alloc (.cells #[.int .u8 0] 5)).alloc (.cells #[.int .i64 0] 3)) 3 #[.int .i64 0]
      simp only [World.size_alloc] at this; exact this
  have HW := Lib.hid hW
  have hg0 := st0.g
  rw [hW] at hg0
  have ST0 := Lib.hid st0
  clear hW st0
  go_wp2_with (first | (refine wp_loadAtG rfl 23 (.tmp 2) rfl _ _ _ rfl hg0 Tryd.underlying23 rfl (by kernel_rfl) ?_))
  rw [← HW.out]
  clear HW hg0
  refine (geoMay_any G S I J W).mono ?_
  rintro e w1 ⟨rfl, hb1⟩
  have ST1 := Lib.hid (ST0.out.below hb1)
  clear ST0 hb1
  have cx : w1.cell? ⟨w.heap.size + 1, 0, none⟩ = some (.int .i64 x) := ST1.out.x.cell (i := 0) rfl
  have c2 : w1.cell? ⟨w.heap.size + 1 + 1, 0, none⟩ = some (.int .u8 0) := ST1.out.k.cell (i := 0) rfl
  have c3 : w1.cell? ⟨w.heap.size + 1 + 1 + 1, 0, none⟩ = some (.int .i64 0) := ST1.out.a.cell (i := 0) rfl
  have c4 : w1.cell? ⟨w.heap.size + 1 + 1 + 1 + 1, 0, none⟩ = some (.int .i64 0) := ST1.out.b.cell (i := 0) rfl
  have f2 : w1.frozen? ⟨w.heap.size + 1 + 1, 0, none⟩ = false := soft_of_heap ST1.out.k 0
  have f3 : w1.frozen? ⟨w.heap.size + 1 + 1 + 1, 0, none⟩ = false := soft_of_heap ST1.out.a 0
  have f4 : w1.frozen? ⟨w.heap.size + 1 + 1 + 1 + 1, 0, none⟩ = false := soft_of_heap ST1.out.b 0
  cases hm : mayG G S I J with
  | false =>
    have HO : Hid (outB G S I J x = false) := by show _ = _; unfold outB nBl; rw [hm]; simp; omega
    clear hm
    go_wp2_with fail
    have hst := ((ST1.out.setK 0).setA 0).setB 0
    have r2 := hst.k.cell (i := 0) (v := .int .u8 0) rfl
    have r3 := hst.a.cell (i := 0) (v := .int .i64 0) rfl
    have r4 := hst.b.cell (i := 0) (v := .int .i64 0) rfl
    refine bodyPostM_early (v := .tuple #[.int .u8 0, .int .i64 0, .int .i64 0]) ?_ ⟨0, 0, 0, rfl, by rw [HO.out]; rfl, hst.bel⟩
    simp only [Nat.add_assoc, Nat.reduceAdd] at *
    simp [results, Tryd.f24, go_sem, r2, r3, r4]
  | true =>
  have HM := Lib.hid hm
  clear hm
  by_cases hneg : x < 0
  · have HO : Hid (outB G S I J x = false) := by show _ = _; unfold outB; simp; omega
    go_wp2_with fail
    have hst := ((ST1.out.setK 0).setA 0).setB 0
    have r2 := hst.k.cell (i := 0) (v := .int .u8 0) rfl
    have r3 := hst.a.cell (i := 0) (v := .int .i64 0) rfl
    have r4 := hst.b.cell (i := 0) (v := .int .i64 0) rfl
    refine bodyPostM_early (v := .tuple #[.int .u8 0, .int .i64 0, .int .i64 0]) ?_ ⟨0, 0, 0, rfl, by rw [HO.out]; rfl, hst.bel⟩
    simp only [Nat.add_assoc, Nat.reduceAdd] at *
    simp [results, Tryd.f24, go_sem, r2, r3, r4]
  have hg1 := ST1.out.g
  clear c2 c3 c4 f2 f3 f4
  go_wp2_with (first | (refine wp_loadAtG rfl 23 (.tmp 2) rfl _ _ _ rfl hg1 Tryd.underlying23 rfl (by kernel_rfl) ?_))
  refine (parts_any G S I J w1).mono ?_
  rintro e w2 ⟨rfl, hA2, hb2⟩
  have ST2 := Lib.hid (ST1.out.below hb2)
  have hB1 := ST1.out.sz
  have hB2 := hA2.lt
  clear ST1 hg1 cx hb2
  generalize w1.heap.size = B at *
  clear w1
  obtain ⟨h1, h2, h3, h4, h5, h6, h7, h8, h9, h10, h11⟩ := (mayG_iff G S I J).1 HM.out
  obtain ⟨g, rfl⟩ : ∃ g : Nat, G = (g : Int) := ⟨G.toNat, by omega⟩
  have hnb : nBl (g : Int) S I J = 2 + J + (g : Int) * S := by unfold nBl; rw [HM.out]; rfl
  go_wp2_with fail
  apply wp_rangeIx4 (gf := 121) (lb := #[.pointer (some ⟨B, 0, none⟩)]) rfl (enters_of Tryd.func121 (by kernel_rfl) rfl)
    (parts_iter 4 (by decide) B g S I J HM.out) (fun k => rfl) 141 (fun k => ptF S (I / 4) J k)
    (fun k W => Hid (Past g S J x k) ∧ WhS w g S I J x 0 0 0 W)
    (fun c k W => c = .ret ∧ ∃ K A B, Hid ((K != 0 && K != 3) = outB g S I J x) ∧ WhS w g S I J x K A B W)
    (fun k => (LocalP.pure _ _).and (WhS.loc (by omega)))
    (fun c k => (LocalP.pure _ _).and (LocalP.ex fun K => LocalP.ex fun A => LocalP.ex fun B => (LocalP.pure _ _).and (WhS.loc (by omega))))
    (fun k => LocalP.at _ _ hB2)
    ⟨⟨fun h => by omega, fun h => by omega, fun h => by omega, fun h => by omega⟩, ST2.out⟩ hA2
  case assign =>
    intro l k W K hk hK
    dsimp only
    have HF := Lib.hid (ptF_form (g := g) (t := I / 4) h3 h4 (by omega) h10 h8 h9 (by omega) k (by rwa [Int.toNat_natCast] at hk))
    have hcsz : (ptF S (I / 4) J k).size = 5 := by obtain ⟨K', Gg, Fr, Sz, Pl, he, _⟩ := HF.out; rw [he]; rfl
    have hc1 : (ptF S (I / 4) J k).all (·.oneCell') = true := by obtain ⟨K', Gg, Fr, Sz, Pl, he, _⟩ := HF.out; rw [he]; exact all_p _ _ _ _ _
    have hinf : (Tryd.prog.info? 141).map (·.size) = some (ptF S (I / 4) J k).size := by rw [hcsz]; exact info_part
    have hA := At.new W 141 (pcells 0 0 0 0 0)
    have hal := zero_part
    have hs0 : (pcells 0 0 0 0 0).size = (ptF S (I / 4) J k).size := by rw [hcsz]; rfl
    clear hcsz hk
    gi_wp2_with (first | (refine wpIn_storeAt rfl 141 (.tmp 7) (.tmp 17) rfl W.heap.size (ptF S (I / 4) J k) (pcells 0 0 0 0 0) rfl rfl hA hinf hs0 hc1 ?_))
    intro w4 hA4 ho4
    have hb := storedP ho4
    clear ho4 hA
    obtain ⟨p, hp⟩ : ∃ p, p = W.heap.size := ⟨_, rfl⟩
    rw [← hp] at hA4 ⊢
    gi_wp2
    exact hK p w4 hp hb hA4
  case body =>
    rintro l k p W hk ⟨HP, st⟩ hn hp
    rw [Int.toNat_natCast] at hk
    obtain ⟨K, Gg, Fr, Sz, Pl, he, ⟨b1, b2, b3, b4, b5, b6, b7, b8⟩, hcase⟩ := ptF_form (g := g) (t := I / 4) h3 h4 (by omega) h10 h8 h9 (by omega) k hk
    rw [he] at hp
    have HC := Lib.hid hcase
    have cx : W.cell? ⟨w.heap.size + 1, 0, none⟩ = some (.int .i64 x) := st.x.cell (i := 0) rfl
    have p2 : W.cell? ⟨p, 2, none⟩ = some (.int .i64 Fr) := hp.cell (i := 2) rfl
    have p3 : W.cell? ⟨p, 3, none⟩ = some (.int .i64 Sz) := hp.cell (i := 3) rfl
    have e0 : IntKind.i64.wrap (Fr + Sz) = Fr + Sz := IntWalk.i64_in _ (by omega)
    have ST := Lib.hid st
    have HN := Lib.hid hn
    have HPP := Lib.hid hp
    clear hcase st hn hp
    by_cases hlt : x < Fr + Sz
    · have HO : Hid ((K != 0 && K != 3) = outB g S I J x) := by
        show _ = _
        obtain ⟨q1, q2, q3, q4⟩ := HP.out
        unfold outB
        rw [hnb]
        rcases HC.out with ⟨c, c', rfl⟩ | ⟨c, c', rfl⟩ | ⟨c, c', rfl⟩ | ⟨c, c', c2, c3, c4⟩
        · simp; omega
        · simp; omega
        · simp; omega
        · have := q3 (by omega)
          rw [show (K != 0 && K != 3) = true by simp; omega]
          simp; omega
      have e1 : IntKind.i64.wrap (Pl + x) = Pl + x := IntWalk.i64_in _ (by omega)
      have e2 : IntKind.i64.wrap (Pl + x - Fr) = Pl + x - Fr := IntWalk.i64_in _ (by omega)
      gi_wp2
      refine Mv.wpIn_region_mc (WhC w g S I J x K Gg (Pl + x - Fr) p (pcells K Gg Fr Sz Pl) w2.heap.size W) ⟨0, undef⟩ (by kernel_rfl) (by kernel_rfl) (by kernel_rfl) (by kernel_rfl) ?_ ?_
      · exact ⟨⟨ST.out.g, ST.out.x, ST.out.k, ST.out.a, ST.out.b, ST.out.bel.drew⟩, HPP.out, drewN_keeps W 1⟩
      intro hne
      have hp0 : ∀ y : InW (fun W' => ∃ s, WhC w g S I J x K Gg (Pl + x - Fr) p (pcells K Gg Fr Sz Pl) w2.heap.size W s W'), y.W.cell? ⟨p, 0, none⟩ = some (.int .u8 K) := fun y => by obtain ⟨s, h⟩ := y.h; exact h.p.cell (i := 0) rfl
      have hp1 : ∀ y : InW (fun W' => ∃ s, WhC w g S I J x K Gg (Pl + x - Fr) p (pcells K Gg Fr Sz Pl) w2.heap.size W s W'), y.W.cell? ⟨p, 1, none⟩ = some (.int .i64 Gg) := fun y => by obtain ⟨s, h⟩ := y.h; exact h.p.cell (i := 1) rfl
      have hp2 : ∀ y : InW (fun W' => ∃ s, WhC w g S I J x K Gg (Pl + x - Fr) p (pcells K Gg Fr Sz Pl) w2.heap.size W s W'), y.W.cell? ⟨p, 2, none⟩ = some (.int .i64 Fr) := fun y => by obtain ⟨s, h⟩ := y.h; exact h.p.cell (i := 2) rfl
      have hp4 : ∀ y : InW (fun W' => ∃ s, WhC w g S I J x K Gg (Pl + x - Fr) p (pcells K Gg Fr Sz Pl) w2.heap.size W s W'), y.W.cell? ⟨p, 4, none⟩ = some (.int .i64 Pl) := fun y => by obtain ⟨s, h⟩ := y.h; exact h.p.cell (i := 4) rfl
      have hpx : ∀ y : InW (fun W' => ∃ s, WhC w g S I J x K Gg (Pl + x - Fr) p (pcells K Gg Fr Sz Pl) w2.heap.size W s W'), y.W.cell? ⟨w.heap.size + 1, 0, none⟩ = some (.int .i64 x) := fun y => by obtain ⟨s, h⟩ := y.h; exact h.s.x.cell (i := 0) rfl
      (refine Mv.lin_take 11 (by kernel_rfl) ?_; simp only [List.take_succ_cons, List.take_zero, List.drop_succ_cons, List.drop_zero])
      first | go_big_quiet_skip | (go_big_quiet_want; go_big_quiet_op; go_big_quiet_on)
      first | go_big_quiet_skip | (go_big_quiet_want; go_big_quiet_op; go_big_quiet_on)
      first | go_big_quiet_skip | (go_big_quiet_want; go_big_quiet_op; go_big_quiet_on)
      first | go_big_quiet_skip | (go_big_quiet_want; go_big_quiet_op; go_big_quiet_on)
      first | go_big_quiet_skip | (go_big_quiet_want; go_big_quiet_op; go_big_quiet_on)
      first | go_big_quiet_skip | (go_big_quiet_want; go_big_quiet_op; go_big_quiet_on)
      first | go_big_quiet_skip | (go_big_quiet_want; go_big_quiet_op; go_big_quiet_on)
      first | go_big_quiet_skip | (go_big_quiet_want; go_big_quiet_op; go_big_quiet_on)
      first | go_big_quiet_skip | (go_big_quiet_want; go_big_quiet_op; go_big_quiet_on)
      first | go_big_quiet_skip | (go_big_quiet_want; go_big_quiet_op; go_big_quiet_on)
      first | go_big_quiet_skip | (go_big_quiet_want; go_big_quiet_op; go_big_quiet_on)
      refine wpQuiet_nil ?_
      refine Mv.lin_store1 rfl 5 (.tmp 4) (.tmp 26) rfl (w.heap.size + 1 + 1) 0 (.int .u8 K) rfl rfl info_u8 rfl ⟨1, undef⟩ (fun W' hW => ⟨⟨_, hW.s.k.cell (i := 0) rfl⟩, soft_of_heap hW.s.k 0, hW.s1⟩) ?_
      refine Mv.frame (by simp only [Act.put]; exact rfl) ?_
      refine Mv.lin_store1 rfl 3 (.tmp 5) (.tmp 28) rfl (w.heap.size + 1 + 1 + 1) 0 (.int .i64 Gg) rfl rfl info_i64 rfl ⟨2, undef⟩ (fun W' hW => ⟨⟨_, hW.s.a.cell (i := 0) rfl⟩, soft_of_heap hW.s.a 0, hW.s2⟩) ?_
      refine Mv.frame (by simp only [Act.put]; exact rfl) ?_
      refine Mv.lin_store1 rfl 3 (.tmp 6) (.tmp 35) rfl (w.heap.size + 1 + 1 + 1 + 1) 0 (.int .i64 (Pl + x - Fr)) rfl rfl info_i64 rfl ⟨3, undef⟩ (fun W' hW => ⟨⟨_, hW.s.b.cell (i := 0) rfl⟩, soft_of_heap hW.s.b 0, hW.s3⟩) ?_
      refine Mv.frame (by simp only [Act.put]; exact rfl) ?_
      refine Mv.wpLin_nil ?_
      intro W5 h5
      clear hne hp0 hp1 hp2 hp4 hpx
      gi_wp2
      exact ⟨h5.keep, rfl, K, Gg, _, HO, h5.s⟩
    · have hpast : Hid (Past g S J x (k + 1)) := by
        obtain ⟨q1, q2, q3, q4⟩ := HP.out
        refine ⟨fun _ => ?_, fun _ => ?_, fun _ => ?_, fun _ => ?_⟩ <;> (rcases HC.out with ⟨c, c', c2⟩ | ⟨c, c', c2⟩ | ⟨c, c', c2⟩ | ⟨c, c', c2, c3, c4⟩ <;> first | omega | (have := c4 (by omega); omega))
      gi_wp2
      exact ⟨KeepsFrom.refl _ _, ⟨hpast, ST.out⟩, HN.out⟩
  case done =>
    rintro D W hD ⟨HP, st⟩ hK
    have HO : Hid (outB g S I J x = false) := by
      show _ = _
      obtain ⟨q1, q2, q3, q4⟩ := HP.out
      have := q4 (by rw [Int.toNat_natCast]; omega)
      unfold outB
      rw [hnb]
      simp; omega
    have c2 : W.cell? ⟨w.heap.size + 1 + 1, 0, none⟩ = some (.int .u8 0) := st.k.cell (i := 0) rfl
    have c3 : W.cell? ⟨w.heap.size + 1 + 1 + 1, 0, none⟩ = some (.int .i64 0) := st.a.cell (i := 0) rfl
    have c4 : W.cell? ⟨w.heap.size + 1 + 1 + 1 + 1, 0, none⟩ = some (.int .i64 0) := st.b.cell (i := 0) rfl
    have f2 : W.frozen? ⟨w.heap.size + 1 + 1, 0, none⟩ = false := soft_of_heap st.k 0
    have f3 : W.frozen? ⟨w.heap.size + 1 + 1 + 1, 0, none⟩ = false := soft_of_heap st.a 0
    have f4 : W.frozen? ⟨w.heap.size + 1 + 1 + 1 + 1, 0, none⟩ = false := soft_of_heap st.b 0
    have ST := Lib.hid st
    have HK := Lib.hid hK
    clear st hK
    go_wp2_with fail
    have hst := ((ST.out.setK 0).setA 0).setB 0
    have hKD := ((((Only.setCell _ _ _).block D (by simp; omega)).trans (((Only.setCell _ _ _).block D (by simp; omega)).trans ((Only.setCell W ⟨w.heap.size + 2, 0, none⟩ (.int .u8 0)).block D (by simp; omega)))).trans HK.out : ((((W.setCell ⟨w.heap.size + 2, 0, none⟩ (.int .u8 0)).setCell ⟨w.heap.size + 3, 0, none⟩ (.int .i64 0)).setCell ⟨w.heap.size + 4, 0, none⟩ (.int .i64 0))).heap[D]? = some (.deferred (some [])))
    have r2 := cell_putObj (D := D) (o' := .deferred none) hKD rfl (hst.k.cell (i := 0) (v := .int .u8 0) rfl)
    have r3 := cell_putObj (D := D) (o' := .deferred none) hKD rfl (hst.a.cell (i := 0) (v := .int .i64 0) rfl)
    have r4 := cell_putObj (D := D) (o' := .deferred none) hKD rfl (hst.b.cell (i := 0) (v := .int .i64 0) rfl)
    refine bodyPostM_done (v := .tuple #[.int .u8 0, .int .i64 0, .int .i64 0]) (D := D) hKD ?_ ⟨0, 0, 0, rfl, by rw [HO.out]; rfl, below_putObj hst.bel _ (Nat.le_refl _) (by omega)⟩
    simp only [Nat.add_assoc, Nat.reduceAdd] at *
    simp [results, Tryd.f24, go_sem, r2, r3, r4]
  case stop =>
    rintro D c k W hD hk ⟨rfl, K, A, B', HO, st⟩ hK
    have ST := Lib.hid st
    have HK := Lib.hid hK
    clear st hK
    go_wp2_with fail
    have r2 := cell_putObj (D := D) (o' := .deferred none) HK.out rfl (ST.out.k.cell (i := 0) (v := .int .u8 K) rfl)
    have r3 := cell_putObj (D := D) (o' := .deferred none) HK.out rfl (ST.out.a.cell (i := 0) (v := .int .i64 A) rfl)
    have r4 := cell_putObj (D := D) (o' := .deferred none) HK.out rfl (ST.out.b.cell (i := 0) (v := .int .i64 B') rfl)
    refine bodyPostM_done (v := .tuple #[.int .u8 K, .int .i64 A, .int .i64 B']) (D := D) HK.out ?_ ⟨K, A, B', rfl, HO.out, below_putObj ST.out.bel _ (Nat.le_refl _) (by omega)⟩
    simp only [Nat.add_assoc, Nat.reduceAdd] at *
    simp [results, Tryd.f24, go_sem, r2, r3, r4]
end Go.Proofs.YtnbmmhoofilmfaaDoor
