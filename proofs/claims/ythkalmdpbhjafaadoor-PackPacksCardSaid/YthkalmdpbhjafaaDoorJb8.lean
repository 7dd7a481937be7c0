/- The contract of jblock.readRows over tags, and of ReadDesc. -/
import Derived.Test.YthkalmdpbhjafaaDoorSame9
namespace Go.Proofs.YthkalmdpbhjafaaDoor
open Go.RowKit
set_option linter.unusedVariables false

def descT (z : Nat → Int) : Nat → Int := fun i => wd z (4 + 2 * i)
def descE (z : Nat → Int) : Nat → Bool := fun i => wd z (5 + 2 * i) == 1
/-- the first k rows are right -/
def descB (z : Nat → Int) : Nat → Bool
  | 0 => true
  | k + 1 => descB z k && (decide (wd z (5 + 2 * k) ≤ 1) && (k == 0 || decide (descT z (k - 1) < descT z k)))
theorem descB_succ (z : Nat → Int) (k : Nat) : descB z (k + 1) = (descB z k && (decide (wd z (5 + 2 * k) ≤ 1) && (k == 0 || decide (descT z (k - 1) < descT z k)))) := rfl
theorem descB_iff (z : Nat → Int) (n : Nat) : descB z n = true ↔ (∀ i, i < n → wd z (5 + 2 * i) ≤ 1) ∧ riseB (descT z) n = true := by
  induction n with
  | zero => simp [descB, riseB]
  | succ n ih =>
    rw [descB_succ, Bool.and_eq_true, ih, Bool.and_eq_true, decide_eq_true_eq, riseB_succ, Bool.and_eq_true]
    constructor
    · rintro ⟨⟨h1, h2⟩, h3, h4⟩
      refine ⟨fun i hi => ?_, h2, h4⟩
      by_cases e : i = n
      · subst e; exact h3
      · exact h1 i (by omega)
    · rintro ⟨h1, h2, h3⟩
      exact ⟨⟨fun i hi => h1 i (by omega), h2⟩, h1 n (by omega), h3⟩
theorem descB_no {z : Nat → Int} {n k : Nat} (hk : k < n) (h : descB z (k + 1) = false) : descB z n = false := by
  cases e : descB z n with
  | false => rfl
  | true =>
    obtain ⟨h1, h2⟩ := (descB_iff z n).1 e
    have : descB z (k + 1) = true := (descB_iff z (k + 1)).2 ⟨fun i hi => h1 i (by omega), (riseB_iff _ _).2 fun i h0 hi => (riseB_iff _ _).1 h2 i h0 (by omega)⟩
    rw [this] at h; cases h
def descRd (z : Nat → Int) : Bool := kindOf z == 1 && (decide (1 ≤ wd z 3 ∧ wd z 3 ≤ 30) && (descB z (rowsN z) && allZ (fun j => wd z (4 + 2 * rowsN z + j)) (60 - 2 * rowsN z)))
def DescRead (w : World) (z : Nat → Int) (e : Ending) (w' : World) : Prop :=
  Below w.heap.size w w' ∧ (descRd z = false ∧ e = .returned (.tuple #[.int .u32 0, .slice none 0 0, .int .i64 90]) ∨
    descRd z = true ∧ ∃ g cap, e = .returned (.tuple #[.int .u32 (wd z 2), .slice (some ⟨g, 0, none⟩) (rowsN z) cap, .int .i64 0]) ∧ w'.ownsRow w.heap.size 67 2 (.slice (some ⟨g, 0, none⟩) (rowsN z) cap) (rowsN z) (Tc (descT z) (descE z) (rowsN z)))
theorem ddNo {w w' : World} {z : Nat → Int} (h : descRd z = false) (hb : Below w.heap.size w w') : DescRead w z (.returned (.tuple #[.int .u32 0, .slice none 0 0, .int .i64 90])) w' := ⟨hb, .inl ⟨h, rfl⟩⟩
theorem results_tag {fn : Func} {p u : Tmp} (h : fn.results = #[.cell p 67, .tmp u]) (tmps : Array Value) (w : World) (g : Nat) (b : Int) (x : Bool)
    (hp : tmps.getD p undef = .pointer (some ⟨g, 0, none⟩)) (hg : At w g 67 #[.int .u32 b, .bool x]) : (results fn tmps).run Tryd.prog w = .ok (.tuple #[.agg #[.int .u32 b, .bool x], tmps.getD u undef]) w :=
  results_row_tmp h tmps w g 67 _ (0, 0) _ hp hg Tryd.underlying67 rfl (info_tag _ _)
theorem one_tag (b : Int) (x : Bool) : (#[Value.int .u32 b, .bool x] : Array Value).all (·.oneCell') = true := by simp [Value.oneCell']

set_option maxRecDepth 100000 in
theorem tagGet_any (g : Nat) {T : TypeId} (z : Nat → Int) (hz : Byt z) (k o cap : Nat) (ho : o = 4 * (4 + 2 * k)) (hk : k < 30) (w : World) (hB : Blk w g T 256 z) :
    Calls Tryd.prog 65 #[.slice (some ⟨g, o, none⟩) 8 cap] w fun e w' => e = .returned (.tuple #[.agg #[.int .u32 (descT z k), .bool (descE z k)], .bool (decide (wd z (5 + 2 * k) ≤ 1))]) ∧ Below w.heap.size w w' := by
  have hB0 : Blk (w.alloc (.cells #[.int .u32 0, .bool false] 67)) g T 256 z := hB.alloc _
  have hs : Seg (w.alloc (.cells #[.int .u32 0, .bool false] 67)) g o 8 (fun j => z (o + j)) := by have := hB0.seg.sub o 8 (by omega); rwa [Nat.zero_add] at this
  have hg0 := get32_yes g o 8 cap 0 _ _ (by omega) (by decide) (by decide) hs (fun j => hz _)
  have hg4 := get32_yes g o 8 cap 4 _ _ (by omega) (by decide) (by decide) hs (fun j => hz _)
  rw [show g32 (fun j => z (o + j)) (0 : Int).toNat = descT z k by unfold descT wd g32; subst ho; rfl] at hg0
  rw [show g32 (fun j => z (o + j)) (4 : Int).toNat = wd z (5 + 2 * k) by unfold wd g32; subst ho; rw [show 4 * (5 + 2 * k) = 4 * (4 + 2 * k) + 4 by omega]; rfl] at hg4
  have H0 := Lib.hid hg0
  have H4 := Lib.hid hg4
  have hA : Hid (At (w.alloc (.cells #[.int .u32 0, .bool false] 67)) w.heap.size 67 #[.int .u32 0, .bool false]) := At.new _ _ _
  have hL : Hid (Below w.heap.size w (w.alloc (.cells #[.int .u32 0, .bool false] 67))) := (Below.refl _ _).alloc (Nat.le_refl _) _
  have hbd := wd_wds hz (5 + 2 * k)
  have he : (descE z k) = (wd z (5 + 2 * k) == 1) := rfl
  have HE := Lib.hid he
  clear hg0 hg4 hs ho hB hB0 he
  have hal := zero_tag
  generalize descT z k = d at *
  generalize descE z k = x at *
  generalize wd z (5 + 2 * k) = v at *
  go_enter Tryd.func65, Tryd.ntmps65
  go_wp2_with fail
  refine H0.out.mono ?_
  rintro e w1 ⟨rfl, hw1⟩
  rw [← hw1]
  clear hw1 H0
  go_wp2_with fail
  refine (H4.out.mono (R' := fun e w' => e = .returned (.tuple #[.int .u32 v, .bool true]) ∧ At w' w.heap.size 67 #[.int .u32 0, .bool false] ∧ Below w.heap.size w w') (fun e w' h => ⟨h.1, h.2 ▸ hA.out, h.2 ▸ hL.out⟩)).mono ?_
  rintro e w2 ⟨rfl, hA2, hL2⟩
  clear H4 hA hL
  have HX : Hid ((v == 1) = x) := HE.out.symm
  obtain ⟨hv0, hv1⟩ := hbd
  cases hx : (v == 1) with
  | true =>
    have HV : Hid (decide (v ≤ 1) = true) := by show _ = _; have := beq_iff_eq.1 hx; simp [this]
    have HXX : Hid (x = true) := HX.out.symm.trans hx
    have d := HV.out
    go_wp2_with (first | (refine wp_storeAt rfl 67 (.tmp 2) (.tmp 21) rfl w.heap.size _ _ rfl rfl hA2 (info_tag _ _) rfl (one_tag _ _) ?_))
    intro w3 hA3 ho3
    go_wp2_with fail
    refine bodyPost_ret (results_tag rfl _ _ w.heap.size _ _ rfl hA3) rfl ⟨?_, hL2.trans (ho3.below (Nat.le_refl _))⟩
    rw [HXX.out]
    first | rfl | (simp [HV.out]) | (rw [HV.out]; rfl)
  | false =>
    have HXX : Hid (x = false) := HX.out.symm.trans hx
    go_wp2_with (first | (refine wp_storeAt rfl 67 (.tmp 2) (.tmp 21) rfl w.heap.size _ _ rfl rfl hA2 (info_tag _ _) rfl (one_tag _ _) ?_))
    intro w3 hA3 ho3
    go_wp2_with fail
    refine bodyPost_ret (results_tag rfl _ _ w.heap.size _ _ rfl hA3) rfl ⟨?_, hL2.trans (ho3.below (Nat.le_refl _))⟩
    rw [HXX.out]
    rfl
end Go.Proofs.YthkalmdpbhjafaaDoor
