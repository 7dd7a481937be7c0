/- Texts of this claim, merged by a program (a claim may have 60 files): Same9, Jb8, Jb9. -/
import Derived.Test.YtopakpmepioomaaDoorK38
/- Contract of quernref09.SameNumbers; rows of tags of one's own. -/
namespace Go.Proofs.YtopakpmepioomaaDoor
open Go.RowKit
set_option linter.unusedVariables false

/-- the cells of k tags -/
def Tc (tb : Nat → Int) (te : Nat → Bool) : Nat → List Value
  | 0 => []
  | k + 1 => Tc tb te k ++ [.int .u32 (tb k), .bool (te k)]
theorem Tc_length (tb : Nat → Int) (te : Nat → Bool) (k : Nat) : (Tc tb te k).length = k * 2 := by
  induction k with
  | zero => rfl
  | succ k ih => simp [Tc, ih]; omega
theorem Tc_get (tb : Nat → Int) (te : Nat → Bool) (k i : Nat) (hi : i < k) : (Tc tb te k)[i * 2]? = some (.int .u32 (tb i)) ∧ (Tc tb te k)[i * 2 + 1]? = some (.bool (te i)) := by
  induction k with
  | zero => omega
  | succ k ih =>
    unfold Tc
    by_cases h : i < k
    · obtain ⟨h1, h2⟩ := ih h
      rw [List.getElem?_append_left (by rw [Tc_length]; omega), List.getElem?_append_left (by rw [Tc_length]; omega)]
      exact ⟨h1, h2⟩
    · obtain rfl : i = k := by omega
      rw [List.getElem?_append_right (by rw [Tc_length]; omega), List.getElem?_append_right (by rw [Tc_length]; omega), Tc_length, Nat.sub_self, show i * 2 + 1 - i * 2 = 1 by omega]
      exact ⟨rfl, rfl⟩
theorem own_tags {W : World} {base k : Nat} {e : TypeId} {v : Value} {tb : Nat → Int} {te : Nat → Bool} (h : W.ownsRow base e 2 v k (Tc tb te k)) : ∃ a cap, v = .slice a k cap ∧ TagRow W a k tb te ∧ (∀ x, a = some x → base ≤ x.block ∧ x.block < W.heap.size) ∧ k ≤ cap := by
  rcases h.2 with ⟨rfl, rfl⟩ | ⟨g, cap, cur, rfl, hb, hg, hn, hc, hs, ht⟩
  · exact ⟨none, 0, rfl, .inl rfl, (fun x hx => by cases hx), Nat.le_refl _⟩
  · refine ⟨_, cap, rfl, .inr ⟨g, 0, rfl, fun i hi => ?_⟩, (fun x hx => by cases hx; exact ⟨hb, (Array.getElem?_eq_some_iff.1 hg).1⟩), hn⟩
    obtain ⟨h1, h2⟩ := Tc_get tb te k i hi
    rw [← ht, List.getElem?_take_of_lt (by omega)] at h1 h2
    rw [Nat.zero_add]
    exact ⟨cell_of_heap hg (by simpa using h1), cell_of_heap hg (by simpa using h2)⟩
theorem own_nums {W : World} {base k g cap : Nat} {e : TypeId} {m : Nat → Int} (h : W.ownsRow base e 1 (.slice (some ⟨g, 0, none⟩) k cap) k (Ks .u32 k m)) : NumRow W (some ⟨g, 0, none⟩) k m :=
  .inr ⟨g, 0, rfl, fun i hi => by rw [Nat.zero_add]; exact own_cell h i hi⟩
theorem NumRow.grown {w w' : World} {a : Option Addr} {n : Nat} {m : Nat → Int} {row : Option Nat} (h : NumRow w a n m) (hg : w.grownBy w' row) (hr : ∀ x, a = some x → 0 < n → some x.block ≠ row) : NumRow w' a n m := by
  rcases h with h | ⟨b, off, rfl, h⟩
  · exact .inl h
  · by_cases h0 : n = 0
    · exact .inl h0
    · refine .inr ⟨b, off, rfl, fun i hi => ?_⟩
      have hh := h i hi
      have hbl : w'.heap[b]? = w.heap[b]? := hg.block b (World.block_lt_of_cell? w _ hh) (hr _ rfl (by omega))
      exact (show w'.cell? ⟨b, off + i, none⟩ = w.cell? ⟨b, off + i, none⟩ from World.cell?_of_block (w := w) hbl).trans hh
theorem NumRow.block {w : World} {a : Option Addr} {n : Nat} {m : Nat → Int} (h : NumRow w a n m) (hn : 0 < n) : ∀ x, a = some x → x.block < w.heap.size := by
  rcases h with h | ⟨b, off, rfl, h⟩
  · omega
  · intro x hx; cases hx; exact h.lt hn
/-- a revoke block that was written is read -/
theorem revoke_law (s : Int) (n : Nat) (m : Nat → Int) (hm : Wds m) (h : revOk s n m = true) : revRd (revZ s n m) = true ∧ wd (revZ s n m) 2 = s ∧ rowsN (revZ s n m) = n ∧ (∀ i, i < n → revM (revZ s n m) i = m i) ∧ kindOf (revZ s n m) = 3 ∧ seqOf (revZ s n m) = s := by
  have h' := h
  unfold revOk at h'
  rw [Bool.and_eq_true, Bool.and_eq_true, decide_eq_true_eq] at h'
  obtain ⟨hs, hn, hr⟩ := h'
  have hsb : 1 ≤ s ∧ s ≤ 2147483648 := of_decide_eq_true hs
  have hz : revZ s n m = wz (jw 3 s n (numR m n)) := by unfold revZ; rw [h]; rfl
  have hW : Wds (jw 3 s n (numR m n)) := jw_wds (by decide) (by omega) (by omega) (fun k => by unfold numR; split; exact hm _; decide)
  have e : ∀ k, wd (revZ s n m) k = jw 3 s n (numR m n) k := fun k => by rw [hz]; exact wd_wz hW k
  have e0 : wd (revZ s n m) 0 = 1280199249 := e 0
  have e1 : wd (revZ s n m) 1 = 3 := e 1
  have e2 : wd (revZ s n m) 2 = s := e 2
  have e3 : wd (revZ s n m) 3 = n := e 3
  have hk : kindB (revZ s n m) = true := by unfold kindB; rw [e0, e1, e2, hs]; rfl
  have hk3 : kindOf (revZ s n m) = 3 := by unfold kindOf; rw [hk, e1]; rfl
  have hq : seqOf (revZ s n m) = s := by unfold seqOf; rw [hk, e2]; rfl
  have hN : rowsN (revZ s n m) = n := by unfold rowsN; rw [e3]; omega
  have hM : ∀ i, i < n → revM (revZ s n m) i = m i := fun i hi => by
    unfold revM
    rw [e]
    unfold jw numR
    rw [if_neg (by omega), if_neg (by omega), if_neg (by omega), if_neg (by omega), if_pos (by omega), show 4 + i - 4 = i by omega]
  refine ⟨?_, e2, hN, hM, hk3, hq⟩
  unfold revRd
  rw [hk3, e3, hN, riseB_congr hM, hr, decide_eq_true (show 1 ≤ (n : Int) ∧ (n : Int) ≤ 60 by omega)]
  simp only [beq_self_eq_true, Bool.true_and]
  rw [allZ_iff]
  intro j hj
  rw [e]
  unfold jw numR
  rw [if_neg (by omega), if_neg (by omega), if_neg (by omega), if_neg (by omega), if_neg (by omega)]
end Go.Proofs.YtopakpmepioomaaDoor

/- The contract of jblock.readRows over tags, and of ReadDesc. -/
namespace Go.Proofs.YtopakpmepioomaaDoor
open Go.RowKit
set_option linter.unusedVariables false

def descT (z : Nat → Int) : Nat → Int := fun i => wd z (4 + 2 * i)
def jdE (z : Nat → Int) : Nat → Bool := fun i => wd z (5 + 2 * i) == 1
/-- the first k rows are right -/
def descB (z : Nat → Int) : Nat → Bool
  | 0 => true
  | k + 1 => descB z k && (decide (wd z (5 + 2 * k) ≤ 1) && (k == 0 || decide (descT z (k - 1) < descT z k)))
theorem descB_succ (z : Nat → Int) (k : Nat) : descB z (k + 1) = (descB z k && (decide (wd z (5 + 2 * k) ≤ 1) && (k == 0 || decide (descT z (k - 1) < descT z k)))) := rfl
theorem descB_iff (z : Nat → Int) (n : Nat) : descB z n = true ↔ (∀ i, i < n → wd z (5 + 2 * i) ≤ 1) ∧ riseB (descT z) n = true := by
  induction n with
  | zero => simp [descB, riseB]
  | succ n ih =>
    rw [descB_succ, Bool.and_eq_true, ih, Bool.and_eq_true, decide_eq_true_eq, riseB_succ, Bool.and_eq_true]
    constructor
    · rintro ⟨⟨h1, h2⟩, h3, h4⟩
      refine ⟨fun i hi => ?_, h2, h4⟩
      by_cases e : i = n
      · subst e; exact h3
      · exact h1 i (by omega)
    · rintro ⟨h1, h2, h3⟩
      exact ⟨⟨fun i hi => h1 i (by omega), h2⟩, h1 n (by omega), h3⟩
theorem descB_no {z : Nat → Int} {n k : Nat} (hk : k < n) (h : descB z (k + 1) = false) : descB z n = false := by
  cases e : descB z n with
  | false => rfl
  | true =>
    obtain ⟨h1, h2⟩ := (descB_iff z n).1 e
    have : descB z (k + 1) = true := (descB_iff z (k + 1)).2 ⟨fun i hi => h1 i (by omega), (riseB_iff _ _).2 fun i h0 hi => (riseB_iff _ _).1 h2 i h0 (by omega)⟩
    rw [this] at h; cases h
def descRd (z : Nat → Int) : Bool := kindOf z == 1 && (decide (1 ≤ wd z 3 ∧ wd z 3 ≤ 30) && (descB z (rowsN z) && allZ (fun j => wd z (4 + 2 * rowsN z + j)) (60 - 2 * rowsN z)))
theorem one_tag (b : Int) (x : Bool) : (#[Value.int .u32 b, .bool x] : Array Value).all (·.oneCell') = true := by simp [Value.oneCell']

end Go.Proofs.YtopakpmepioomaaDoor

/- The contract of jblock.readRows over tags, and of ReadDesc: the walk. -/
namespace Go.Proofs.YtopakpmepioomaaDoor
open Go.RowKit
set_option linter.unusedVariables false

theorem own_lt {W : World} {base g cap k : Nat} {e : TypeId} {size : Nat} {xs : List Value} (h : W.ownsRow base e size (.slice (some ⟨g, 0, none⟩) k cap) k xs) : g < W.heap.size := by
  rcases h.2 with ⟨hv, _⟩ | ⟨g', cap', cur, hv, hb, hg, _⟩
  · cases hv
  · injection hv with h1; injection h1 with h1; injection h1 with h1; subst h1; exact (Array.getElem?_eq_some_iff.1 hg).1
theorem own_below {W W' : World} {base g cap k : Nat} {e : TypeId} {size : Nat} {xs : List Value} (h : W.ownsRow base e size (.slice (some ⟨g, 0, none⟩) k cap) k xs) (hb : Below W.heap.size W W') : W'.ownsRow base e size (.slice (some ⟨g, 0, none⟩) k cap) k xs := by
  refine ⟨h.1, ?_⟩
  rcases h.2 with h' | ⟨g', cap', cur, hv, hbb, hg, hr⟩
  · exact .inl h'
  · exact .inr ⟨g', cap', cur, hv, hbb, (hb.block _ (Array.getElem?_eq_some_iff.1 hg).1).trans hg, hr⟩
theorem tagOne (x : Int) (b : Bool) : ∀ u ∈ ([.int .u32 x, .bool b] : List Value), u.oneCell' = true := by
  intro u hu
  simp only [List.mem_cons, List.not_mem_nil, or_false] at hu
  rcases hu with rfl | rfl <;> rfl

end Go.Proofs.YtopakpmepioomaaDoor
