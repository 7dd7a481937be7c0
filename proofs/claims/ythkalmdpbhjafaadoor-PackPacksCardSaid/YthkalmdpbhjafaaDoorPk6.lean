/- Transactions' blocks: row by row. No walk. -/
import Derived.Test.YthkalmdpbhjafaaDoorPk1
import Derived.Test.YthkalmdpbhjafaaDoorPk3
import Derived.Test.YthkalmdpbhjafaaDoorPk4
import Derived.Test.YthkalmdpbhjafaaDoorPk5
namespace Go.Proofs.YthkalmdpbhjafaaDoor
open Go.RowKit
set_option linter.unusedVariables false

theorem RSeg.sub {w : World} {b off m n : Nat} {f : Nat → List Value} (h : RSeg w b off m n f) (r k : Nat) (hk : r + k ≤ n) : RSeg w b (off + r * m) m k (fun i => f (r + i)) := fun i hi j v hj => by
  have := h (r + i) (by omega) j v hj
  rw [show off + r * m + i * m + j = off + (r + i) * m + j by rw [Nat.add_mul]; omega]
  exact this
theorem zero_bytJ : Byt (fun _ => 0) := fun _ => ⟨Int.le_refl 0, (by decide : (0 : Int) < 256)⟩
theorem pk0_byt (t : Tr) (ht : t.Ok) (i : Nat) : Byt (pk0 t i) := by
  unfold pk0
  split
  · split
    · unfold descZ; split
      · exact wz_byt _
      · exact zero_bytJ
    · unfold escZ; split
      · exact byt_over (ht.cd _) (byt_byteOf _) _ _
      · exact ht.cd _
  · unfold revZ; split
    · exact wz_byt _
    · exact zero_bytJ
theorem commitZ_byt (s n v : Int) : Byt (commitZ s n v) := by
  unfold commitZ; split
  · exact wz_byt _
  · exact zero_bytJ
theorem pkB_byt (t : Tr) (ht : t.Ok) (i : Nat) : Byt (pkB t i) := by
  unfold pkB; split
  · exact pk0_byt t ht i
  · exact commitZ_byt _ _ _
theorem wds_of {b : Nat → Int} {n : Nat} (h : riseT b n = true) (h0 : ∀ i, n ≤ i → b i = 0) : Wds b := fun i => by
  by_cases hi : i < n
  · have := riseT_bd h i hi; omega
  · rw [h0 i (by omega)]; omega
theorem rise_sub {b : Nat → Int} {n r k : Nat} (h : riseT b n = true) (hk : r + k ≤ n) : riseB (fun j => b (r + j)) k = true := by
  rw [riseB_iff]
  intro i h0 hi
  have := ((riseT_iff b n).1 h (r + i) (by omega)).1
  rw [if_neg (by omega)] at this
  rw [show r + (i - 1) = r + i - 1 by omega]
  exact this
/-- a row of copies lays its blocks -/
theorem pk0_desc {t : Tr} {r : Nat} (hr : r < (t.n + 29) / 30) {i : Nat} (hi : i < 31 * r + 1 + min 30 (t.n - 30 * r)) :
    (if i < 31 * r then pk0 t i else if i = 31 * r then descZ t.s (min 30 (t.n - 30 * r)) (fun k => t.cb (30 * r + k)) (fun j => escB (t.cd (30 * r + j))) else escZ (t.cd (30 * r + (i - 31 * r - 1)))) = pk0 t i := by
  have hd : i < dN t.n := by unfold dN; omega
  by_cases h : i < 31 * r
  · rw [if_pos h]
  rw [if_neg h]
  unfold pk0
  rw [if_pos hd]
  by_cases h0 : i = 31 * r
  · rw [if_pos h0, if_pos (by omega), show i / 31 = r by omega]
  · rw [if_neg h0, if_neg (by omega), show i / 31 = r by omega, show i % 31 - 1 = i - 31 * r - 1 by omega]
theorem pk0_rev {t : Tr} {r : Nat} {i : Nat} (hi : i < dN t.n + r + 1) :
    (if i < dN t.n + r then pk0 t i else revZ t.s (min 60 (t.m - 60 * r)) (fun k => t.rv (60 * r + k))) = pk0 t i := by
  by_cases h : i < dN t.n + r
  · rw [if_pos h]
  rw [if_neg h]
  obtain rfl : i = dN t.n + r := by omega
  unfold pk0
  rw [if_neg (by omega), show dN t.n + r - dN t.n = r by omega]
theorem descOk_row {t : Tr} (h : t.may = true) {r : Nat} (hr : r < (t.n + 29) / 30) : descOk t.s (min 30 (t.n - 30 * r)) (fun k => t.cb (30 * r + k)) = true := by
  obtain ⟨h1, _, h2, _⟩ := t.may_iff.1 h
  unfold descOk
  rw [h1, rise_sub h2 (by omega), decide_eq_true (by omega)]; rfl
theorem revOk_row {t : Tr} (h : t.may = true) {r : Nat} (hr : r < rN t.m) : revOk t.s (min 60 (t.m - 60 * r)) (fun k => t.rv (60 * r + k)) = true := by
  unfold rN at hr
  obtain ⟨h1, _, _, h2⟩ := t.may_iff.1 h
  unfold revOk
  rw [h1, rise_sub h2 (by omega), decide_eq_true (by omega)]; rfl
theorem commitOk_c {t : Tr} (h : t.may = true) (hs : t.size ≤ 255) : commitOk t.s t.c = true := by
  obtain ⟨h1, h0, _, _⟩ := t.may_iff.1 h
  have := size_c h
  unfold commitOk
  have hc : 0 < t.c := by unfold Tr.c dN rN; omega
  rw [h1, decide_eq_true (by omega)]; rfl
/-- how many blocks stand when so many rows of copies are laid -/
def cntC (n r : Nat) : Nat := if r < (n + 29) / 30 then 31 * r else dN n
theorem cntC_row {n r : Nat} (hr : r < (n + 29) / 30) : cntC n r = 31 * r ∧ cntC n (r + 1) = 31 * r + 1 + min 30 (n - 30 * r) := by
  unfold cntC dN
  rw [if_pos hr]
  refine ⟨rfl, ?_⟩
  split <;> omega
theorem cntC_end (n : Nat) : cntC n ((n + 29) / 30) = dN n := by unfold cntC; rw [if_neg (by omega)]
theorem cntC_zero (n : Nat) : cntC n 0 = 0 := by unfold cntC dN; split <;> omega
theorem cntC_le (n r : Nat) (hr : r ≤ (n + 29) / 30) : cntC n r ≤ dN n := by unfold cntC dN; split <;> omega
theorem BOwn.none {W : World} {q cap : Nat} {B : Nat → Nat → Int} {cs : Array Value} (h : W.heap[q]? = some (.cells cs 40 (0, 0))) (hs : cs.size = cap * 256) (hc : cap ≤ maxLen) : BOwn W q 0 cap B :=
  ⟨by simp [Cs], .inr ⟨q, cap, cs, rfl, Nat.zero_le _, h, Nat.zero_le _, hc, hs, by simp [Cs]⟩⟩
theorem run_blocks0 (n : Nat) (hn : n ≤ 2048) (W : World) : (Instr.makeSlice 31 (.int .i64 0) (.int .i64 (n : Int))).run Tryd.prog W = .ok (.slice (some ⟨W.heap.size, 0, none⟩) 0 n) (W.alloc (.cells (madeCells (bval fun _ => 0).cells (n * 256)) 40)) := by
  obtain ⟨i, hi, hzz⟩ := Option.map_eq_some_iff.1 info_blk3
  simp only [Prod.mk.injEq] at hzz
  obtain ⟨hz, hs, hb⟩ := hzz
  have hr := run_make (P := Tryd.prog) W 31 40 i (bval fun _ => 0) Tryd.underlying31 hi hz .i64 .i64 0 (n : Int) (by omega) (by omega) (by rw [hb]; omega) (by omega)
  simp only [Int.toNat_natCast, hs] at hr
  exact hr
end Go.Proofs.YthkalmdpbhjafaaDoor
