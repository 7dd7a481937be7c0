/- What JblockReads' walk needs: answers in one form, rows that are spoilt. -/
import Derived.Test.YtahobhifafiaeaaR9l
import Derived.Test.YtahobhifafiaeaaR9e
import Derived.Test.YtahobhifafiaeaaOne9
namespace Go.Proofs.Ytahobhifafiaeaa
open Go.RowKit
set_option linter.unusedVariables false

def dS (z : Nat → Int) : Int := if descRd z then wd z 2 else 0
def dN (z : Nat → Int) : Nat := if descRd z then rowsN z else 0
def rS (z : Nat → Int) : Int := if revRd z then wd z 2 else 0
def rN (z : Nat → Int) : Nat := if revRd z then rowsN z else 0
theorem desc_form {w w' : World} {z : Nat → Int} {e : Ending} (h : DescRead w z e w') : Below w.heap.size w w' ∧ ∃ a cap, e = .returned (.tuple #[.int .u32 (dS z), .slice a (dN z) cap, .int .i64 (errOf (descRd z) 90)]) ∧ w'.ownsRow w.heap.size 69 2 (.slice a (dN z) cap) (dN z) (Tc (descT z) (descE z) (dN z)) := by
  obtain ⟨hb, ⟨hr, rfl⟩ | ⟨hr, g, cap, rfl, hown⟩⟩ := h
  · refine ⟨hb, none, 0, ?_, ?_⟩
    · unfold dS dN; rw [hr]; rfl
    · unfold dN; rw [hr]; exact World.ownsRow_nil _ _ _ _
  · refine ⟨hb, some ⟨g, 0, none⟩, cap, ?_, ?_⟩
    · unfold dS dN; rw [hr]; rfl
    · unfold dN; rw [hr]; exact hown
theorem rev_form {w w' : World} {z : Nat → Int} {e : Ending} (h : RevRead w z e w') : Below w.heap.size w w' ∧ ∃ a cap, e = .returned (.tuple #[.int .u32 (rS z), .slice a (rN z) cap, .int .i64 (errOf (revRd z) 90)]) ∧ w'.ownsRow w.heap.size 22 1 (.slice a (rN z) cap) (rN z) (Ks .u32 (rN z) (revM z)) := by
  obtain ⟨hb, ⟨hr, rfl⟩ | ⟨hr, g, cap, rfl, hown⟩⟩ := h
  · refine ⟨hb, none, 0, ?_, ?_⟩
    · unfold rS rN; rw [hr]; rfl
    · unfold rN; rw [hr]; exact World.ownsRow_nil _ _ _ _
  · refine ⟨hb, some ⟨g, 0, none⟩, cap, ?_, ?_⟩
    · unfold rS rN; rw [hr]; rfl
    · unfold rN; rw [hr]; exact hown
theorem dN_le {z : Nat → Int} : (dN z : Int) ≤ 30 := by
  unfold dN
  split
  · rename_i h
    unfold descRd at h
    simp only [Bool.and_eq_true, decide_eq_true_eq] at h
    unfold rowsN; omega
  · decide
theorem rN_le {z : Nat → Int} : (rN z : Int) ≤ 60 := by
  unfold rN
  split
  · rename_i h
    unfold revRd at h
    simp only [Bool.and_eq_true, decide_eq_true_eq] at h
    unfold rowsN; omega
  · decide
theorem commit_form (z : Nat → Int) : ∃ s c v e, commitV z = .tuple #[.int .u32 s, .int .i64 c, .int .u32 v, .int .i64 e] := by
  unfold commitV
  split
  · exact ⟨_, _, _, _, rfl⟩
  · exact ⟨_, _, _, _, rfl⟩
/-- a row of one's own may be written -/
theorem own_there {W : World} {base n cap size : Nat} {a : Option Addr} {e : TypeId} {xs : List Value} (h : W.ownsRow base e size (.slice a n cap) n xs) (hb : base ≤ W.heap.size) :
    ∃ g, base ≤ g ∧ g ≤ W.heap.size ∧ (n * size = 0 ∨ g < W.heap.size) ∧ (n = 0 ∨ a = some ⟨g, 0, none⟩) ∧ W.there g 0 (n * size) := by
  rcases h.2 with ⟨hv, h0⟩ | ⟨g, cap', cur, hv, hbb, hg, hn, hc, hs, ht⟩
  · subst h0
    exact ⟨W.heap.size, hb, Nat.le_refl _, .inl (by simp), .inl rfl, fun j hj => by simp at hj⟩
  · injection hv with h1 h2 h3
    have hlt := (Array.getElem?_eq_some_iff.1 hg).1
    refine ⟨g, hbb, by omega, .inr hlt, .inr h1, fun j hj => ⟨?_, soft_of_heap hg _⟩⟩
    have hl : xs.length ≤ cur.size := by rw [← ht]; simp; omega
    have hx : xs.length = n * size := h.1
    have : cur[0 + j]? = some cur[0 + j] := Array.getElem?_eq_getElem (by omega)
    rw [cell_of_heap hg this]; rfl
theorem there_below {W W' : World} {B g n : Nat} (h : W.there g 0 n) (hb : Below B W W') (hg : n = 0 ∨ g < B) : W'.there g 0 n := fun j hj => by
  have hg : g < B := by omega
  refine ⟨?_, ?_⟩
  · rw [hb.cell (p := ⟨g, 0 + j, none⟩) hg]; exact (h j hj).1
  · rw [World.frozen?_of_block (hb.block g hg)]; exact (h j hj).2
theorem there_setCell {W : World} {g n : Nat} (h : W.there g 0 n) (b o : Nat) (v : Value) : (W.setCell ⟨b, o, none⟩ v).there g 0 n := World.there_setCells h b o [v]
theorem run_eql_head (s s' t t' : Int) (w : World) : (binOp .eql 24 (.agg #[.int .u32 s, .int .i64 t]) (.agg #[.int .u32 s', .int .i64 t'])).run Try.prog w = .ok (.bool (s == s' && t == t')) w := by
  have hS : Try.prog.underlying 24 = some (.struct (Try.prog.fieldsOf 24)) := by kernel_rfl
  have hp : Try.prog.stoodInHeld 24 = false := by kernel_rfl
  rw [run_eql_struct, show (10000 : Nat) = 9999 + 1 from rfl, run_equalIn_agg w 9999 _ _ _ hS hp]
  simp only [Program.fieldsOf, Try.underlying24]
  clear hS hp
  go_simp
  by_cases h1 : s = s' <;> by_cases h2 : t = t' <;> simp [h1, h2]
theorem run_neq_head (s t : Int) (w : World) : (binOp .neq 24 (.agg #[.int .u32 s, .int .i64 t]) (.agg #[.int .u32 s, .int .i64 t])).run Try.prog w = .ok (.bool false) w := by
  have := neq_of_eql (run_eql_head s s t t w)
  simpa using this
end Go.Proofs.Ytahobhifafiaeaa
