/- make of a slice of bytes, in this program's own numbers. -/
import Derived.Test.YtmghpmbjimdegaaAppendB
import Derived.Test.YtmghpmbjimdegaaMore
import Derived.Laws.OwnMore
namespace Go.Proofs.Ytmghpmbjimdegaa
open Go.RowKit
theorem made_Bs (n : Nat) : (madeCells (Value.int .u8 0).cells (n * 1)).toList = Bs n (fun _ => 0) := by
  rw [show (Value.int .u8 0).cells = #[.int .u8 0] from rfl, Nat.mul_one, toList_madeCells_one]
  apply List.ext_getElem?
  intro i
  by_cases h : i < n
  · rw [Bs_get _ _ _ h]; simp [h]
  · rw [List.getElem?_eq_none (by simp; omega), List.getElem?_eq_none (by rw [Bs_length]; omega)]
theorem wp_makeB {w : World} {ops : Array Oper} {rest : List Oper} {o : Oper} {a : Act} {Q : Exit → Act → World → Prop} (hgd : o.guard = none) (l c : Operand)
    (ho : o.op = Op.makeSlice 58 l c) (base : Nat) (L : Int) (n : Nat) (hl : a.eval l = .int .i64 L) (hc : a.eval c = .int .i64 L) (hL : L = (n : Int)) (hn : n ≤ 140737488355328) (hbase : base ≤ w.heap.size)
    (h : ∀ w', Mine w' base 5 (some ⟨w.heap.size, 0, none⟩) n n (fun _ => 0) → w.grownBy w' none → wpList Try.prog ops Q rest (a.put o.dst (.slice (some ⟨w.heap.size, 0, none⟩) n n)) w') :
    wpList Try.prog ops Q (o :: rest) a w := by
  obtain ⟨i0, hi, hz0, hz1, hz2⟩ := info_parts info8
  refine wpList_make_full w hgd l c _ ho base _ i0 (.int .u8 0) 1 Try.underlying58 hi hz0 hz1 _ _ L L n hl hc hL hL (by rw [hz2]; omega) (by unfold maxLen; omega) hbase ?_
  intro w' h1 h2
  rw [made_Bs] at h1
  exact h w' h1 h2
end Go.Proofs.Ytmghpmbjimdegaa
