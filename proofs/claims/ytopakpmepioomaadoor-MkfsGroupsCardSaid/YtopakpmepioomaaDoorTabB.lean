/- Stores of blocks in a drawn region with new blocks. -/
import Derived.Test.YtopakpmepioomaaDoorTab
import Derived.Test.YtopakpmepioomaaDoorMg1
namespace Go.Proofs.YtopakpmepioomaaDoor.Tb
open Go.RowKit
set_option linter.unusedVariables false

theorem alloc_tab {o : Oper} (ho : o.op = .alloc 32) (a : Act) (W : World) : (execOp a.eval o).run Tryd.prog W = .ok (.value (.pointer (some ⟨W.heap.size, 0, none⟩))) (W.alloc (.cells (Ks .u8 256 fun _ => 0).toArray 32)) := by
  have hz := zero_block
  unfold execOp
  simp only [ho, Instr.alloc, Sem.run_bind, hz, Result.andThen_ok]
  rfl
theorem store_tab {als : List Al} {x : Al} {A : Act} {o : Oper} (s : Nat) (z old : Nat → Int) (hgd : o.op = .store 32 (.tmp x.d) (.tmp s)) (hA : A.eval (.tmp s) = bval z) (hs : ∀ y ∈ als, y.d ≠ s) (hT : x.T = 32) (hc : x.cs = (Ks .u8 256 old).toArray) (hc1 : x.cs1 = (Ks .u8 256 z).toArray)
    (a' : Act) (W : World) (p : Nat) (K : Act → World → Prop) (Q' : Exit → Act → World → Prop) (hev : ∀ y ∈ o.op.operands, (∀ z ∈ als, y ≠ .tmp z.d) → a'.eval y = A.eval y) (hp : a'.eval (.tmp x.d) = .pointer (some ⟨p, 0, none⟩)) (hB : W.heap[p]? = some (.cells x.cs x.T (0, 0)))
    (hK : ∀ W', W'.heap[p]? = some (.cells x.cs1 x.T (0, 0)) → Only p W W' → K (a'.put o.dst undef) W') : o.wp Tryd.prog a' W K Q' := by
  rw [hc, hT] at hB
  rw [hc1, hT] at hK
  have hB' : Blk W p 32 256 old := hB
  have hy : a'.eval (.tmp s) = bval z := by
    rw [hev (.tmp s) (by rw [hgd]; simp [Op.operands]) (fun y hy e => by injection e with e; exact hs y hy e.symm), hA]
  refine wp_store_row 32 (.tmp x.d) (.tmp s) hgd p (Ks .u8 256 z).toArray hp hy 32 _ hB' (info_block' _) (by rw [Ks_size, Ks_size]) (Ks_one _ _ _) ?_
  exact hK _ (hB'.setRow z) (only_setRow W p _ hB' (by rw [Ks_size, Ks_size]))
end Go.Proofs.YtopakpmepioomaaDoor.Tb
