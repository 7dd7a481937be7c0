/- Structs loaded and stored whole, in a walk within a fence (an iterator's body, a loop's body). -/
import Derived.Test.YtbbcckopkbiojaaAt
import Derived.OwnWalkIn
import Derived.TacticsInMore
namespace Go.Proofs.Ytbbcckopkbiojaa
open Go.RowKit
set_option linter.unusedVariables false
section
variable {P : Program} {F : Fence} {nF : Nat} {ops : Array Oper} {rest : List Oper} {o : Oper} {a : Act} {w : World} {Q : Exit → Act → World → Prop}
theorem wpListIn_value (hw : Region.wanted o (yielded ops a.tmps) = true) (hc : ∀ c, o.op ≠ .call c) (hd : ∀ c, o.op ≠ .defer c) {v : Value} {w' : World} (hr : (execOp a.eval o).run P w = .ok (.value v) w')
    (h : wpListIn F nF P ops Q rest (a.put o.dst v) w') : wpListIn F nF P ops Q (o :: rest) a w := by
  refine wpListIn_step fun K hK => ?_
  simp only [hw, if_true]
  unfold Oper.wpIn
  refine ⟨?_, ?_⟩
  · intro f hf
    unfold Oper.about at hf
    split at hf
    · rename_i c ho; exact absurd ho (hc c)
    · cases hf
  · rw [Oper.semAt_plain F _ _ hd, hr]
    exact hK _ _ h
theorem wpListIn_skipped (hw : Region.wanted o (yielded ops a.tmps) = true) (hc : ∀ c, o.op ≠ .call c) (hd : ∀ c, o.op ≠ .defer c) {w' : World} (hr : (execOp a.eval o).run P w = .ok .skip w')
    (h : wpListIn F nF P ops Q rest (a.put o.dst undef) w') : wpListIn F nF P ops Q (o :: rest) a w := by
  refine wpListIn_step fun K hK => ?_
  simp only [hw, if_true]
  unfold Oper.wpIn
  refine ⟨?_, ?_⟩
  · intro f hf
    unfold Oper.about at hf
    split at hf
    · rename_i c ho; exact absurd ho (hc c)
    · cases hf
  · rw [Oper.semAt_plain F _ _ hd, hr]
    exact hK _ _ h
theorem wpIn_loadAt (hw : Region.wanted o (yielded ops a.tmps) = true) (T : TypeId) (p : Operand) (ho : o.op = .load T p)
    (g : Nat) (cs : Array Value) (d : TypeDesc) (hx : a.eval p = .pointer (some ⟨g, 0, none⟩)) (hI : At w g T cs) (hu : P.underlying T = some d) (hd : (match d with | .struct _ | .array _ _ => true | _ => false) = true) (hi : (P.info? T).map (·.size) = some cs.size)
    (h : wpListIn F nF P ops Q rest (a.put o.dst (.agg cs)) w) : wpListIn F nF P ops Q (o :: rest) a w := by
  refine wpListIn_value hw (by rw [ho]; intro c h; cases h) (by rw [ho]; intro c h; cases h) ?_ h
  unfold execOp
  simp only [ho, hx, Instr.loadAt, Instr.sureAddr, Sem.run_bind, Sem.run_pure, Result.andThen_ok, run_loadVar_row w g T T cs (0, 0) d hI hu hd hi]
theorem wpIn_load_mid (hw : Region.wanted o (yielded ops a.tmps) = true) (T : TypeId) (p : Operand) (ho : o.op = .load T p)
    (b off : Nat) (hx : a.eval p = .pointer (some ⟨b, off, none⟩)) (cs : List Value) (d : TypeDesc) (hc : w.rangeAt b off cs) (hu : P.underlying T = some d) (hd : d.isRow = true) (hi : (P.info? T).map (·.size) = some cs.length)
    (h : wpListIn F nF P ops Q rest (a.put o.dst (.agg cs.toArray)) w) : wpListIn F nF P ops Q (o :: rest) a w := by
  refine wpListIn_value hw (by rw [ho]; intro c h; cases h) (by rw [ho]; intro c h; cases h) ?_ h
  unfold execOp
  simp only [ho, hx, Instr.loadAt, Instr.sureAddr, Sem.run_bind, Sem.run_pure, Result.andThen_ok, run_loadVar_mid w b off T cs d hc hu hd hi]
theorem wpIn_storeAt (hw : Region.wanted o (yielded ops a.tmps) = true) (T : TypeId) (p q : Operand) (ho : o.op = .store T p q)
    (g : Nat) (cs old : Array Value) (hx : a.eval p = .pointer (some ⟨g, 0, none⟩)) (hy : a.eval q = .agg cs) (hI : At w g T old) (hi : (P.info? T).map (·.size) = some cs.size) (hs : old.size = cs.size) (h1 : cs.all (·.oneCell') = true)
    (h : ∀ w', At w' g T cs → Only g w w' → wpListIn F nF P ops Q rest (a.put o.dst undef) w') : wpListIn F nF P ops Q (o :: rest) a w := by
  refine wpListIn_skipped hw (by rw [ho]; intro c h; cases h) (by rw [ho]; intro c h; cases h) (w' := w.setRow g cs) ?_ (h _ (setRow_heap w g _ cs _ _ hI) (only_setRow w g _ hI hs.symm))
  unfold execOp
  simp only [ho, hx, hy, Instr.storeAt, Instr.sureAddr, Sem.run_bind, Sem.run_pure, Result.andThen_ok, run_storeVar_row w g T T old cs hI hi hs h1]
end
end Go.Proofs.Ytbbcckopkbiojaa
