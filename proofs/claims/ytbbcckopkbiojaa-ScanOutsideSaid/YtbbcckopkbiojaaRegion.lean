/- A region that draws its order, whose operations yield one value in every world of a class, and whose calls stay in the class: one walk. No program in sight. -/
import Derived.Deep.QuietTactic
import Derived.BigQuiet
import Derived.WalkKit
import Derived.Deep.MidRow
namespace Go.Proofs.Ytbbcckopkbiojaa
open Go.RowKit
set_option linter.unusedVariables false
variable {P : Program}
/-- the worlds that meet S -/
structure InW (S : World → Prop) where
  W : World
  h : S W
def InS (S : World → Prop) (w' : World) : Prop := ∃ s : InW S, w' = s.W
theorem InS.mk {S : World → Prop} {w : World} (h : S w) : InS S w := ⟨⟨w, h⟩, rfl⟩
theorem InS.out {S : World → Prop} {w : World} (h : InS S w) : S w := by obtain ⟨s, rfl⟩ := h; exact s.h
theorem wp_region_S (S : World → Prop) {id : Nat} {Q : Exit → Act → World → Prop} {a : Act} {w : World} {l : List Oper} (hm : P.follows .mixedOrders = true) (hB : Region.lexB .any l.toArray = true) (hS : S { w with drawn := w.drawn + 1 })
    (h : Nonempty (InW S) → wpQuiet P l.toArray (fun w' => ∃ s : InW S, w' = s.W) (fun a' => ∀ w', InS S w' → Q .normal a' w') l a) : (Code.region id l.toArray true).wp P Q a w :=
  wp_region_quiet (C := fun w' => ∃ s : InW S, w' = s.W) hm hB ⟨⟨_, hS⟩, rfl⟩ (h ⟨⟨_, hS⟩⟩)
/-- a call in such a region -/
theorem q_call {S : World → Prop} {f : FuncId} {args : Array Value} {v : Value} (s : InW S) (h : ∀ W, S W → Calls P f args W fun e w' => e = .returned v ∧ S w') : Calls P f args s.W fun e w' => e = .returned v ∧ ∃ s' : InW S, w' = s'.W :=
  (h s.W s.h).mono fun e w' hh => ⟨hh.1, ⟨w', hh.2⟩, rfl⟩
/-- a load of many cells in such a region -/
theorem q_load {S : World → Prop} {ops : Array Oper} {Q : Act → Prop} {a : Act} {o : Oper} {rest : List Oper} (hw : Region.wanted o (yielded ops a.tmps) = true) (ty : TypeId) (x : Operand) (ho : o.op = .load ty x)
    (b off : Nat) (hx : a.eval x = .pointer (some ⟨b, off, none⟩)) (cs : List Value) (d : TypeDesc) (hS : ∀ w, S w → w.rangeAt b off cs)
    (hu : P.underlying ty = some d) (hd : d.isRow = true) (hi : (P.info? ty).map (·.size) = some cs.length)
    (h : wpQuiet P ops (fun w' => ∃ s : InW S, w' = s.W) Q rest (a.put o.dst (.agg cs.toArray))) : wpQuiet P ops (fun w' => ∃ s : InW S, w' = s.W) Q (o :: rest) a := by
  refine wpQuiet_step fun K hK => ?_
  rw [if_pos hw]
  refine ⟨.agg cs.toArray, fun w hw' => ?_, hK _ h⟩
  obtain ⟨s, rfl⟩ := hw'
  unfold Oper.quietAt execOp
  simp only [ho, hx, Instr.loadAt, Instr.sureAddr, Sem.run_bind, Sem.run_pure, Result.andThen_ok, run_loadVar_mid s.W b off ty cs d (hS s.W s.h) hu hd hi]
  exact ⟨rfl, rfl⟩
/-- an operation that yields v in whatever world -/
theorem q_val {S : World → Prop} {ops : Array Oper} {Q : Act → Prop} {a : Act} {o : Oper} {rest : List Oper} (hw : Region.wanted o (yielded ops a.tmps) = true) (v : Value) (hr : ∀ W, (execOp a.eval o).run P W = .ok (.value v) W)
    (h : wpQuiet P ops (fun w' => ∃ s : InW S, w' = s.W) Q rest (a.put o.dst v)) : wpQuiet P ops (fun w' => ∃ s : InW S, w' = s.W) Q (o :: rest) a := by
  refine wpQuiet_step fun K hK => ?_
  rw [if_pos hw]
  refine ⟨v, fun w _ => ?_, hK _ h⟩
  unfold Oper.quietAt
  rw [hr]
  exact ⟨rfl, rfl⟩
/-- the frame written out -/
theorem wpQuiet_frame {ops : Array Oper} {C : World → Prop} {Q : Act → Prop} {l : List Oper} {a a' : Act} (e : a = a') (h : wpQuiet P ops C Q l a') : wpQuiet P ops C Q l a := e ▸ h
end Go.Proofs.Ytbbcckopkbiojaa
