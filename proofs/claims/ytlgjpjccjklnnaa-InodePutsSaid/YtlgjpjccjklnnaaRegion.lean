/- A region that draws its order, whose operations yield one value in every world of a class, and whose calls stay in the class: one walk. No program in sight. -/
import Derived.Deep.QuietTactic
import Derived.BigQuiet
import Derived.WalkKit
import Derived.Deep.MidRow
namespace Go.Proofs.Ytlgjpjccjklnnaa
open Go.RowKit
set_option linter.unusedVariables false
variable {P : Program}
/-- the worlds that meet S -/
structure InW (S : World → Prop) where
  W : World
  h : S W
def InS (S : World → Prop) (w' : World) : Prop := ∃ s : InW S, w' = s.W
theorem InS.mk {S : World → Prop} {w : World} (h : S w) : InS S w := ⟨⟨w, h⟩, rfl⟩
theorem InS.out {S : World → Prop} {w : World} (h : InS S w) : S w := by obtain ⟨s, rfl⟩ := h; exact s.h
theorem wp_region_S (S : World → Prop) {id : Nat} {Q : Exit → Act → World → Prop} {a : Act} {w : World} {l : List Oper} (hm : P.follows .mixedOrders = true) (hB : Region.lexB .any l.toArray = true) (hS : S { w with drawn := w.drawn + 1 })
    (h : Nonempty (InW S) → wpQuiet P l.toArray (fun w' => ∃ s : InW S, w' = s.W) (fun a' => ∀ w', InS S w' → Q .normal a' w') l a) : (Code.region id l.toArray true).wp P Q a w :=
  wp_region_quiet (C := fun w' => ∃ s : InW S, w' = s.W) hm hB ⟨⟨_, hS⟩, rfl⟩ (h ⟨⟨_, hS⟩⟩)
/-- a call in such a region -/
theorem q_call {S : World → Prop} {f : FuncId} {args : Array Value} {v : Value} (s : InW S) (h : ∀ W, S W → Calls P f args W fun e w' => e = .returned v ∧ S w') : Calls P f args s.W fun e w' => e = .returned v ∧ ∃ s' : InW S, w' = s'.W :=
  (h s.W s.h).mono fun e w' hh => ⟨hh.1, ⟨w', hh.2⟩, rfl⟩
/-- a load of many cells in such a region -/
theorem q_load {S : World → Prop} {ops : Array Oper} {Q : Act → Prop} {a : Act} {o : Oper} {rest : List Oper} (hw : Region.wanted o (yielded ops a.tmps) = true) (ty : TypeId) (x : Operand) (ho : o.op = .load ty x)
    (b off : Nat) (hx : a.eval x = .pointer (some ⟨b, off, none⟩)) (cs : List Value) (d : TypeDesc) (hS : ∀ w, S w → w.rangeAt b off cs)
    (hu : P.underlying ty = some d) (hd : d.isRow = true) (hi : (P.info? ty).map (·.size) = some cs.length)
    (h : wpQuiet P ops (fun w' => ∃ s : InW S, w' = s.W) Q rest (a.put o.dst (.agg cs.toArray))) : wpQuiet P ops (fun w' => ∃ s : InW S, w' = s.W) Q (o :: rest) a := by
  refine wpQuiet_step fun K hK => ?_
  rw [if_pos hw]
  refine ⟨.agg cs.toArray, fun w hw' => ?_, hK _ h⟩
  obtain ⟨s, rfl⟩ := hw'
  unfold Oper.quietAt execOp
  simp only [ho, hx, Instr.loadAt, Instr.sureAddr, Sem.run_bind, Sem.run_pure, Result.andThen_ok, run_loadVar_mid s.W b off ty cs d (hS s.W s.h) hu hd hi]
  exact ⟨rfl, rfl⟩
open Lean Meta Elab Tactic in
/-- behind q_load: the frame written out -/
elab "s_write" : tactic => withMainContext do
  let g ← getMainGoal
  let t := (← instantiateMVars (← g.getType)).consumeMData
  unless t.isAppOfArity ``wpQuiet 6 do throwError "s_write: no walk"
  let p := t.getArg! 5
  unless p.isAppOfArity ``Act.put 3 do throwError "s_write: no put"
  let dst ← whnfR (p.getArg! 1)
  let dst ← if dst.isAppOf ``Oper.dst then whnfD dst else pure dst
  let a := p.getArg! 0
  let new := BigFrame.writePuts a (mkApp3 (mkConst ``Act.put) a dst (p.getArg! 2))
  let h ← mkFreshExprSyntheticOpaqueMVar (mkAppN t.getAppFn (t.getAppArgs.set! 5 new)) (← g.getTag)
  g.assign h
  replaceMainGoal [h.mvarId!]
/-- an operation of the walk that is no call and no long load -/
macro "s_step" : tactic => `(tactic| first | go_big_quiet_skip | (go_big_quiet_want; go_big_quiet_op; go_big_quiet_on))
end Go.Proofs.Ytlgjpjccjklnnaa
