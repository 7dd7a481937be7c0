/- clear of a row of bytes, as a law for the walk. -/
import Derived.Test.YtbbcckopkbiojaaMore
import Derived.WalkKit
import Derived.Lib.SliceRun
namespace Go.Proofs.Ytbbcckopkbiojaa
open Go.RowKit
set_option linter.unusedVariables false
theorem only_setCells (b : Nat) : ∀ (vs : List Value) (o : Nat) (w : World), Only b w (w.setCells b o vs)
  | [], _, w => Only.refl _ _
  | v :: r, o, w => (Only.setCell w ⟨b, o, none⟩ v).trans (only_setCells b r (o + 1) _)
theorem puts_setCells (b o n : Nat) (f : Nat → Int) (vs : List Value) (w : World) (hl : vs.length = n) (hv : ∀ i (h : i < vs.length), vs[i] = .int .u8 (f i)) (hc : ∀ j, j < n → (w.cell? ⟨b, o + j, none⟩).isSome = true) :
    Puts b o n f w (w.setCells b o vs) := by
  refine ⟨only_setCells b vs o w, fun x => ?_⟩
  by_cases h : o ≤ x ∧ x < o + n
  · rw [if_pos h]
    have := World.cell?_setCells_in b vs o w (fun j hj => hc j (by omega)) (x - o) (by omega)
    rw [show o + (x - o) = x by omega, hv _ (by omega)] at this
    exact this
  · rw [if_neg h]
    exact World.cell?_setCells_out b vs o w _ (fun _ _ => by simp; omega)
theorem wpList_clearB {P : Program} {w : World} {ops : Array Oper} {rest : List Oper} {o : Oper} {a : Act} {Q : Exit → Act → World → Prop} (hgd : o.guard = none) (s : Operand) (t : TypeId)
    (ho : o.op = .call { callee := .builtin .clear, args := #[s], argTypes := #[t] }) (e : TypeId) (ht : P.underlying t = some (.slice e)) (hz : ∀ w, (zeroValue e).run P w = .ok (.int .u8 0) w)
    (b off n c : Nat) (z : Nat → Int) (hs : a.eval s = .slice (some ⟨b, off, none⟩) n c) (hn : 0 < n) (hseg : Seg w b off n z) (hf : Soft w b off n)
    (h : ∀ w', Puts b off n (fun _ => 0) w w' → wpList P ops Q rest (a.put o.dst (.tuple #[])) w') : wpList P ops Q (o :: rest) a w := by
  refine wpList_plain hgd fun K hK => ?_
  have hc : ∀ j, j < n → (w.cell? ⟨b, off + j, none⟩).isSome = true := fun j hj => by rw [hseg j hj]; rfl
  have hrun := Lib.run_clear_slice (P := P) w t e o.type (.int .u8 0) ht hz rfl rfl b off n c hn hc hf
  unfold Oper.wp
  simp [execOp, ho, resolve, invoke, builtin, hs, hrun, Result.andThen]
  exact hK _ _ (h _ (puts_setCells b off n (fun _ => 0) _ w (by simp) (by simp) hc))
theorem grown_trans {a b c : World} {row : Option Nat} (h : a.grownBy b row) (k : b.grownBy c row) : a.grownBy c row :=
  ⟨k.os.trans h.os, k.tape.trans h.tape, k.output.trans h.output, Nat.le_trans h.size k.size, fun j hj hne => (k.block j (Nat.lt_of_lt_of_le hj h.size) hne).trans (h.block j hj hne)⟩
theorem grown_only {a b : World} {g : Nat} (h : Only g a b) : a.grownBy b (some g) :=
  ⟨h.os, h.tape, h.output, Nat.le_of_eq h.size.symm, fun j _ hne => h.block j (fun e => hne (by rw [e]))⟩
theorem grown_below {a b : World} {row : Option Nat} (h : Below a.heap.size a b) : a.grownBy b row := ⟨h.os, h.tape, h.output, h.size, fun j hj _ => h.block j hj⟩
theorem grown_refl (a : World) (row : Option Nat) : a.grownBy a row := ⟨rfl, rfl, rfl, Nat.le_refl _, fun _ _ _ => rfl⟩
theorem grown_drewN {a b : World} {row : Option Nat} (h : a.grownBy b row) (m : Nat) : a.grownBy (b.drewN m) row := ⟨h.os, h.tape, h.output, h.size, h.block⟩
theorem grown_below_ge {a b : World} {row : Option Nat} {B : Nat} (h : a.grownBy b row) (hB : B ≤ a.heap.size) (hr : ∀ k, row = some k → B ≤ k) : Below B a b := (Below.refl B a).grown h hB hr
end Go.Proofs.Ytbbcckopkbiojaa
