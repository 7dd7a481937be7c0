/- '==' of arrays of integers, over any program. -/
import Derived.Test.YtbbcckopkbiojaaOwn
import Derived.ChangeKeysEq
import Derived.Laws.StructEq
namespace Go.Proofs.Ytbbcckopkbiojaa
open Go.RowKit
/-- n integers of a kind as values -/
def Ks (k : IntKind) (n : Nat) (z : Nat → Int) : List Value := (List.range n).map fun i => .int k (z i)
theorem Ks_length (k : IntKind) (n : Nat) (z : Nat → Int) : (Ks k n z).length = n := by simp [Ks]
theorem Ks_get (k : IntKind) (n : Nat) (z : Nat → Int) (i : Nat) (h : i < n) : (Ks k n z)[i]? = some (.int k (z i)) := by simp [Ks, h]
theorem Bs_eq (n : Nat) (z : Nat → Int) : Bs n z = Ks .u8 n z := rfl

theorem allRange (z y : Nat → Int) (n : Nat) : ((List.range n).all fun i => z i == y i) = eqB z y n := by
  rw [Bool.eq_iff_iff, eqB_iff, List.all_eq_true]
  simp
theorem run_equalIn_ints {P : Program} (w : World) (d : Nat) {t e : TypeId} {n : Nat} {i : TypeInfo} {k : IntKind} (hu : P.underlying t = some (.array n e)) (hi : P.info? e = some i) (he : P.underlying e = some (.int k)) (hce : P.cellsOf e = 1)
    (z y : Nat → Int) : (Op.equalIn (d + 2) t (.agg (Ks k n z).toArray) (.agg (Ks k n y).toArray)).run P w = .ok (eqB z y n) w := by
  rw [show d + 2 = (d + 1) + 1 from rfl, run_equalIn_array w (d + 1) _ _ hu hi, hce, ← allRange z y n]
  have hl : ∀ j ∈ List.range n, j < n := fun j hj => by simpa using hj
  generalize List.range n = l at hl ⊢
  induction l with
  | nil => simp [Op.eqItems]
  | cons j l ih =>
    have hj : j < n := hl j (by simp)
    have px : ∀ u : Nat → Int, (part e (Ks k n u).toArray (j * 1)).run P w = .ok (.int k (u j)) w := fun u => by
      simp [part, isAgg, run_underlying he, Ks_get k n u j hj]
    simp only [Op.eqItems, Sem.run_bind, px, Result.andThen_ok, run_equalIn_int w d e k k _ _ he, List.all_cons]
    cases hb : (z j == y j)
    · simp
    · simp only [Bool.true_and]
      simp only [Bool.not_true, Bool.false_eq_true, if_false]
      first | exact ih (fun j hj => hl j (by simp [hj])) | (simp; exact ih (fun j hj => hl j (by simp [hj])))
theorem run_eql_ints {P : Program} (w : World) {t e : TypeId} {n : Nat} {i : TypeInfo} {k : IntKind} (hu : P.underlying t = some (.array n e)) (hi : P.info? e = some i) (he : P.underlying e = some (.int k)) (hce : P.cellsOf e = 1)
    (z y : Nat → Int) : (binOp .eql t (.agg (Ks k n z).toArray) (.agg (Ks k n y).toArray)).run P w = .ok (.bool (eqB z y n)) w := by
  rw [run_eql_struct, show (10000 : Nat) = 9998 + 2 from rfl, run_equalIn_ints w 9998 hu hi he hce z y]; rfl
theorem run_neq_ints {P : Program} (w : World) {t e : TypeId} {n : Nat} {i : TypeInfo} {k : IntKind} (hu : P.underlying t = some (.array n e)) (hi : P.info? e = some i) (he : P.underlying e = some (.int k)) (hce : P.cellsOf e = 1)
    (z y : Nat → Int) : (binOp .neq t (.agg (Ks k n z).toArray) (.agg (Ks k n y).toArray)).run P w = .ok (.bool (!eqB z y n)) w := by
  rw [run_neq_struct, show (10000 : Nat) = 9998 + 2 from rfl, run_equalIn_ints w 9998 hu hi he hce z y]; rfl
end Go.Proofs.Ytbbcckopkbiojaa
