/- '==' of superblocks and descriptors; quernref06.Same. -/
import Derived.Test.YtcannphglobngaaDoorU6e
import Derived.Test.YtcannphglobngaaDoorMg0
namespace Go.Proofs.YtcannphglobngaaDoor
open Go.RowKit
set_option linter.unusedVariables false

theorem neq_of_eql {P : Program} {t : TypeId} {x y : Array Value} {B : Bool} {w : World} (h : (binOp .eql t (.agg x) (.agg y)).run P w = .ok (.bool B) w) : (binOp .neq t (.agg x) (.agg y)).run P w = .ok (.bool (!B)) w := by
  rw [run_eql_struct] at h
  rw [run_neq_struct]
  generalize (Op.equalIn 10000 t (.agg x) (.agg y)).run P w = r at *
  cases r with
  | ok b w' => simp at h ⊢; exact ⟨by rw [h.1], h.2⟩
  | halt e w' => simp at h
def eqD (a b c a' b' c' : Int) : Bool := a == a' && (b == b' && c == c')
theorem run_eql_desc (a b c a' b' c' : Int) (w : World) : (binOp .eql 50 (dval a b c) (dval a' b' c')).run Tryd.prog w = .ok (.bool (eqD a b c a' b' c')) w := by
  have hS : Tryd.prog.underlying 50 = some (.struct (Tryd.prog.fieldsOf 50)) := by kernel_rfl
  have hp : Tryd.prog.stoodInHeld 50 = false := by kernel_rfl
  rw [run_eql_struct, show (10000 : Nat) = 9999 + 1 from rfl, run_equalIn_agg w 9999 _ _ _ hS hp]
  simp only [Program.fieldsOf, Tryd.underlying50]
  clear hS hp
  go_simp
  unfold eqD
  by_cases h1 : a = a' <;> by_cases h2 : b = b' <;> by_cases h3 : c = c' <;> simp [h1, h2, h3]
theorem run_neq_desc (a b c a' b' c' : Int) (w : World) : (binOp .neq 50 (dval a b c) (dval a' b' c')).run Tryd.prog w = .ok (.bool (!eqD a b c a' b' c')) w := neq_of_eql (run_eql_desc a b c a' b' c' w)
def eqG (G S I J G' S' I' J' : Int) : Bool := G == G' && (S == S' && (I == I' && J == J'))
def eqS (G S I J O G' S' I' J' O' : Int) : Bool := eqG G S I J G' S' I' J' && O == O'
theorem run_eql_super (G S I J O G' S' I' J' O' : Int) (w : World) : (binOp .eql 42 (sval G S I J O) (sval G' S' I' J' O')).run Tryd.prog w = .ok (.bool (eqS G S I J O G' S' I' J' O')) w := by
  have hS : Tryd.prog.underlying 42 = some (.struct (Tryd.prog.fieldsOf 42)) := by kernel_rfl
  have hp : Tryd.prog.stoodInHeld 42 = false := by kernel_rfl
  have hS2 : Tryd.prog.underlying 23 = some (.struct (Tryd.prog.fieldsOf 23)) := by kernel_rfl
  have hp2 : Tryd.prog.stoodInHeld 23 = false := by kernel_rfl
  have hG : ∀ w, (Op.equalIn 9999 23 (gval G S I J) (gval G' S' I' J')).run Tryd.prog w = .ok (eqG G S I J G' S' I' J') w := fun w => by
    rw [show (9999 : Nat) = 9998 + 1 from rfl, run_equalIn_agg w 9998 _ _ _ hS2 hp2]
    simp only [Program.fieldsOf, Tryd.underlying23]
    go_simp
    unfold eqG
    by_cases h1 : G = G' <;> by_cases h2 : S = S' <;> by_cases h3 : I = I' <;> by_cases h4 : J = J' <;> simp [h1, h2, h3, h4]
  rw [run_eql_struct, show (10000 : Nat) = 9999 + 1 from rfl, run_equalIn_agg w 9999 _ _ _ hS hp]
  simp only [Program.fieldsOf, Tryd.underlying42]
  clear hS hp hS2 hp2
  go_simp
  unfold eqS
  cases eqG G S I J G' S' I' J' <;> by_cases h : O = O' <;> simp [h]
theorem run_neq_super (G S I J O G' S' I' J' O' : Int) (w : World) : (binOp .neq 42 (sval G S I J O) (sval G' S' I' J' O')).run Tryd.prog w = .ok (.bool (!eqS G S I J O G' S' I' J' O')) w := neq_of_eql (run_eql_super G S I J O G' S' I' J' O' w)
theorem eqD_iff {a b c a' b' c' : Int} : eqD a b c a' b' c' = true ↔ a = a' ∧ b = b' ∧ c = c' := by unfold eqD; simp
theorem eqS_iff {G S I J O G' S' I' J' O' : Int} : eqS G S I J O G' S' I' J' O' = true ↔ G = G' ∧ S = S' ∧ I = I' ∧ J = J' ∧ O = O' := by unfold eqS eqG; simp [and_assoc]

/-- are descriptors the same? -/
def sameD (n n' : Nat) (b i d b' i' d' : Nat → Int) : Bool := decide (n = n') && allB (fun k => eqD (b k) (i k) (d k) (b' k) (i' k) (d' k)) n
theorem sameD_iff {n n' : Nat} {b i d b' i' d' : Nat → Int} : sameD n n' b i d b' i' d' = true ↔ n = n' ∧ ∀ k, k < n → b k = b' k ∧ i k = i' k ∧ d k = d' k := by
  unfold sameD
  rw [Bool.and_eq_true, decide_eq_true_eq, allB_iff]
  constructor
  · rintro ⟨h1, h2⟩; exact ⟨h1, fun k hk => eqD_iff.1 (h2 k hk)⟩
  · rintro ⟨h1, h2⟩; exact ⟨h1, fun k hk => eqD_iff.2 (h2 k hk)⟩
structure TwoD (w : World) (x y : Addr) (cs cs' : List Value) (W : World) : Prop where
  s : W.rangeAt x.block x.off cs
  s' : W.rangeAt y.block y.off cs'
  d : ∃ m, W = w.drewN m
end Go.Proofs.YtcannphglobngaaDoor
