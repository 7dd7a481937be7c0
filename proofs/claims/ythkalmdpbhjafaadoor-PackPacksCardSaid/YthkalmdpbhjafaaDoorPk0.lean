/- Transactions and their blocks, plainly. -/
import Derived.Test.YthkalmdpbhjafaaDoorJb9
import Derived.Test.YthkalmdpbhjafaaDoorMg1
import Derived.Test.YthkalmdpbhjafaaDoorMg1
import Derived.Test.YthkalmdpbhjafaaDoorSizes
namespace Go.Proofs.YthkalmdpbhjafaaDoor
open Go.RowKit
set_option linter.unusedVariables false

/-- a transaction, plainly: its number; n copies: their blocks, their bytes; m revoked blocks -/
structure Tr where
  s : Int
  n : Nat
  cb : Nat → Int
  cd : Nat → Nat → Int
  m : Nat
  rv : Nat → Int
/-- its numbers fit their kinds -/
structure Tr.Ok (t : Tr) : Prop where
  s : 0 ≤ t.s ∧ t.s < 4294967296
  cb : ∀ i, -9223372036854775808 ≤ t.cb i ∧ t.cb i ≤ 9223372036854775807
  cd : ∀ i, Byt (t.cd i)
  rv : ∀ i, -9223372036854775808 ≤ t.rv i ∧ t.rv i ≤ 9223372036854775807
  n : (t.n : Int) ≤ 9223372036854775807
  m : (t.m : Int) ≤ 9223372036854775807
  cb0 : ∀ i, t.n ≤ i → t.cb i = 0
  rv0 : ∀ i, t.m ≤ i → t.rv i = 0
/-- numbers of blocks that rise -/
def riseT (b : Nat → Int) : Nat → Bool
  | 0 => true
  | i + 1 => riseT b i && (decide ((if i = 0 then -1 else b (i - 1)) < b i) && decide (b i < 2048))
theorem riseT_succ (b : Nat → Int) (i : Nat) : riseT b (i + 1) = (riseT b i && (decide ((if i = 0 then -1 else b (i - 1)) < b i) && decide (b i < 2048))) := rfl
theorem riseT_iff (b : Nat → Int) (n : Nat) : riseT b n = true ↔ ∀ i, i < n → (if i = 0 then -1 else b (i - 1)) < b i ∧ b i < 2048 := by
  induction n with
  | zero => simp [riseT]
  | succ n ih =>
    rw [riseT_succ, Bool.and_eq_true, Bool.and_eq_true, ih, decide_eq_true_eq, decide_eq_true_eq]
    constructor
    · rintro ⟨h, g⟩ i hi
      by_cases e : i = n
      · subst e; exact g
      · exact h i (by omega)
    · intro h; exact ⟨fun i hi => h i (by omega), h n (by omega)⟩
theorem riseT_bd {b : Nat → Int} {n : Nat} (h : riseT b n = true) : ∀ i, i < n → (i : Int) ≤ b i ∧ b i < 2048 := by
  have h' := (riseT_iff b n).1 h
  intro i
  induction i with
  | zero => intro hi; have := h' 0 hi; rw [if_pos rfl] at this; omega
  | succ i ih =>
    intro hi
    have h1 := h' (i + 1) hi
    rw [if_neg (by omega), Nat.add_sub_cancel] at h1
    have h2 := ih (by omega)
    omega
theorem riseT_no {b : Nat → Int} {n i : Nat} (hi : i < n) (h : ¬ ((if i = 0 then -1 else b (i - 1)) < b i ∧ b i < 2048)) : riseT b n = false := by
  cases e : riseT b n with
  | false => rfl
  | true => exact absurd ((riseT_iff b n).1 e i hi) h
theorem riseT_len {b : Nat → Int} {n : Nat} (h : riseT b n = true) : n ≤ 2048 := by
  cases n with
  | zero => omega
  | succ n => have := riseT_bd h n (by omega); omega
/-- may it be a transaction? -/
def mayT (s : Int) (n : Nat) (cb : Nat → Int) (m : Nat) (rv : Nat → Int) : Bool := seqB s && (decide (0 < n + m) && (riseT cb n && riseT rv m))
def Tr.may (t : Tr) : Bool := mayT t.s t.n t.cb t.m t.rv
theorem Tr.may_iff (t : Tr) : t.may = true ↔ seqB t.s = true ∧ 0 < t.n + t.m ∧ riseT t.cb t.n = true ∧ riseT t.rv t.m = true := by
  unfold Tr.may mayT; rw [Bool.and_eq_true, Bool.and_eq_true, Bool.and_eq_true, decide_eq_true_eq]
/-- how many blocks the copies have; how many the revoked ones; how many stand ahead of the commit -/
def dN (n : Nat) : Nat := n + (n + 29) / 30
def rN (m : Nat) : Nat := (m + 59) / 60
def Tr.c (t : Tr) : Nat := dN t.n + rN t.m
theorem dN_row (n r : Nat) : dN n = min (31 * r) (dN n) + dN (n - 30 * r) := by
  unfold dN
  by_cases h : 30 * r ≤ n
  · rw [Nat.min_eq_left (by omega)]; omega
  · rw [Nat.min_eq_right (by omega)]; omega
/-- the blocks ahead of the commit -/
def pk0 (t : Tr) (i : Nat) : Nat → Int :=
  if i < dN t.n then
    if i % 31 = 0 then descZ t.s (min 30 (t.n - 30 * (i / 31))) (fun k => t.cb (30 * (i / 31) + k)) (fun k => escB (t.cd (30 * (i / 31) + k)))
    else escZ (t.cd (30 * (i / 31) + (i % 31 - 1)))
  else revZ t.s (min 60 (t.m - 60 * (i - dN t.n))) (fun k => t.rv (60 * (i - dN t.n) + k))
/-- the sum over so many blocks -/
def crcB (B : Nat → Nat → Int) (k : Nat) : Int := ((4294967295 - foldP 4294967295 (fun _ => 256) B k : Nat) : Int)
def pkB (t : Tr) (i : Nat) : Nat → Int := if i < t.c then pk0 t i else commitZ t.s t.c (crcB (pk0 t) t.c)
def Tr.size (t : Tr) : Int := sizeOf t.n t.m
def packE (t : Tr) : Int := if t.may then (if t.size ≤ 255 then 0 else 4) else 150
theorem size_c {t : Tr} (h : t.may = true) : t.size = t.c + 1 := by
  obtain ⟨_, h1, h2, h3⟩ := t.may_iff.1 h
  have := riseT_len h2
  have := riseT_len h3
  unfold Tr.size sizeOf Tr.c dN rN
  rw [if_neg (by omega)]
  omega

/-- a copy's cells; rows of copies, of blocks, of numbers -/
abbrev cpc (b : Int) (z : Nat → Int) : List Value := .int .i64 b :: Ks .u8 256 z
def cpF (cb : Nat → Int) (cd : Nat → Nat → Int) (i : Nat) : List Value := cpc (cb i) (cd i)
def bkF (B : Nat → Nat → Int) (i : Nat) : List Value := Ks .u8 256 (B i)
def inF (b : Nat → Int) (i : Nat) : List Value := [.int .i64 (b i)]
theorem cpc_len (b : Int) (z : Nat → Int) : (cpc b z).length = 257 := by simp [Ks]
theorem cpF_len (cb : Nat → Int) (cd : Nat → Nat → Int) (i : Nat) : (cpF cb cd i).length = 257 := cpc_len _ _
theorem bkF_len (B : Nat → Nat → Int) (i : Nat) : (bkF B i).length = 256 := by simp [bkF, Ks]
theorem inF_len (b : Nat → Int) (i : Nat) : (inF b i).length = 1 := rfl
theorem Ks_oneL (k : IntKind) (n : Nat) (z : Nat → Int) : ∀ v ∈ Ks k n z, v.oneCell' = true := by
  intro v hv
  unfold Ks at hv
  obtain ⟨i, _, rfl⟩ := List.mem_map.1 hv
  rfl
theorem bkF_one (B : Nat → Nat → Int) (i : Nat) : ∀ v ∈ bkF B i, v.oneCell' = true := Ks_oneL _ _ _
theorem cpF_one (cb : Nat → Int) (cd : Nat → Nat → Int) (i : Nat) : ∀ v ∈ cpF cb cd i, v.oneCell' = true := by
  intro v hv
  rcases List.mem_cons.1 hv with rfl | hv
  · rfl
  · exact Ks_oneL _ _ _ v hv
abbrev tval (s : Int) (ca : Option Addr) (n cc : Nat) (ra : Option Addr) (m rc : Nat) : Value := .agg #[.int .u32 s, .slice ca n cc, .slice ra m rc]
abbrev tcells (s : Int) (ca : Option Addr) (n cc : Nat) (ra : Option Addr) (m rc : Nat) : Array Value := #[.int .u32 s, .slice ca n cc, .slice ra m rc]
theorem RSeg.alloc {w : World} {b off m n : Nat} {f : Nat → List Value} (h : RSeg w b off m n f) (o : Obj) : RSeg (w.alloc o) b off m n f := fun i hi j v hv => by
  have h1 := h i hi j v hv
  have := World.block_lt_of_cell? w _ h1
  rw [World.cell?_of_block (w := w) (Below.heap_alloc w o b this)]; exact h1
theorem RRow.alloc {w : World} {a : Option Addr} {m n : Nat} {f : Nat → List Value} (h : RRow w a m n f) (o : Obj) : RRow (w.alloc o) a m n f := by
  rcases h with h | ⟨b, off, rfl, h⟩
  · exact .inl h
  · exact .inr ⟨b, off, rfl, h.alloc o⟩
theorem RRow.drew {w : World} {a : Option Addr} {m n : Nat} {f : Nat → List Value} (h : RRow w a m n f) : RRow w.drew a m n f := h
end Go.Proofs.YthkalmdpbhjafaaDoor
