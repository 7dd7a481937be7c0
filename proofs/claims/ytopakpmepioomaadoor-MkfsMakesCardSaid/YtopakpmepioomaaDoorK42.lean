/- Texts of this claim, merged by a program (a claim may have 60 files): Sizes, Pk0, Pk2, Pk3. -/
import Derived.Test.YtopakpmepioomaaDoorRows
import Derived.Test.YtopakpmepioomaaDoorK01
import Derived.WalkKit
import Derived.ProofKit
import Derived.OpenShut
import Derived.Outline
import Derived.Lib.Hide
import Derived.Test.YtopakpmepioomaaDoorK39
import Derived.Test.YtopakpmepioomaaDoorK02
import Derived.Test.YtopakpmepioomaaDoorK15
import Derived.Deep.DeepAppendRoom
/- Contracts of pack.Size and quernref15.Size: both answer the same number for any two integers. Conditions: none. -/
namespace Go.Proofs.YtopakpmepioomaaDoor
open Go.RowKit

def sizeOf (c r : Int) : Int :=
  if c < 0 ∨ r < 0 ∨ 2048 < c ∨ 2048 < r ∨ (c = 0 ∧ r = 0) then 0 else c + (c + 29) / 30 + (r + 59) / 60 + 1

end Go.Proofs.YtopakpmepioomaaDoor

/- Transactions and their blocks, plainly. -/
namespace Go.Proofs.YtopakpmepioomaaDoor
open Go.RowKit
set_option linter.unusedVariables false

/-- a transaction, plainly: its number; n copies: their blocks, their bytes; m revoked blocks -/
structure Tr where
  s : Int
  n : Nat
  cb : Nat → Int
  cd : Nat → Nat → Int
  m : Nat
  rv : Nat → Int
/-- its numbers fit their kinds -/
structure Tr.Ok (t : Tr) : Prop where
  s : 0 ≤ t.s ∧ t.s < 4294967296
  cb : ∀ i, -9223372036854775808 ≤ t.cb i ∧ t.cb i ≤ 9223372036854775807
  cd : ∀ i, Byt (t.cd i)
  rv : ∀ i, -9223372036854775808 ≤ t.rv i ∧ t.rv i ≤ 9223372036854775807
  n : (t.n : Int) ≤ 9223372036854775807
  m : (t.m : Int) ≤ 9223372036854775807
  cb0 : ∀ i, t.n ≤ i → t.cb i = 0
  rv0 : ∀ i, t.m ≤ i → t.rv i = 0
/-- numbers of blocks that rise -/
def riseT (b : Nat → Int) : Nat → Bool
  | 0 => true
  | i + 1 => riseT b i && (decide ((if i = 0 then -1 else b (i - 1)) < b i) && decide (b i < 2048))
theorem riseT_succ (b : Nat → Int) (i : Nat) : riseT b (i + 1) = (riseT b i && (decide ((if i = 0 then -1 else b (i - 1)) < b i) && decide (b i < 2048))) := rfl
theorem riseT_iff (b : Nat → Int) (n : Nat) : riseT b n = true ↔ ∀ i, i < n → (if i = 0 then -1 else b (i - 1)) < b i ∧ b i < 2048 := by
  induction n with
  | zero => simp [riseT]
  | succ n ih =>
    rw [riseT_succ, Bool.and_eq_true, Bool.and_eq_true, ih, decide_eq_true_eq, decide_eq_true_eq]
    constructor
    · rintro ⟨h, g⟩ i hi
      by_cases e : i = n
      · subst e; exact g
      · exact h i (by omega)
    · intro h; exact ⟨fun i hi => h i (by omega), h n (by omega)⟩
theorem riseT_bd {b : Nat → Int} {n : Nat} (h : riseT b n = true) : ∀ i, i < n → (i : Int) ≤ b i ∧ b i < 2048 := by
  have h' := (riseT_iff b n).1 h
  intro i
  induction i with
  | zero => intro hi; have := h' 0 hi; rw [if_pos rfl] at this; omega
  | succ i ih =>
    intro hi
    have h1 := h' (i + 1) hi
    rw [if_neg (by omega), Nat.add_sub_cancel] at h1
    have h2 := ih (by omega)
    omega
theorem riseT_no {b : Nat → Int} {n i : Nat} (hi : i < n) (h : ¬ ((if i = 0 then -1 else b (i - 1)) < b i ∧ b i < 2048)) : riseT b n = false := by
  cases e : riseT b n with
  | false => rfl
  | true => exact absurd ((riseT_iff b n).1 e i hi) h
theorem riseT_len {b : Nat → Int} {n : Nat} (h : riseT b n = true) : n ≤ 2048 := by
  cases n with
  | zero => omega
  | succ n => have := riseT_bd h n (by omega); omega
/-- may it be a transaction? -/
def mayT (s : Int) (n : Nat) (cb : Nat → Int) (m : Nat) (rv : Nat → Int) : Bool := seqB s && (decide (0 < n + m) && (riseT cb n && riseT rv m))
def Tr.may (t : Tr) : Bool := mayT t.s t.n t.cb t.m t.rv
theorem Tr.may_iff (t : Tr) : t.may = true ↔ seqB t.s = true ∧ 0 < t.n + t.m ∧ riseT t.cb t.n = true ∧ riseT t.rv t.m = true := by
  unfold Tr.may mayT; rw [Bool.and_eq_true, Bool.and_eq_true, Bool.and_eq_true, decide_eq_true_eq]
/-- how many blocks the copies have; how many the revoked ones; how many stand ahead of the commit -/
def dN (n : Nat) : Nat := n + (n + 29) / 30
def rN (m : Nat) : Nat := (m + 59) / 60
def Tr.c (t : Tr) : Nat := dN t.n + rN t.m
theorem dN_row (n r : Nat) : dN n = min (31 * r) (dN n) + dN (n - 30 * r) := by
  unfold dN
  by_cases h : 30 * r ≤ n
  · rw [Nat.min_eq_left (by omega)]; omega
  · rw [Nat.min_eq_right (by omega)]; omega
/-- the blocks ahead of the commit -/
def pk0 (t : Tr) (i : Nat) : Nat → Int :=
  if i < dN t.n then
    if i % 31 = 0 then jdZ t.s (min 30 (t.n - 30 * (i / 31))) (fun k => t.cb (30 * (i / 31) + k)) (fun k => escB (t.cd (30 * (i / 31) + k)))
    else escZ (t.cd (30 * (i / 31) + (i % 31 - 1)))
  else revZ t.s (min 60 (t.m - 60 * (i - dN t.n))) (fun k => t.rv (60 * (i - dN t.n) + k))
/-- the sum over so many blocks -/
def crcB (B : Nat → Nat → Int) (k : Nat) : Int := ((4294967295 - foldP 4294967295 (fun _ => 256) B k : Nat) : Int)
def pkB (t : Tr) (i : Nat) : Nat → Int := if i < t.c then pk0 t i else commitZ t.s t.c (crcB (pk0 t) t.c)
def Tr.size (t : Tr) : Int := sizeOf t.n t.m
def packE (t : Tr) : Int := if t.may then (if t.size ≤ 255 then 0 else 4) else 150
theorem size_c {t : Tr} (h : t.may = true) : t.size = t.c + 1 := by
  obtain ⟨_, h1, h2, h3⟩ := t.may_iff.1 h
  have := riseT_len h2
  have := riseT_len h3
  unfold Tr.size sizeOf Tr.c dN rN
  rw [if_neg (by omega)]
  omega

/-- a copy's cells; rows of copies, of blocks, of numbers -/
abbrev cpc (b : Int) (z : Nat → Int) : List Value := .int .i64 b :: Ks .u8 256 z
def cpF (cb : Nat → Int) (cd : Nat → Nat → Int) (i : Nat) : List Value := cpc (cb i) (cd i)
def bkF (B : Nat → Nat → Int) (i : Nat) : List Value := Ks .u8 256 (B i)
def inF (b : Nat → Int) (i : Nat) : List Value := [.int .i64 (b i)]
theorem cpc_len (b : Int) (z : Nat → Int) : (cpc b z).length = 257 := by simp [Ks]
theorem cpF_len (cb : Nat → Int) (cd : Nat → Nat → Int) (i : Nat) : (cpF cb cd i).length = 257 := cpc_len _ _
theorem bkF_len (B : Nat → Nat → Int) (i : Nat) : (bkF B i).length = 256 := by simp [bkF, Ks]
theorem inF_len (b : Nat → Int) (i : Nat) : (inF b i).length = 1 := rfl
theorem Ks_oneL (k : IntKind) (n : Nat) (z : Nat → Int) : ∀ v ∈ Ks k n z, v.oneCell' = true := by
  intro v hv
  unfold Ks at hv
  obtain ⟨i, _, rfl⟩ := List.mem_map.1 hv
  rfl
theorem bkF_one (B : Nat → Nat → Int) (i : Nat) : ∀ v ∈ bkF B i, v.oneCell' = true := Ks_oneL _ _ _
theorem cpF_one (cb : Nat → Int) (cd : Nat → Nat → Int) (i : Nat) : ∀ v ∈ cpF cb cd i, v.oneCell' = true := by
  intro v hv
  rcases List.mem_cons.1 hv with rfl | hv
  · rfl
  · exact Ks_oneL _ _ _ v hv
abbrev tval (s : Int) (ca : Option Addr) (n cc : Nat) (ra : Option Addr) (m rc : Nat) : Value := .agg #[.int .u32 s, .slice ca n cc, .slice ra m rc]
abbrev tcells (s : Int) (ca : Option Addr) (n cc : Nat) (ra : Option Addr) (m rc : Nat) : Array Value := #[.int .u32 s, .slice ca n cc, .slice ra m rc]
theorem RSeg.alloc {w : World} {b off m n : Nat} {f : Nat → List Value} (h : RSeg w b off m n f) (o : Obj) : RSeg (w.alloc o) b off m n f := fun i hi j v hv => by
  have h1 := h i hi j v hv
  have := World.block_lt_of_cell? w _ h1
  rw [World.cell?_of_block (w := w) (Below.heap_alloc w o b this)]; exact h1
theorem RRow.alloc {w : World} {a : Option Addr} {m n : Nat} {f : Nat → List Value} (h : RRow w a m n f) (o : Obj) : RRow (w.alloc o) a m n f := by
  rcases h with h | ⟨b, off, rfl, h⟩
  · exact .inl h
  · exact .inr ⟨b, off, rfl, h.alloc o⟩
theorem RRow.drew {w : World} {a : Option Addr} {m n : Nat} {f : Nat → List Value} (h : RRow w a m n f) : RRow w.drew a m n f := h
end Go.Proofs.YtopakpmepioomaaDoor

/- pack.withRevokes, pack.withCommit. -/
namespace Go.Proofs.YtopakpmepioomaaDoor
open Go.RowKit
set_option linter.unusedVariables false

/-- a slice of blocks in an array of one's own, with room -/
def BOwn (W : World) (q N cap : Nat) (B : Nat → Nat → Int) : Prop := W.ownsRow 0 32 256 (.slice (some ⟨q, 0, none⟩) N cap) N (Cs (bkF B) N)
theorem BOwn.kept {W W' : World} {q N cap : Nat} {B : Nat → Nat → Int} {row : Option Nat} (h : BOwn W q N cap B) (hg : W.grownBy W' row) (hne : row ≠ some q) : BOwn W' q N cap B :=
  World.ownsRow.kept h hg (.inr (fun e => hne e.symm))
theorem BOwn.lt {W : World} {q N cap : Nat} {B : Nat → Nat → Int} (h : BOwn W q N cap B) : q < W.heap.size := by
  rcases h.2 with ⟨hv, _⟩ | ⟨g, cap', cur, hv, _, hg, _⟩
  · cases hv
  · cases hv; exact (Array.getElem?_eq_some_iff.1 hg).1
theorem BOwn.below {W W' : World} {q N cap : Nat} {B : Nat → Nat → Int} (h : BOwn W q N cap B) (hb : Below W.heap.size W W') : BOwn W' q N cap B :=
  h.kept (grown_below (row := none) hb) (fun e => by cases e)
theorem BOwn.congr {W : World} {q N cap : Nat} {B B' : Nat → Nat → Int} (h : BOwn W q N cap B) (e : ∀ i, i < N → ∀ k, k < 256 → B i k = B' i k) : BOwn W q N cap B' := by
  unfold BOwn
  rw [← Cs_congr (f := bkF B) (g := bkF B') (n := N) fun i hi => Ks_congr fun k hk => e i hi k hk]
  exact h
theorem BOwn.seg {W : World} {q N cap : Nat} {B : Nat → Nat → Int} (h : BOwn W q N cap B) : RSeg W q 0 256 N (bkF B) := RMine.seg (base := 0) (e := 32) (m := 256) (cap := cap) h (bkF_len B)
theorem BOwn.le {W : World} {q N cap : Nat} {B : Nat → Nat → Int} (h : BOwn W q N cap B) : N ≤ cap ∧ cap ≤ maxLen := by
  rcases h.2 with ⟨hv, _⟩ | ⟨g, cap', cur, hv, _, hg, h1, h2, _⟩
  · cases hv
  · cases hv; exact ⟨h1, h2⟩
theorem BOwn.snoc {W : World} {q N cap : Nat} {B : Nat → Nat → Int} {z : Nat → Int} (h : W.ownsRow 0 32 256 (.slice (some ⟨q, 0, none⟩) (N + 1) cap) (N + 1) (Cs (bkF B) N ++ Ks .u8 256 z)) : BOwn W q (N + 1) cap (fun i => if i < N then B i else z) := by
  unfold BOwn
  rw [Cs_succ, Cs_congr (f := bkF fun i => if i < N then B i else z) (g := bkF B) (n := N) (fun i hi => by show Ks _ _ (if i < N then B i else z) = _; rw [if_pos hi]; rfl)]
  rw [show bkF (fun i => if i < N then B i else z) N = Ks .u8 256 z by show Ks _ _ (if N < N then B N else z) = _; rw [if_neg (Nat.lt_irrefl _)]]
  exact h
theorem news_block {W : World} {z : Nat → Int} : ∀ (j : Nat) (u : Value), (Ks .u8 256 z)[j]? = some u → (W.alloc (.cells (Ks .u8 256 z).toArray 32)).cell? ((⟨W.heap.size, 0, none⟩ : Addr).add j) = some u := fun j u hj => by
  rw [addr_add, Nat.zero_add]
  exact cell_of_heap (heap_alloc_new W _) (by simpa using hj)
/-- blocks and one more -/
def snocB (B : Nat → Nat → Int) (N : Nat) (z : Nat → Int) (i : Nat) : Nat → Int := if i < N then B i else z
theorem run_block1 (z : Nat → Int) (W : World) : (Instr.buildSlice 24 1 #[(0, bval z)]).run Tryd.prog W = .ok (.slice (some ⟨W.heap.size, 0, none⟩) 1 1) (W.alloc (.cells (Ks .u8 256 z).toArray 32)) := by kernel_rfl
theorem info_blk3 : (Tryd.prog.info? 32).map (fun i => (i.zero, i.size, i.bytes)) = some (some (bval fun _ => 0), 256, 256) := by kernel_rfl
theorem info_blkS : ∃ i, Tryd.prog.info? 32 = some i ∧ i.size = 256 := by
  obtain ⟨i, hi, hz⟩ := Option.map_eq_some_iff.1 info_blk3
  simp only [Prod.mk.injEq] at hz
  exact ⟨i, hi, hz.2.1⟩
theorem run_num32 (n : Nat) (hn : n ≤ 2048) (W : World) : (Instr.makeSlice 109 (.int .i64 (n : Int)) (.int .i64 (n : Int))).run Tryd.prog W = .ok (.slice (some ⟨W.heap.size, 0, none⟩) n n) (W.alloc (.cells (madeCells #[.int .u32 0] n) 40)) := by
  have := run_mkrow (P := Tryd.prog) 109 40 (.int .u32 0) 1 4 Tryd.underlying109 info_u32 .i64 .i64 n (by omega) (by omega) W
  rwa [Nat.mul_one] at this
/-- rows made so far -/
def mixN (rv : Nat → Int) (k i : Nat) : List Value := if i < k then [.int .u32 (rv i)] else [.int .u32 0]
theorem mixN_len (rv : Nat → Int) (k i : Nat) : (mixN rv k i).length = 1 := by unfold mixN; split <;> rfl
structure WrS (w : World) (q N cap : Nat) (B : Nat → Nat → Int) (ra : Option Addr) (m : Nat) (rv : Nat → Int) (p : Nat) (k : Nat) (W : World) : Prop where
  b : BOwn W q N cap B
  r : RRow W ra 1 m (inF rv)
  a : RArr W p 40 1 m (mixN rv k)
  bel : Below w.heap.size w W

end Go.Proofs.YtopakpmepioomaaDoor

/- pack.withCommit. -/
namespace Go.Proofs.YtopakpmepioomaaDoor
open Go.RowKit
set_option linter.unusedVariables false

theorem crcB_bd (B : Nat → Nat → Int) (k : Nat) : 0 ≤ crcB B k ∧ crcB B k < 4294967296 := by unfold crcB; omega
theorem Tab.kept {w w' : World} (h : Tab w) {row : Option Nat} (hb : w.grownBy w' row) (hg : row ≠ some 0) : Tab w' := fun i hi => (World.cell?_of_block (w := w) (hb.block _ h.lt (fun e => hg e.symm))).trans (h i hi)
theorem run_pieces (n : Nat) (hn : n ≤ 2048) (W : World) : (Instr.makeSlice 153 (.int .i64 (n : Int)) (.int .i64 (n : Int))).run Tryd.prog W = .ok (.slice (some ⟨W.heap.size, 0, none⟩) n n) (W.alloc (.cells (madeCells #[.slice none 0 0] n) 102)) := by
  have := run_mkrow (P := Tryd.prog) 153 102 (.slice none 0 0) 1 24 Tryd.underlying153 (by kernel_rfl) .i64 .i64 n (by omega) (by omega) W
  rwa [Nat.mul_one] at this
def mixP (q k i : Nat) : List Value := if i < k then [.slice (some ⟨q, i * 256, none⟩) 256 256] else [.slice none 0 0]
theorem mixP_len (q k i : Nat) : (mixP q k i).length = 1 := by unfold mixP; split <;> rfl
structure WcS (w : World) (q N cap : Nat) (B : Nat → Nat → Int) (p : Nat) (k : Nat) (W : World) : Prop where
  b : BOwn W q N cap B
  a : RArr W p 102 1 N (mixP q k)
  t : Tab W
  bel : Below w.heap.size w W

end Go.Proofs.YtopakpmepioomaaDoor
