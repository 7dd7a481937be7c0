/- Texts of this claim, merged by a program (a claim may have 60 files): Same9, Jb8, Jb9, Sizes, Pk0, Pk1, Pk2, Pk3, Pk4, Pk6, Pk8, Pk7, R9a, R9f, R9h, R9i, R9j, R9b, R9c, R9k, R9l. -/
import Derived.Test.YtnbmmhoofilmfaaDoorK19
import Derived.Test.YtnbmmhoofilmfaaDoorRows
import Derived.Test.YtnbmmhoofilmfaaDoorK01
import Derived.WalkKit
import Derived.ProofKit
import Derived.OpenShut
import Derived.Outline
import Derived.Lib.Hide
import Derived.Test.YtnbmmhoofilmfaaDoorK02
import Derived.Test.YtnbmmhoofilmfaaDoorK18
import Derived.Deep.DeepAppendRoom
import Derived.Test.YtnbmmhoofilmfaaDoorK07
/- Contract of quernref09.SameNumbers; rows of tags of one's own. -/
namespace Go.Proofs.YtnbmmhoofilmfaaDoor
open Go.RowKit
set_option linter.unusedVariables false

/-- the cells of k tags -/
def Tc (tb : Nat → Int) (te : Nat → Bool) : Nat → List Value
  | 0 => []
  | k + 1 => Tc tb te k ++ [.int .u32 (tb k), .bool (te k)]
theorem Tc_length (tb : Nat → Int) (te : Nat → Bool) (k : Nat) : (Tc tb te k).length = k * 2 := by
  induction k with
  | zero => rfl
  | succ k ih => simp [Tc, ih]; omega
theorem Tc_get (tb : Nat → Int) (te : Nat → Bool) (k i : Nat) (hi : i < k) : (Tc tb te k)[i * 2]? = some (.int .u32 (tb i)) ∧ (Tc tb te k)[i * 2 + 1]? = some (.bool (te i)) := by
  induction k with
  | zero => omega
  | succ k ih =>
    unfold Tc
    by_cases h : i < k
    · obtain ⟨h1, h2⟩ := ih h
      rw [List.getElem?_append_left (by rw [Tc_length]; omega), List.getElem?_append_left (by rw [Tc_length]; omega)]
      exact ⟨h1, h2⟩
    · obtain rfl : i = k := by omega
      rw [List.getElem?_append_right (by rw [Tc_length]; omega), List.getElem?_append_right (by rw [Tc_length]; omega), Tc_length, Nat.sub_self, show i * 2 + 1 - i * 2 = 1 by omega]
      exact ⟨rfl, rfl⟩
theorem own_tags {W : World} {base k : Nat} {e : TypeId} {v : Value} {tb : Nat → Int} {te : Nat → Bool} (h : W.ownsRow base e 2 v k (Tc tb te k)) : ∃ a cap, v = .slice a k cap ∧ TagRow W a k tb te ∧ (∀ x, a = some x → base ≤ x.block ∧ x.block < W.heap.size) ∧ k ≤ cap := by
  rcases h.2 with ⟨rfl, rfl⟩ | ⟨g, cap, cur, rfl, hb, hg, hn, hc, hs, ht⟩
  · exact ⟨none, 0, rfl, .inl rfl, (fun x hx => by cases hx), Nat.le_refl _⟩
  · refine ⟨_, cap, rfl, .inr ⟨g, 0, rfl, fun i hi => ?_⟩, (fun x hx => by cases hx; exact ⟨hb, (Array.getElem?_eq_some_iff.1 hg).1⟩), hn⟩
    obtain ⟨h1, h2⟩ := Tc_get tb te k i hi
    rw [← ht, List.getElem?_take_of_lt (by omega)] at h1 h2
    rw [Nat.zero_add]
    exact ⟨cell_of_heap hg (by simpa using h1), cell_of_heap hg (by simpa using h2)⟩
theorem NumRow.grown {w w' : World} {a : Option Addr} {n : Nat} {m : Nat → Int} {row : Option Nat} (h : NumRow w a n m) (hg : w.grownBy w' row) (hr : ∀ x, a = some x → 0 < n → some x.block ≠ row) : NumRow w' a n m := by
  rcases h with h | ⟨b, off, rfl, h⟩
  · exact .inl h
  · by_cases h0 : n = 0
    · exact .inl h0
    · refine .inr ⟨b, off, rfl, fun i hi => ?_⟩
      have hh := h i hi
      have hbl : w'.heap[b]? = w.heap[b]? := hg.block b (World.block_lt_of_cell? w _ hh) (hr _ rfl (by omega))
      exact (show w'.cell? ⟨b, off + i, none⟩ = w.cell? ⟨b, off + i, none⟩ from World.cell?_of_block (w := w) hbl).trans hh
theorem NumRow.block {w : World} {a : Option Addr} {n : Nat} {m : Nat → Int} (h : NumRow w a n m) (hn : 0 < n) : ∀ x, a = some x → x.block < w.heap.size := by
  rcases h with h | ⟨b, off, rfl, h⟩
  · omega
  · intro x hx; cases hx; exact h.lt hn
end Go.Proofs.YtnbmmhoofilmfaaDoor

/- The contract of jblock.readRows over tags, and of ReadDesc. -/
namespace Go.Proofs.YtnbmmhoofilmfaaDoor
open Go.RowKit
set_option linter.unusedVariables false

def descT (z : Nat → Int) : Nat → Int := fun i => wd z (4 + 2 * i)
def jdE (z : Nat → Int) : Nat → Bool := fun i => wd z (5 + 2 * i) == 1
/-- the first k rows are right -/
def descB (z : Nat → Int) : Nat → Bool
  | 0 => true
  | k + 1 => descB z k && (decide (wd z (5 + 2 * k) ≤ 1) && (k == 0 || decide (descT z (k - 1) < descT z k)))
def descRd (z : Nat → Int) : Bool := kindOf z == 1 && (decide (1 ≤ wd z 3 ∧ wd z 3 ≤ 30) && (descB z (rowsN z) && allZ (fun j => wd z (4 + 2 * rowsN z + j)) (60 - 2 * rowsN z)))
def DescRead (w : World) (z : Nat → Int) (e : Ending) (w' : World) : Prop :=
  Below w.heap.size w w' ∧ (descRd z = false ∧ e = .returned (.tuple #[.int .u32 0, .slice none 0 0, .int .i64 90]) ∨
    descRd z = true ∧ ∃ g cap, e = .returned (.tuple #[.int .u32 (wd z 2), .slice (some ⟨g, 0, none⟩) (rowsN z) cap, .int .i64 0]) ∧ w'.ownsRow w.heap.size 169 2 (.slice (some ⟨g, 0, none⟩) (rowsN z) cap) (rowsN z) (Tc (descT z) (jdE z) (rowsN z)))
end Go.Proofs.YtnbmmhoofilmfaaDoor

/- The contract of jblock.readRows over tags, and of ReadDesc: the walk. -/
namespace Go.Proofs.YtnbmmhoofilmfaaDoor
open Go.RowKit
set_option linter.unusedVariables false

structure RtSt (w : World) (z : Nat → Int) (g cap k : Nat) (W : World) : Prop where
  b : Blk W w.heap.size 32 256 z
  own : W.ownsRow (w.heap.size + 1) 169 2 (.slice (some ⟨g, 0, none⟩) k cap) k (Tc (descT z) (jdE z) k)
  bel : Below w.heap.size w W
theorem own_below {W W' : World} {base g cap k : Nat} {e : TypeId} {size : Nat} {xs : List Value} (h : W.ownsRow base e size (.slice (some ⟨g, 0, none⟩) k cap) k xs) (hb : Below W.heap.size W W') : W'.ownsRow base e size (.slice (some ⟨g, 0, none⟩) k cap) k xs := by
  refine ⟨h.1, ?_⟩
  rcases h.2 with h' | ⟨g', cap', cur, hv, hbb, hg, hr⟩
  · exact .inl h'
  · exact .inr ⟨g', cap', cur, hv, hbb, (hb.block _ (Array.getElem?_eq_some_iff.1 hg).1).trans hg, hr⟩
theorem RtSt.below {w W W' : World} {z : Nat → Int} {g cap k : Nat} (h : RtSt w z g cap k W) (hb : Below W.heap.size W W') : RtSt w z g cap k W' :=
  ⟨h.b.below hb h.b.lt, own_below h.own hb, h.bel.trans (hb.mono h.bel.size)⟩
structure RtV (w : World) (z : Nat → Int) (g cap k V : Nat) (W : World) : Prop extends RtSt w z g cap k W where
  v : At W V 169 #[.int .u32 (descT z k), .bool (jdE z k)]
theorem RtV.below {w W W' : World} {z : Nat → Int} {g cap k V : Nat} (h : RtV w z g cap k V W) (hb : Below W.heap.size W W') : RtV w z g cap k V W' := ⟨h.toRtSt.below hb, h.v.below hb h.v.lt⟩
theorem RtSt.seg {w W : World} {z : Nat → Int} {g cap k : Nat} (h : RtSt w z g cap k W) : TagSeg W g 0 k (descT z) (jdE z) := by
  obtain ⟨a, cp, he, ht, _⟩ := own_tags h.own
  injection he with h1 h2 h3
  rcases ht with h0 | ⟨b, off, hb, ht⟩
  · intro i hi; omega
  · rw [← h1] at hb; cases hb; exact ht

end Go.Proofs.YtnbmmhoofilmfaaDoor

/- Contracts of pack.Size and quernref15.Size: both answer the same number for any two integers. Conditions: none. -/
namespace Go.Proofs.YtnbmmhoofilmfaaDoor
open Go.RowKit

def sizeOf (c r : Int) : Int :=
  if c < 0 ∨ r < 0 ∨ 2048 < c ∨ 2048 < r ∨ (c = 0 ∧ r = 0) then 0 else c + (c + 29) / 30 + (r + 59) / 60 + 1

end Go.Proofs.YtnbmmhoofilmfaaDoor

/- Transactions and their blocks, plainly. -/
namespace Go.Proofs.YtnbmmhoofilmfaaDoor
open Go.RowKit
set_option linter.unusedVariables false

/-- a transaction, plainly: its number; n copies: their blocks, their bytes; m revoked blocks -/
structure Tr where
  s : Int
  n : Nat
  cb : Nat → Int
  cd : Nat → Nat → Int
  m : Nat
  rv : Nat → Int
/-- its numbers fit their kinds -/
structure Tr.Ok (t : Tr) : Prop where
  s : 0 ≤ t.s ∧ t.s < 4294967296
  cb : ∀ i, -9223372036854775808 ≤ t.cb i ∧ t.cb i ≤ 9223372036854775807
  cd : ∀ i, Byt (t.cd i)
  rv : ∀ i, -9223372036854775808 ≤ t.rv i ∧ t.rv i ≤ 9223372036854775807
  n : (t.n : Int) ≤ 9223372036854775807
  m : (t.m : Int) ≤ 9223372036854775807
  cb0 : ∀ i, t.n ≤ i → t.cb i = 0
  rv0 : ∀ i, t.m ≤ i → t.rv i = 0
/-- numbers of blocks that rise -/
def riseT (b : Nat → Int) : Nat → Bool
  | 0 => true
  | i + 1 => riseT b i && (decide ((if i = 0 then -1 else b (i - 1)) < b i) && decide (b i < 2048))
/-- may it be a transaction? -/
def mayT (s : Int) (n : Nat) (cb : Nat → Int) (m : Nat) (rv : Nat → Int) : Bool := seqB s && (decide (0 < n + m) && (riseT cb n && riseT rv m))
def Tr.may (t : Tr) : Bool := mayT t.s t.n t.cb t.m t.rv
/-- how many blocks the copies have; how many the revoked ones; how many stand ahead of the commit -/
def dN (n : Nat) : Nat := n + (n + 29) / 30
def rN (m : Nat) : Nat := (m + 59) / 60
def Tr.c (t : Tr) : Nat := dN t.n + rN t.m
/-- the blocks ahead of the commit -/
def pk0 (t : Tr) (i : Nat) : Nat → Int :=
  if i < dN t.n then
    if i % 31 = 0 then jdZ t.s (min 30 (t.n - 30 * (i / 31))) (fun k => t.cb (30 * (i / 31) + k)) (fun k => escB (t.cd (30 * (i / 31) + k)))
    else escZ (t.cd (30 * (i / 31) + (i % 31 - 1)))
  else revZ t.s (min 60 (t.m - 60 * (i - dN t.n))) (fun k => t.rv (60 * (i - dN t.n) + k))
/-- the sum over so many blocks -/
def crcB (B : Nat → Nat → Int) (k : Nat) : Int := ((4294967295 - foldP 4294967295 (fun _ => 256) B k : Nat) : Int)
def pkB (t : Tr) (i : Nat) : Nat → Int := if i < t.c then pk0 t i else commitZ t.s t.c (crcB (pk0 t) t.c)
def Tr.size (t : Tr) : Int := sizeOf t.n t.m
def packE (t : Tr) : Int := if t.may then (if t.size ≤ 255 then 0 else 4) else 150
/-- a copy's cells; rows of copies, of blocks, of numbers -/
abbrev cpc (b : Int) (z : Nat → Int) : List Value := .int .i64 b :: Ks .u8 256 z
def cpF (cb : Nat → Int) (cd : Nat → Nat → Int) (i : Nat) : List Value := cpc (cb i) (cd i)
def bkF (B : Nat → Nat → Int) (i : Nat) : List Value := Ks .u8 256 (B i)
def inF (b : Nat → Int) (i : Nat) : List Value := [.int .i64 (b i)]
theorem cpc_len (b : Int) (z : Nat → Int) : (cpc b z).length = 257 := by simp [Ks]
theorem cpF_len (cb : Nat → Int) (cd : Nat → Nat → Int) (i : Nat) : (cpF cb cd i).length = 257 := cpc_len _ _
theorem bkF_len (B : Nat → Nat → Int) (i : Nat) : (bkF B i).length = 256 := by simp [bkF, Ks]
theorem inF_len (b : Nat → Int) (i : Nat) : (inF b i).length = 1 := rfl
abbrev tval (s : Int) (ca : Option Addr) (n cc : Nat) (ra : Option Addr) (m rc : Nat) : Value := .agg #[.int .u32 s, .slice ca n cc, .slice ra m rc]
abbrev tcells (s : Int) (ca : Option Addr) (n cc : Nat) (ra : Option Addr) (m rc : Nat) : Array Value := #[.int .u32 s, .slice ca n cc, .slice ra m rc]
theorem RSeg.alloc {w : World} {b off m n : Nat} {f : Nat → List Value} (h : RSeg w b off m n f) (o : Obj) : RSeg (w.alloc o) b off m n f := fun i hi j v hv => by
  have h1 := h i hi j v hv
  have := World.block_lt_of_cell? w _ h1
  rw [World.cell?_of_block (w := w) (Below.heap_alloc w o b this)]; exact h1
theorem RRow.alloc {w : World} {a : Option Addr} {m n : Nat} {f : Nat → List Value} (h : RRow w a m n f) (o : Obj) : RRow (w.alloc o) a m n f := by
  rcases h with h | ⟨b, off, rfl, h⟩
  · exact .inl h
  · exact .inr ⟨b, off, rfl, h.alloc o⟩
theorem RRow.drew {w : World} {a : Option Addr} {m n : Nat} {f : Nat → List Value} (h : RRow w a m n f) : RRow w.drew a m n f := h
end Go.Proofs.YtnbmmhoofilmfaaDoor

/- pack.may. -/
namespace Go.Proofs.YtnbmmhoofilmfaaDoor
open Go.RowKit
set_option linter.unusedVariables false

/-- the number ahead -/
def lastT (b : Nat → Int) (k : Nat) : Int := if k = 0 then -1 else b (k - 1)
end Go.Proofs.YtnbmmhoofilmfaaDoor

/- pack.withRevokes, pack.withCommit. -/
namespace Go.Proofs.YtnbmmhoofilmfaaDoor
open Go.RowKit
set_option linter.unusedVariables false

/-- a slice of blocks in an array of one's own, with room -/
def BOwn (W : World) (q N cap : Nat) (B : Nat → Nat → Int) : Prop := W.ownsRow 0 32 256 (.slice (some ⟨q, 0, none⟩) N cap) N (Cs (bkF B) N)
theorem BOwn.kept {W W' : World} {q N cap : Nat} {B : Nat → Nat → Int} {row : Option Nat} (h : BOwn W q N cap B) (hg : W.grownBy W' row) (hne : row ≠ some q) : BOwn W' q N cap B :=
  World.ownsRow.kept h hg (.inr (fun e => hne e.symm))
theorem BOwn.lt {W : World} {q N cap : Nat} {B : Nat → Nat → Int} (h : BOwn W q N cap B) : q < W.heap.size := by
  rcases h.2 with ⟨hv, _⟩ | ⟨g, cap', cur, hv, _, hg, _⟩
  · cases hv
  · cases hv; exact (Array.getElem?_eq_some_iff.1 hg).1
theorem BOwn.below {W W' : World} {q N cap : Nat} {B : Nat → Nat → Int} (h : BOwn W q N cap B) (hb : Below W.heap.size W W') : BOwn W' q N cap B :=
  h.kept (grown_below (row := none) hb) (fun e => by cases e)
theorem BOwn.congr {W : World} {q N cap : Nat} {B B' : Nat → Nat → Int} (h : BOwn W q N cap B) (e : ∀ i, i < N → ∀ k, k < 256 → B i k = B' i k) : BOwn W q N cap B' := by
  unfold BOwn
  rw [← Cs_congr (f := bkF B) (g := bkF B') (n := N) fun i hi => Ks_congr fun k hk => e i hi k hk]
  exact h
theorem BOwn.seg {W : World} {q N cap : Nat} {B : Nat → Nat → Int} (h : BOwn W q N cap B) : RSeg W q 0 256 N (bkF B) := RMine.seg (base := 0) (e := 32) (m := 256) (cap := cap) h (bkF_len B)
theorem BOwn.le {W : World} {q N cap : Nat} {B : Nat → Nat → Int} (h : BOwn W q N cap B) : N ≤ cap ∧ cap ≤ maxLen := by
  rcases h.2 with ⟨hv, _⟩ | ⟨g, cap', cur, hv, _, hg, h1, h2, _⟩
  · cases hv
  · cases hv; exact ⟨h1, h2⟩
theorem BOwn.snoc {W : World} {q N cap : Nat} {B : Nat → Nat → Int} {z : Nat → Int} (h : W.ownsRow 0 32 256 (.slice (some ⟨q, 0, none⟩) (N + 1) cap) (N + 1) (Cs (bkF B) N ++ Ks .u8 256 z)) : BOwn W q (N + 1) cap (fun i => if i < N then B i else z) := by
  unfold BOwn
  rw [Cs_succ, Cs_congr (f := bkF fun i => if i < N then B i else z) (g := bkF B) (n := N) (fun i hi => by show Ks _ _ (if i < N then B i else z) = _; rw [if_pos hi]; rfl)]
  rw [show bkF (fun i => if i < N then B i else z) N = Ks .u8 256 z by show Ks _ _ (if N < N then B N else z) = _; rw [if_neg (Nat.lt_irrefl _)]]
  exact h
/-- blocks and one more -/
def snocB (B : Nat → Nat → Int) (N : Nat) (z : Nat → Int) (i : Nat) : Nat → Int := if i < N then B i else z
/-- rows made so far -/
def mixN (rv : Nat → Int) (k i : Nat) : List Value := if i < k then [.int .u32 (rv i)] else [.int .u32 0]
structure WrS (w : World) (q N cap : Nat) (B : Nat → Nat → Int) (ra : Option Addr) (m : Nat) (rv : Nat → Int) (p : Nat) (k : Nat) (W : World) : Prop where
  b : BOwn W q N cap B
  r : RRow W ra 1 m (inF rv)
  a : RArr W p 34 1 m (mixN rv k)
  bel : Below w.heap.size w W

end Go.Proofs.YtnbmmhoofilmfaaDoor

/- pack.withCommit. -/
namespace Go.Proofs.YtnbmmhoofilmfaaDoor
open Go.RowKit
set_option linter.unusedVariables false

theorem Tab.kept {w w' : World} (h : Tab w) {row : Option Nat} (hb : w.grownBy w' row) (hg : row ≠ some 0) : Tab w' := fun i hi => (World.cell?_of_block (w := w) (hb.block _ h.lt (fun e => hg e.symm))).trans (h i hi)
def mixP (q k i : Nat) : List Value := if i < k then [.slice (some ⟨q, i * 256, none⟩) 256 256] else [.slice none 0 0]
structure WcS (w : World) (q N cap : Nat) (B : Nat → Nat → Int) (p : Nat) (k : Nat) (W : World) : Prop where
  b : BOwn W q N cap B
  a : RArr W p 142 1 N (mixP q k)
  t : Tab W
  bel : Below w.heap.size w W

end Go.Proofs.YtnbmmhoofilmfaaDoor

/- pack.withCopies. -/
namespace Go.Proofs.YtnbmmhoofilmfaaDoor
open Go.RowKit
set_option linter.unusedVariables false

abbrev ccells (b : Int) (z : Nat → Int) : Array Value := (cpc b z).toArray
def tgL (b : Int) (x : Bool) : List Value := [.int .u32 b, .bool x]
def mixT (cb : Nat → Int) (cd : Nat → Nat → Int) (k i : Nat) : List Value := if i < k then tgL (cb i) (escB (cd i)) else tgL 0 false
def mixC (cd : Nat → Nat → Int) (k i : Nat) : List Value := Ks .u8 256 (if i < k then escZ (cd i) else fun _ => 0)
structure CwS (w : World) (q N cap : Nat) (B : Nat → Nat → Int) (ca : Option Addr) (m : Nat) (cb : Nat → Int) (cd : Nat → Nat → Int) (k : Nat) (W : World) : Prop where
  b : BOwn W q N cap B
  r : RRow W ca 257 m (cpF cb cd)
  a : RArr W w.heap.size 169 2 m (mixT cb cd k)
  d : RArr W (w.heap.size + 1) 32 256 m (mixC cd k)
  bel : Below w.heap.size w W
theorem CwS.below {w : World} {q N cap : Nat} {B : Nat → Nat → Int} {ca : Option Addr} {m : Nat} {cb : Nat → Int} {cd : Nat → Nat → Int} {k : Nat} {W W' : World} (h : CwS w q N cap B ca m cb cd k W) (hb : Below W.heap.size W W') : CwS w q N cap B ca m cb cd k W' :=
  ⟨h.b.below hb, h.r.below (by intro e; cases e) hb, h.a.below hb, h.d.below hb, h.bel.trans (hb.mono h.bel.size)⟩
theorem RRow.only {W W' : World} {a : Option Addr} {m n p : Nat} {f : Nat → List Value} (h : RRow W a m n f) (ho : Only p W W') (hne : ∀ b off, a = some ⟨b, off, none⟩ → b ≠ p) : RRow W' a m n f := by
  rcases h with h | ⟨b, off, rfl, h⟩
  · exact .inl h
  · exact .inr ⟨b, off, rfl, fun i hi j v hj => (ho.cell (p := ⟨b, off + i * m + j, none⟩) (hne b off rfl)).trans (h i hi j v hj)⟩
/-- a block that is not among those of the state is turned -/
theorem CwS.only {w : World} {q N cap : Nat} {B : Nat → Nat → Int} {ca : Option Addr} {m : Nat} {cb : Nat → Int} {cd : Nat → Nat → Int} {k : Nat} {W W' : World} {p : Nat} (h : CwS w q N cap B ca m cb cd k W) (ho : Only p W W') (hp : w.heap.size + 1 < p) (hq : q < w.heap.size)
    (hca : ∀ b off, ca = some ⟨b, off, none⟩ → b < w.heap.size) : CwS w q N cap B ca m cb cd k W' :=
  ⟨h.b.kept ho.grown (by intro e; injection e with e; omega), h.r.only ho (fun b off e => by have := hca b off e; omega), h.a.only ho (by omega), h.d.only ho (by omega), h.bel.trans (ho.below (by omega))⟩

end Go.Proofs.YtnbmmhoofilmfaaDoor

/- Transactions' blocks: row by row. No walk. -/
namespace Go.Proofs.YtnbmmhoofilmfaaDoor
open Go.RowKit
set_option linter.unusedVariables false

theorem RSeg.sub {w : World} {b off m n : Nat} {f : Nat → List Value} (h : RSeg w b off m n f) (r k : Nat) (hk : r + k ≤ n) : RSeg w b (off + r * m) m k (fun i => f (r + i)) := fun i hi j v hj => by
  have := h (r + i) (by omega) j v hj
  rw [show off + r * m + i * m + j = off + (r + i) * m + j by rw [Nat.add_mul]; omega]
  exact this
theorem zero_bytJ : Byt (fun _ => 0) := fun _ => ⟨Int.le_refl 0, (by decide : (0 : Int) < 256)⟩
/-- how many blocks stand when so many rows of copies are laid -/
def cntC (n r : Nat) : Nat := if r < (n + 29) / 30 then 31 * r else dN n
theorem BOwn.none {W : World} {q cap : Nat} {B : Nat → Nat → Int} {cs : Array Value} (h : W.heap[q]? = some (.cells cs 32 (0, 0))) (hs : cs.size = cap * 256) (hc : cap ≤ maxLen) : BOwn W q 0 cap B :=
  ⟨by simp [Cs], .inr ⟨q, cap, cs, rfl, Nat.zero_le _, h, Nat.zero_le _, hc, hs, by simp [Cs]⟩⟩
end Go.Proofs.YtnbmmhoofilmfaaDoor

/- Two rows of blocks: are they the same? slices.Equal, quernref15.SameBlocks. Printed by gen_pksame.py. -/
namespace Go.Proofs.YtnbmmhoofilmfaaDoor
open Go.RowKit
set_option linter.unusedVariables false

/-- the first so many blocks are the same -/
def eqBs (B C : Nat → Nat → Int) : Nat → Bool
  | 0 => true
  | k + 1 => eqBs B C k && eqB (B k) (C k) 256
def sameB (B C : Nat → Nat → Int) (n m : Nat) : Bool := (n == m) && eqBs B C n

end Go.Proofs.YtnbmmhoofilmfaaDoor

/- pack.Pack. -/
namespace Go.Proofs.YtnbmmhoofilmfaaDoor
open Go.RowKit Go.Shelf
set_option linter.unusedVariables false
attribute [local go_sem] Oper.semAt_some

/-- what stands while rows are laid -/
structure PkJ (w : World) (t : Tr) (ca : Option Addr) (cc : Nat) (ra : Option Addr) (rc : Nat) (q p5 p6 cnt cap : Nat) (W : World) : Prop where
  tr : At W w.heap.size 51 (tcells t.s ca t.n cc ra t.m rc)
  r1 : At W (w.heap.size + 1) 24 #[.slice none 0 0]
  r2 : At W (w.heap.size + 1 + 1) 27 #[.int .i64 0]
  bl : At W p5 24 #[.slice (some ⟨q, 0, none⟩) cnt cap]
  er : At W p6 27 #[.int .i64 0]
  b : BOwn W q cnt cap (pk0 t)
  c : RRow W ca 257 t.n (cpF t.cb t.cd)
  r : RRow W ra 1 t.m (inF t.rv)
  ta : Tab W
  bel : Below w.heap.size w W
structure PkA (w : World) (t : Tr) (ca : Option Addr) (cc : Nat) (ra : Option Addr) (rc : Nat) (W : World) : Prop where
  tr : At W w.heap.size 51 (tcells t.s ca t.n cc ra t.m rc)
  r1 : At W (w.heap.size + 1) 24 #[.slice none 0 0]
  r2 : At W (w.heap.size + 1 + 1) 27 #[.int .i64 0]
  c : RRow W ca 257 t.n (cpF t.cb t.cd)
  r : RRow W ra 1 t.m (inF t.rv)
  ta : Tab W
  bel : Below w.heap.size w W
theorem PkA.below {w : World} {t : Tr} {ca : Option Addr} {cc : Nat} {ra : Option Addr} {rc : Nat} {W W' : World} (h : PkA w t ca cc ra rc W) (hb : Below W.heap.size W W') : PkA w t ca cc ra rc W' :=
  ⟨h.tr.below hb h.tr.lt, h.r1.below hb h.r1.lt, h.r2.below hb h.r2.lt, h.c.below (by intro e; cases e) hb, h.r.below (by intro e; cases e) hb, h.ta.below hb (Nat.le_refl _), h.bel.trans (hb.mono h.bel.size)⟩
/-- where things stand -/
structure PkO (w : World) (ca ra : Option Addr) (q p5 p6 : Nat) : Prop where
  o1 : 0 < w.heap.size
  o2 : w.heap.size + 2 < q
  o3 : q < p5
  o4 : p5 < p6
  o5 : ∀ b off, ca = some ⟨b, off, none⟩ → b < w.heap.size
  o6 : ∀ b off, ra = some ⟨b, off, none⟩ → b < w.heap.size
section
variable {w : World} {t : Tr} {ca : Option Addr} {cc : Nat} {ra : Option Addr} {rc q p5 p6 cnt cap : Nat} {W W' : World}
theorem PkJ.below (h : PkJ w t ca cc ra rc q p5 p6 cnt cap W) (hb : Below W.heap.size W W') : PkJ w t ca cc ra rc q p5 p6 cnt cap W' :=
  ⟨h.tr.below hb h.tr.lt, h.r1.below hb h.r1.lt, h.r2.below hb h.r2.lt, h.bl.below hb h.bl.lt, h.er.below hb h.er.lt, h.b.below hb, h.c.below (by intro e; cases e) hb, h.r.below (by intro e; cases e) hb, h.ta.below hb (Nat.le_refl _), h.bel.trans (hb.mono h.bel.size)⟩
theorem PkJ.local {B lb : Nat} (o : PkO w ca ra q p5 p6) (hB : p6 < B) (hl : p6 < lb) : LocalX B lb (PkJ w t ca cc ra rc q p5 p6 cnt cap) := fun A C h e1 e2 e3 e4 e5 => by
  obtain ⟨o1, o2, o3, o4, o5, o6⟩ := o
  exact ⟨LocalX.heap _ (by omega) (by omega) A C h.tr e1 e2 e3 e4 e5, LocalX.heap _ (by omega) (by omega) A C h.r1 e1 e2 e3 e4 e5, LocalX.heap _ (by omega) (by omega) A C h.r2 e1 e2 e3 e4 e5, LocalX.heap _ (by omega) (by omega) A C h.bl e1 e2 e3 e4 e5, LocalX.heap _ (by omega) (by omega) A C h.er e1 e2 e3 e4 e5,
    LocalX.owns (by omega) (by omega) A C h.b e1 e2 e3 e4 e5, LocalX.rrow (fun b off e => by have := o5 b off e; omega) A C h.c e1 e2 e3 e4 e5, LocalX.rrow (fun b off e => by have := o6 b off e; omega) A C h.r e1 e2 e3 e4 e5,
    fun i hi => LocalX.cell _ _ (by show 0 < B; omega) (by show 0 ≠ lb; omega) A C (h.ta i hi) e1 e2 e3 e4 e5, LocalX.below w (by omega) (Nat.le_refl _) (by omega) A C h.bel e1 e2 e3 e4 e5⟩
/-- blocks are laid behind, and the box of the slice says so -/
theorem PkJ.laid (o : PkO w ca ra q p5 p6) (h : PkJ w t ca cc ra rc q p5 p6 cnt cap W) {cnt' : Nat} (hg : W.grownBy W' (some q)) (hb : BOwn W' q cnt' cap (pk0 t)) :
    PkJ w t ca cc ra rc q p5 p6 cnt' cap ((W'.setCell ⟨p5, 0, none⟩ (.slice (some ⟨q, 0, none⟩) cnt' cap)).setCell ⟨p6, 0, none⟩ (.int .i64 0)) := by
  obtain ⟨o1, o2, o3, o4, o5, o6⟩ := o
  have kp : ∀ {g : Nat} {T : TypeId} {cs : Array Value}, At W g T cs → g ≠ q → At W' g T cs := fun hA hne => (hg.block _ hA.lt (by intro e; injection e with e; exact hne e)).trans hA
  have s1 := Only.setCell W' ⟨p5, 0, none⟩ (.slice (some ⟨q, 0, none⟩) cnt' cap)
  have s2 := Only.setCell (W'.setCell ⟨p5, 0, none⟩ (.slice (some ⟨q, 0, none⟩) cnt' cap)) ⟨p6, 0, none⟩ (.int .i64 0)
  have hL : Below w.heap.size w W' := h.bel.grown hg h.bel.size (fun k e => by cases e; omega)
  have rk : ∀ {a : Option Addr} {m n : Nat} {f : Nat → List Value}, RRow W a m n f → (∀ b off, a = some ⟨b, off, none⟩ → b < w.heap.size) → RRow W' a m n f := fun hr ha => by
    rcases hr with hr | ⟨b, off, rfl, hr⟩
    · exact .inl hr
    · have hbl := ha b off rfl
      exact .inr ⟨b, off, rfl, fun i hi j v hj => (World.cell?_of_block (w := W) (hg.block b (by have := h.bel.size; omega) (by intro e; injection e with e; omega))).trans (hr i hi j v hj)⟩
  exact ⟨((kp h.tr (by omega)).only s1 (by show _ ≠ p5; omega)).only s2 (by show _ ≠ p6; omega), ((kp h.r1 (by omega)).only s1 (by show _ ≠ p5; omega)).only s2 (by show _ ≠ p6; omega), ((kp h.r2 (by omega)).only s1 (by show _ ≠ p5; omega)).only s2 (by show _ ≠ p6; omega),
    ((kp h.bl (by omega)).set0 _).only s2 (by show _ ≠ p6; omega), ((kp h.er (by omega)).only s1 (by show _ ≠ p5; omega)).set0 _,
    (hb.kept s1.grown (by intro e; injection e with e; change p5 = q at e; omega)).kept s2.grown (by intro e; injection e with e; change p6 = q at e; omega),
    ((rk h.c o5).only s1 (fun b off e => by have := o5 b off e; show b ≠ p5; omega)).only s2 (fun b off e => by have := o5 b off e; show b ≠ p6; omega),
    ((rk h.r o6).only s1 (fun b off e => by have := o6 b off e; show b ≠ p5; omega)).only s2 (fun b off e => by have := o6 b off e; show b ≠ p6; omega),
    ((h.ta.kept hg (by intro e; injection e with e; omega)).kept s1.grown (by intro e; injection e with e; change p5 = _ at e; omega)).kept s2.grown (by intro e; injection e with e; change p6 = _ at e; omega),
    (hL.trans (s1.below (by show _ ≤ p5; omega))).trans (s2.below (by show _ ≤ p6; omega))⟩
theorem PkJ.congr (h : PkJ w t ca cc ra rc q p5 p6 cnt cap W) {cnt' : Nat} (e : cnt = cnt') : PkJ w t ca cc ra rc q p5 p6 cnt' cap W := e ▸ h
end
theorem At.grownQ {W W1 : World} {q g : Nat} {T : TypeId} {cs : Array Value} (h : At W g T cs) (hg : W.grownBy W1 (some q)) (hne : g ≠ q) : At W1 g T cs := (hg.block _ h.lt (by intro e; injection e with e; exact hne e)).trans h
/-- what Pack answers -/
def PackPost (w : World) (t : Tr) (e : Ending) (w' : World) : Prop :=
  (packE t ≠ 0 ∧ e = .returned (.tuple #[.slice none 0 0, .int .i64 (packE t)])) ∨ (packE t = 0 ∧ ∃ q, e = .returned (.tuple #[.slice (some ⟨q, 0, none⟩) (t.c + 1) (t.c + 1), .int .i64 0]) ∧ w.heap.size ≤ q ∧ BOwn w' q (t.c + 1) (t.c + 1) (pkB t))

end Go.Proofs.YtnbmmhoofilmfaaDoor

/- Contracts of quernref09.block, WriteHead and WriteCommit. -/
namespace Go.Proofs.YtnbmmhoofilmfaaDoor
open Go.RowKit
set_option linter.unusedVariables false

structure BkC (w : World) (G b off n : Nat) (m : Nat → Int) (k j : Nat) (W : World) : Prop where
  r : Blk W w.heap.size 32 256 (fun _ => 0)
  g : Blk W G 32 256 (wz (if j = 0 then numR m k else numR m (k + 1)))
  t : NumSeg W b off n m
  bel : Below w.heap.size w W

end Go.Proofs.YtnbmmhoofilmfaaDoor

/- Contracts of quernref09.at, begins and Unescape. -/
namespace Go.Proofs.YtnbmmhoofilmfaaDoor
open Go.RowKit
set_option linter.unusedVariables false

def beginsB (z : Nat → Int) (k : Int) : Bool := wd z 0 == 1280199249 && (wd z 1 == k && seqB (wd z 2))
end Go.Proofs.YtnbmmhoofilmfaaDoor

/- The contract of quernref09.Kind. -/
namespace Go.Proofs.YtnbmmhoofilmfaaDoor
open Go.RowKit
set_option linter.unusedVariables false

structure RkSt (w : World) (z : Nat → Int) (W : World) : Prop where
  b : Blk W w.heap.size 32 256 z
  bel : Below w.heap.size w W
end Go.Proofs.YtnbmmhoofilmfaaDoor

/- The contract of quernref09.ReadCommit. -/
namespace Go.Proofs.YtnbmmhoofilmfaaDoor
open Go.RowKit
set_option linter.unusedVariables false

end Go.Proofs.YtnbmmhoofilmfaaDoor

/- Contracts of quernref09.ReadHead and Escape. -/
namespace Go.Proofs.YtnbmmhoofilmfaaDoor
open Go.RowKit
set_option linter.unusedVariables false

structure RhSt (w : World) (z : Nat → Int) (W : World) : Prop where
  b : Blk W w.heap.size 32 256 z
  r : At W (w.heap.size + 1) 36 #[.int .u32 0, .int .i64 0]
  bel : Below w.heap.size w W
theorem RhSt.below {w W W' : World} {z : Nat → Int} (h : RhSt w z W) (hb : Below W.heap.size W W') : RhSt w z W' := ⟨h.b.below hb h.b.lt, h.r.below hb h.r.lt, h.bel.trans (hb.mono h.bel.size)⟩

structure ReSt (w : World) (z : Nat → Int) (W : World) : Prop where
  b : Blk W w.heap.size 32 256 z
  r : Blk W (w.heap.size + 1) 32 256 (fun _ => 0)
  bel : Below w.heap.size w W
theorem ReSt.below {w W W' : World} {z : Nat → Int} (h : ReSt w z W) (hb : Below W.heap.size W W') : ReSt w z W' := ⟨h.b.below hb h.b.lt, h.r.below hb h.r.lt, h.bel.trans (hb.mono h.bel.size)⟩

end Go.Proofs.YtnbmmhoofilmfaaDoor

/- Contracts of quernref09.WriteHead and WriteCommit. -/
namespace Go.Proofs.YtnbmmhoofilmfaaDoor
open Go.RowKit
set_option linter.unusedVariables false

end Go.Proofs.YtnbmmhoofilmfaaDoor

/- The contract of quernref09.WriteRevoke. -/
namespace Go.Proofs.YtnbmmhoofilmfaaDoor
open Go.RowKit
set_option linter.unusedVariables false

structure RvSt (w : World) (b off n : Nat) (m : Nat → Int) (W : World) : Prop where
  r : Blk W w.heap.size 32 256 (fun _ => 0)
  t : NumSeg W b off n m
  bel : Below w.heap.size w W

end Go.Proofs.YtnbmmhoofilmfaaDoor

/- The contract of quernref09.ReadRevoke. -/
namespace Go.Proofs.YtnbmmhoofilmfaaDoor
open Go.RowKit
set_option linter.unusedVariables false

theorem own_below' {W W' : World} {base k : Nat} {v : Value} {e : TypeId} {size : Nat} {xs : List Value} (h : W.ownsRow base e size v k xs) (hb : Below W.heap.size W W') : W'.ownsRow base e size v k xs := by
  refine ⟨h.1, ?_⟩
  rcases h.2 with h' | ⟨g', cap', cur, hv, hbb, hg, hr⟩
  · exact .inl h'
  · exact .inr ⟨g', cap', cur, hv, hbb, (hb.block _ (Array.getElem?_eq_some_iff.1 hg).1).trans hg, hr⟩
structure RrSt (w : World) (z : Nat → Int) (v : Value) (k : Nat) (W : World) : Prop where
  b : Blk W w.heap.size 32 256 z
  own : W.ownsRow (w.heap.size + 1) 34 1 v k (Ks .u32 k (revM z))
  bel : Below w.heap.size w W
theorem RrSt.below {w W W' : World} {z : Nat → Int} {v : Value} {k : Nat} (h : RrSt w z v k W) (hb : Below W.heap.size W W') : RrSt w z v k W' := ⟨h.b.below hb h.b.lt, own_below' h.own hb, h.bel.trans (hb.mono h.bel.size)⟩

end Go.Proofs.YtnbmmhoofilmfaaDoor

/- The contract of quernref09.ReadDesc. -/
namespace Go.Proofs.YtnbmmhoofilmfaaDoor
open Go.RowKit
set_option linter.unusedVariables false

structure RsSt (w : World) (z : Nat → Int) (v : Value) (k : Nat) (W : World) : Prop where
  b : Blk W w.heap.size 32 256 z
  own : W.ownsRow (w.heap.size + 1) 169 2 v k (Tc (descT z) (jdE z) k)
  bel : Below w.heap.size w W
theorem RsSt.below {w W W' : World} {z : Nat → Int} {v : Value} {k : Nat} (h : RsSt w z v k W) (hb : Below W.heap.size W W') : RsSt w z v k W' := ⟨h.b.below hb h.b.lt, own_below' h.own hb, h.bel.trans (hb.mono h.bel.size)⟩
theorem own_only {W W' : World} {base k p : Nat} {v : Value} {e : TypeId} {size : Nat} {xs : List Value} (h : W.ownsRow base e size v k xs) (ho : Only p W W') (hp : v.ownBlock ≠ some p) : W'.ownsRow base e size v k xs := by
  refine ⟨h.1, ?_⟩
  rcases h.2 with h' | ⟨g', cap', cur, hv, hbb, hg, hr⟩
  · exact .inl h'
  · exact .inr ⟨g', cap', cur, hv, hbb, (ho.block g' (fun e => hp (by rw [hv, e]; rfl))).trans hg, hr⟩
structure RsN (w : World) (z : Nat → Int) (v : Value) (k N : Nat) (W : World) : Prop extends RsSt w z v k W where
  sz : N ≤ W.heap.size
theorem RsN.below {w W W' : World} {z : Nat → Int} {v : Value} {k N : Nat} (h : RsN w z v k N W) (hb : Below W.heap.size W W') : RsN w z v k N W' := ⟨h.toRsSt.below hb, by have := h.sz; have := hb.size; omega⟩
structure RsV (w : World) (z : Nat → Int) (v : Value) (k V : Nat) (W : World) : Prop extends RsSt w z v k W where
  v : At W V 169 #[.int .u32 (descT z k), .bool (jdE z k)]
theorem RsV.below {w W W' : World} {z : Nat → Int} {v : Value} {k V : Nat} (h : RsV w z v k V W) (hb : Below W.heap.size W W') : RsV w z v k V W' := ⟨h.toRsSt.below hb, h.v.below hb h.v.lt⟩

end Go.Proofs.YtnbmmhoofilmfaaDoor
