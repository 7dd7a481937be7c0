/- Texts of this claim, merged by a program (a claim may have 60 files): AtN, AtM, Pk5. -/
import Derived.Test.YtopakpmepioomaaDoorK02
import Derived.Deep.MidRow
import Derived.Test.YtopakpmepioomaaDoorK14
import Derived.Shelf.Abstract
import Derived.TacticsInMore
import Derived.LoopNIn
import Derived.LoopIn
/- One cell of a row stored; what grows. No program in sight. -/
namespace Go.Proofs.YtopakpmepioomaaDoor
open Go.RowKit
set_option linter.unusedVariables false
theorem RArr.cellset {W : World} {g : Nat} {T : TypeId} {m n : Nat} {f : Nat → List Value} (h : RArr W g T m n f) {k j : Nat} (hk : k < n) (hj : j < m) (hf : ∀ i, (f i).length = m) (v : Value) : RArr (W.setCell ⟨g, k * m + j, none⟩ v) g T m n (fun i => if i = k then (f i).set j v else f i) := by
  have ho := Only.setCell W ⟨g, k * m + j, none⟩ v
  obtain ⟨cs, h1, h2⟩ := h.blk
  obtain ⟨c', hc1, hc2⟩ := ho.shape _ _ _ h1
  refine ⟨⟨c', hc2, by rw [hc1, h2]⟩, fun i hi p u hp => ?_⟩
  rw [Nat.zero_add]
  obtain ⟨x, hx⟩ : ∃ x, W.cell? ⟨g, k * m + j, none⟩ = some x := by
    have := h.seg k hk j _ (List.getElem?_eq_getElem (by rw [hf]; exact hj))
    rw [Nat.zero_add] at this
    exact ⟨_, this⟩
  have hpm : p < m := by
    have := (List.getElem?_eq_some_iff.1 hp).1
    by_cases e : i = k
    · rw [if_pos e, List.length_set, hf] at this; exact this
    · rw [if_neg e, hf] at this; exact this
  by_cases e : i = k
  · subst e
    rw [if_pos rfl] at hp
    by_cases e2 : p = j
    · subst e2
      rw [List.getElem?_set_self (by rw [hf]; exact hpm)] at hp
      cases hp
      exact World.cell?_setCell_same _ _ _ hx
    · rw [List.getElem?_set_ne (fun h => e2 h.symm)] at hp
      rw [World.cell?_setCell_other _ _ _ _ (by intro h; injection h with _ h _; omega)]
      have := h.seg i hi p u hp
      rwa [Nat.zero_add] at this
  · rw [if_neg e] at hp
    have hne : k * m + j ≠ i * m + p := by
      rcases Nat.lt_or_gt_of_ne e with h' | h'
      · have : (i + 1) * m ≤ k * m := Nat.mul_le_mul_right m h'
        rw [Nat.succ_mul] at this; omega
      · have : (k + 1) * m ≤ i * m := Nat.mul_le_mul_right m h'
        rw [Nat.succ_mul] at this; omega
    rw [World.cell?_setCell_other _ _ _ _ (by intro h; injection h with _ h _; exact hne h)]
    have := h.seg i hi p u hp
    rwa [Nat.zero_add] at this
theorem Only.grown {b : Nat} {w w' : World} (h : Only b w w') : w.grownBy w' (some b) := ⟨h.os, h.tape, h.output, by rw [h.size]; exact Nat.le_refl _, fun k _ hk => h.block k (fun e => hk (by rw [e]))⟩
/-- a row stored in the midst of a block: the world behind it gets a name -/
theorem wp_storeMid {P : Program} {ops : Array Oper} {rest : List Oper} {op : Oper} {a : Act} {w : World} {Q : Exit → Act → World → Prop} (hgd : op.guard = none) (ty : TypeId) (x y : Operand) (ho : op.op = .store ty x y)
    (b o : Nat) (cs : List Value) (hx : a.eval x = .pointer (some ⟨b, o, none⟩)) (hy : a.eval y = .agg cs.toArray)
    (ht : w.there b o cs.length) (hi : (P.info? ty).map (·.size) = some cs.length) (h1 : ∀ v ∈ cs, v.oneCell' = true)
    (h : ∀ w', Hid (w' = w.setCells b o cs) → wpList P ops Q rest (a.put op.dst undef) w') : wpList P ops Q (op :: rest) a w :=
  wpList_store_mid hgd ty x y ho b o cs.toArray hx hy (by simpa using ht) (by simpa using hi) (by rw [List.all_toArray, List.all_eq_true]; exact h1) (h _ (Lib.hid rfl))
/-- a literal slice of one element -/
theorem wpList_slice1 {P : Program} {w : World} {ops : Array Oper} {rest : List Oper} {o : Oper} {a : Act} {Q : Exit → Act → World → Prop} (hgd : o.guard = none) (t : TypeId) (n i : Nat) (x : Operand) (ho : o.op = .buildSlice t n #[(i, x)])
    (u : Value) (hx : a.eval x = u) (v : Value) (w' : World) (hr : (Instr.buildSlice t n #[(i, u)]).run P w = .ok v w') (h : wpList P ops Q rest (a.put o.dst v) w') : wpList P ops Q (o :: rest) a w :=
  wpList_plain hgd fun _ hK => by
    unfold Oper.wp execOp
    subst hx
    simp only [ho, Sem.run_bind, List.map_toArray, List.map_cons, List.map_nil, hr, Result.andThen_ok, Sem.run_pure]
    exact hK _ _ h
end Go.Proofs.YtopakpmepioomaaDoor

/- Whole rows of cells loaded and stored in the midst of a heap block. No program in sight. -/
namespace Go.Proofs.YtopakpmepioomaaDoor
open Go.RowKit
set_option linter.unusedVariables false
theorem wp_loadMid {P : Program} {w : World} {ops : Array Oper} {rest : List Oper} {o : Oper} {a : Act} {Q : Exit → Act → World → Prop} (hw : Region.wanted o (yielded ops a.tmps) = true) (T : TypeId) (p : Operand) (ho : o.op = .load T p)
    (g off : Nat) (cs : List Value) (d : TypeDesc) (hx : a.eval p = .pointer (some ⟨g, off, none⟩)) (hI : w.rangeAt g off cs) (hu : P.underlying T = some d) (hd : d.isRow = true) (hi : (P.info? T).map (·.size) = some cs.length)
    (h : wpList P ops Q rest (a.put o.dst (.agg cs.toArray)) w) : wpList P ops Q (o :: rest) a w :=
  BigFrame.wpList_want hw fun _ hK => wp_load_mid T p ho g off hx cs d hI hu hd hi (hK _ _ h)
end Go.Proofs.YtopakpmepioomaaDoor

/- The iterators of pack.rows: rows of at most 30 copies, of at most 60 numbers. Printed by gen_pkrows.py. -/
namespace Go.Proofs.YtopakpmepioomaaDoor
open Go.RowKit Go.Shelf
set_option linter.unusedVariables false
attribute [local go_sem] Oper.semAt_some
theorem At.set0 {W : World} {B : Nat} {T : TypeId} {v : Value} (h : At W B T #[v]) (u : Value) : At (W.setCell ⟨B, 0, none⟩ u) B T #[u] := by
  obtain ⟨hlt, hk⟩ := Array.getElem?_eq_some_iff.1 h
  show (W.heap.modify B _)[B]? = _
  rw [Array.getElem?_eq_getElem (by rw [Array.size_modify]; exact hlt), Array.getElem_modify_self, hk]
  rfl
theorem addr_add0 (x : Addr) : x.add 0 = x := by
  unfold Addr.add
  rw [if_pos rfl]
def lenAt (B : Nat) (W : World) : Nat := match W.cell? ⟨B, 0, none⟩ with | some (.slice _ l _) => l | _ => 0
theorem lenAt_eq {W : World} {B l c : Nat} {T : TypeId} {a : Option Addr} (h : At W B T #[.slice a l c]) : lenAt B W = l := by
  unfold lenAt; rw [h.cell (i := 0) (v := .slice a l c) rfl]

/-- where a row of copies begins, and what the iterator keeps -/
def isSlC (b off n k : Nat) (sv : Value) : Prop := ∃ ad c, sv = .slice ad (n - 30 * k) c ∧ (k < (n + 29) / 30 → ad = some ⟨b, off + 30 * k * 257, none⟩ ∧ n - 30 * k ≤ c)
def rowEncC (b off n k : Nat) : Array Value := #[.slice (some ⟨b, off + 30 * k * 257, none⟩) (min 30 (n - 30 * k)) (min 30 (n - 30 * k))]
theorem isSlC_next {b off n k : Nat} {c : Nat} (hk : k < (n + 29) / 30) (hc : n - 30 * k ≤ c) {t : Nat} (ht : t = min 30 (n - 30 * k)) :
    isSlC b off n (k + 1) (.slice (if c = t then some ⟨b, off + 30 * k * 257, none⟩ else (some ⟨b, off + 30 * k * 257, none⟩ : Option Addr).map (·.add (t * 257))) (n - 30 * k - t) (c - t)) := by
  refine ⟨if c = t then some ⟨b, off + 30 * k * 257, none⟩ else (some ⟨b, off + 30 * k * 257, none⟩ : Option Addr).map (·.add (t * 257)), c - t, ?_, fun h => ⟨?_, by omega⟩⟩
  · rw [show n - 30 * (k + 1) = n - 30 * k - t by omega]
  · rw [if_neg (by omega), show t = 30 by omega]
    simp only [Option.map_some, addr_add]
    congr 2
    omega

/-- where a row of numbers begins, and what the iterator keeps -/
def isSlN (b off n k : Nat) (sv : Value) : Prop := ∃ ad c, sv = .slice ad (n - 60 * k) c ∧ (k < (n + 59) / 60 → ad = some ⟨b, off + 60 * k, none⟩ ∧ n - 60 * k ≤ c)
def rowEncN (b off n k : Nat) : Array Value := #[.slice (some ⟨b, off + 60 * k, none⟩) (min 60 (n - 60 * k)) (min 60 (n - 60 * k))]
def rowNeedN (B nb b off n : Nat) (k : Nat) (W : World) : Prop := (∃ sv, isSlN b off n k sv ∧ At W B 51 #[sv]) ∧ At W nb 3 #[.int .i64 60]
set_option maxRecDepth 100000 in
theorem run_takeN (a : Option Addr) (len cap k : Nat) (K : Int) (hK : K = (k : Int)) (hk : k ≤ cap) (w : World) :
    (Instr.slice 51 (.slice a len cap) none (some (.int .i64 K)) (some (.int .i64 K))).run Tryd.prog w = .ok (.slice a k k) w := by
  subst hK
  have hsz : (sizeOf 3).run Tryd.prog w = .ok 1 w := by kernel_rfl
  rw [run_slice_hm w 51 a len cap (by kernel_rfl) .i64 .i64 (k : Int) (k : Int) (by omega) (by omega) (by omega), show Tryd.prog.elem 51 = 3 from by kernel_rfl, hsz]
  simp only [Result.andThen, sliced, Int.toNat_natCast, Nat.zero_mul, Nat.sub_zero]
  congr 2
  split
  · rfl
  · cases a with
    | none => rfl
    | some x => rw [Option.map_some, addr_add0]
set_option maxRecDepth 100000 in
theorem run_dropN (a : Option Addr) (len cap k : Nat) (K : Int) (hK : K = (k : Int)) (hk : k ≤ len) (w : World) :
    (Instr.slice 51 (.slice a len cap) (some (.int .i64 K)) none none).run Tryd.prog w = .ok (.slice (if cap = k then a else a.map (·.add (k))) (len - k) (cap - k)) w := by
  subst hK
  have hsz : (sizeOf 3).run Tryd.prog w = .ok 1 w := by kernel_rfl
  rw [run_slice_l w 51 a len cap (by kernel_rfl) .i64 (k : Int) (by omega) (by omega), show Tryd.prog.elem 51 = 3 from by kernel_rfl, hsz]
  simp only [Result.andThen, sliced, Int.toNat_natCast, Nat.mul_one]
theorem isSlN_next {b off n k : Nat} {c : Nat} (hk : k < (n + 59) / 60) (hc : n - 60 * k ≤ c) {t : Nat} (ht : t = min 60 (n - 60 * k)) :
    isSlN b off n (k + 1) (.slice (if c = t then some ⟨b, off + 60 * k, none⟩ else (some ⟨b, off + 60 * k, none⟩ : Option Addr).map (·.add (t))) (n - 60 * k - t) (c - t)) := by
  refine ⟨if c = t then some ⟨b, off + 60 * k, none⟩ else (some ⟨b, off + 60 * k, none⟩ : Option Addr).map (·.add (t)), c - t, ?_, fun h => ⟨?_, by omega⟩⟩
  · rw [show n - 60 * (k + 1) = n - 60 * k - t by omega]
  · rw [if_neg (by omega), show t = 60 by omega]
    simp only [Option.map_some, addr_add]
    congr 2

end Go.Proofs.YtopakpmepioomaaDoor
