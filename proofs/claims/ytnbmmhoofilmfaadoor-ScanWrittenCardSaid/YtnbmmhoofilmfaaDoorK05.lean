/- Texts of this claim, merged by a program (a claim may have 60 files): AppendB, SliceA, BlkWp, Region, Slice, Jb1, Inv, Bar. -/
import Derived.Test.YtnbmmhoofilmfaaDoorK02
import Derived.Test.YtnbmmhoofilmfaaDoorK03
import Derived.Test.YtnbmmhoofilmfaaDoorK04
import Derived.Laws.Tables
import Derived.Laws.CopyOwn
import Derived.Deep.MidRow
import Derived.Deep.QuietTactic
import Derived.BigQuiet
import Derived.WalkKit
/- append of bytes onto a row of bytes of one's own, in this program's own numbers. -/
namespace Go.Proofs.YtnbmmhoofilmfaaDoor
open Go.RowKit
theorem info8 : (Tryd.prog.info? 5).map (fun i => (i.zero, i.size, i.bytes)) = some (some (.int .u8 0), 1, 1) := by kernel_rfl
theorem wp_appendB {w : World} {ops : Array Oper} {rest : List Oper} {o : Oper} {a : Act} {Q : Exit → Act → World → Prop} (hgd : o.guard = none) (s x : Operand)
    (ho : o.op = .call { callee := .builtin .append, args := #[s, x], argTypes := #[142, 142] }) (base : Nat)
    (sa : Option Addr) (n cap : Nat) (z : Nat → Int) (hs : a.eval s = .slice sa n cap) (hown : Mine w base 5 sa n cap z)
    (xa : Option Addr) (m c : Nat) (y : Nat → Int) (hx : a.eval x = .slice xa m c) (hc : xa = none → c = 0) (hr : Row w xa m y)
    (hm : n + m ≤ 140737488355328) (hbase : base ≤ w.heap.size)
    (h : ∀ sa' cap' w', Mine w' base 5 sa' (n + m) cap' (cat z n y) → w.grownBy w' (Value.slice sa n cap).ownBlock → (sa' = none → n + m = 0) → wpList Tryd.prog ops Q rest (a.put o.dst (.slice sa' (n + m) cap')) w') :
    wpList Tryd.prog ops Q (o :: rest) a w := by
  obtain ⟨i0, hi, hz0, hz1, hz2⟩ := info_parts info8
  exact wpList_append_bytes hgd s x _ ho base _ i0 Tryd.underlying142 hi hz0 hz1 hz2 sa n cap z hs hown xa m c y hx hc hr hm hbase h
end Go.Proofs.YtnbmmhoofilmfaaDoor

/- Slices of a block of 256 bytes, by a pointer to it, in this program's own numbers. -/
namespace Go.Proofs.YtnbmmhoofilmfaaDoor
open Go.RowKit
set_option linter.unusedVariables false
theorem addr_add (g o k : Nat) : (⟨g, o, none⟩ : Addr).add k = ⟨g, o + k, none⟩ := by
  unfold Addr.add; split
  · next h => subst h; rfl
  · rfl
theorem run_sliceBlk (g o lo hi : Nat) (L H : Int) (hL : L = (lo : Int)) (hH : H = (hi : Int)) (h1 : lo ≤ hi) (h2 : hi ≤ 256) (h3 : lo < 256) (W : World) :
    (Instr.sliceAt 32 (.pointer (some ⟨g, o, none⟩)) (some (.int .i64 L)) (some (.int .i64 H)) none).run Tryd.prog W = .ok (.slice (some ⟨g, o + lo, none⟩) (hi - lo) (256 - lo)) W := by
  subst hL hH
  have hal : Tryd.prog.arrayLen 32 = 256 := by kernel_rfl
  have hsz : ∀ W, (sizeOf (Tryd.prog.elem 32)).run Tryd.prog W = .ok 1 W := fun W => by kernel_rfl
  rw [run_sliceAt_array_lh W 32 _ (by kernel_rfl) .i64 .i64 (lo : Int) (hi : Int) (by omega) (by omega) (by rw [hal]; omega), hsz, hal]
  simp only [Result.andThen, slicedAt, Int.toNat_natCast, Nat.mul_one]
  rw [if_neg (by omega), addr_add]
theorem run_sliceBlkAll (g o : Nat) (W : World) :
    (Instr.sliceAt 32 (.pointer (some ⟨g, o, none⟩)) none none none).run Tryd.prog W = .ok (.slice (some ⟨g, o, none⟩) 256 256) W := by
  have hal : Tryd.prog.arrayLen 32 = 256 := by kernel_rfl
  have hsz : ∀ W, (sizeOf (Tryd.prog.elem 32)).run Tryd.prog W = .ok 1 W := fun W => by kernel_rfl
  rw [run_sliceAt_array_all W 32 _ (by kernel_rfl), hsz, hal]
  simp only [Result.andThen, slicedAt]
  rfl
end Go.Proofs.YtnbmmhoofilmfaaDoor

/- Whole blocks loaded and stored, as laws for the walk, in this program's own numbers. -/
namespace Go.Proofs.YtnbmmhoofilmfaaDoor
open Go.RowKit
set_option linter.unusedVariables false
abbrev bval (z : Nat → Int) : Value := .agg (Ks .u8 256 z).toArray
theorem zero_block (W : World) : (zeroValue 32).run Tryd.prog W = .ok (.agg (Ks .u8 256 (fun _ => 0)).toArray) W := by kernel_rfl
theorem info_block : (Tryd.prog.info? 32).map (·.size) = some 256 := by kernel_rfl
theorem info_block' (z : Nat → Int) : (Tryd.prog.info? 32).map (·.size) = some (Ks .u8 256 z).toArray.size := by rw [Ks_size]; exact info_block
theorem run_eql_block (z y : Nat → Int) (w : World) : (binOp .eql 32 (.agg (Ks .u8 256 z).toArray) (.agg (Ks .u8 256 y).toArray)).run Tryd.prog w = .ok (.bool (eqB z y 256)) w := by
  obtain ⟨i, hi, _⟩ := info_parts info8
  exact run_eql_ints w Tryd.underlying32 hi Tryd.underlying5 (by kernel_rfl) z y
theorem run_neq_block (z y : Nat → Int) (w : World) : (binOp .neq 32 (.agg (Ks .u8 256 z).toArray) (.agg (Ks .u8 256 y).toArray)).run Tryd.prog w = .ok (.bool (!eqB z y 256)) w := by
  obtain ⟨i, hi, _⟩ := info_parts info8
  exact run_neq_ints w Tryd.underlying32 hi Tryd.underlying5 (by kernel_rfl) z y
theorem Blk.range {w : World} {g : Nat} {T : TypeId} {n : Nat} {z : Nat → Int} (h : Blk w g T n z) : w.rangeAt g 0 (Ks .u8 n z) := by
  intro j v hj
  rw [Nat.zero_add]
  exact cell_of_heap h (by simpa using hj)
theorem rangeAt_below {w w' : World} {b o : Nat} {cs : List Value} (h : w.rangeAt b o cs) {B : Nat} (hb : Below B w w') (hB : b < B) : w'.rangeAt b o cs := fun j v hv => (hb.cell (p := ⟨b, o + j, none⟩) hB).trans (h j v hv)
theorem Blk.setRow {w : World} {g : Nat} {T : TypeId} {n : Nat} {z : Nat → Int} (h : Blk w g T n z) (y : Nat → Int) : Blk (w.setRow g (Ks .u8 n y).toArray) g T n y := setRow_heap w g _ _ T (0, 0) h
theorem only_setRow (w : World) (g : Nat) (cs : Array Value) {old : Array Value} {t : TypeId} (h : w.heap[g]? = some (.cells old t (0, 0))) (hs : cs.size = old.size) : Only g w (w.setRow g cs) := by
  refine ⟨rfl, rfl, rfl, size_setRow _ _ _, fun k hk => setRow_other _ _ _ _ hk, fun a => ?_, fun c e fr hc => ?_⟩
  · by_cases ha : a.block = g
    · unfold World.frozen?
      rw [ha, h, setRow_heap w g _ cs t (0, 0) h]
    · exact World.frozen?_of_block (w := w) (setRow_other _ _ _ _ ha)
  · rw [h] at hc
    injection hc with hc
    injection hc with h1 h2 h3
    subst h1 h2 h3
    exact ⟨cs, hs, setRow_heap w g _ cs _ _ h⟩
theorem results_row_tmp {P : Program} {fn : Func} {p u : Tmp} {ty : TypeId} (h : fn.results = #[.cell p ty, .tmp u]) (tmps : Array Value) (w : World) (g : Nat) (t : TypeId) (cs : Array Value) (fr : Nat × Nat) (d : TypeDesc)
    (hp : tmps.getD p undef = .pointer (some ⟨g, 0, none⟩)) (hg : w.heap[g]? = some (.cells cs t fr))
    (hu : P.underlying ty = some d) (hd : (match d with | .struct _ | .array _ _ => true | _ => false) = true) (hi : (P.info? ty).map (·.size) = some cs.size) :
    (results fn tmps).run P w = .ok (.tuple #[.agg cs, tmps.getD u undef]) w := by
  have hp' : tmps[p]?.getD undef = .pointer (some ⟨g, 0, none⟩) := by simpa using hp
  simp [results, h, hp', asAddr, run_loadVar_row w g t ty cs fr d hg hu hd hi]

theorem wp_loadBlk {w : World} {ops : Array Oper} {rest : List Oper} {o : Oper} {a : Act} {Q : Exit → Act → World → Prop} (hgd : o.guard = none) (x : Operand) (ho : o.op = .load 32 x)
    (g : Nat) (z : Nat → Int) (hx : a.eval x = .pointer (some ⟨g, 0, none⟩)) (hB : Blk w g 32 256 z)
    (h : wpList Tryd.prog ops Q rest (a.put o.dst (bval z)) w) : wpList Tryd.prog ops Q (o :: rest) a w :=
  wpList_load_row hgd 32 x ho g hx 32 (Ks .u8 256 z).toArray (0, 0) _ hB Tryd.underlying32 rfl (info_block' _) h
theorem wp_storeBlk {w : World} {ops : Array Oper} {rest : List Oper} {o : Oper} {a : Act} {Q : Exit → Act → World → Prop} (hgd : o.guard = none) (x y : Operand) (ho : o.op = .store 32 x y)
    (g : Nat) (z old : Nat → Int) (hx : a.eval x = .pointer (some ⟨g, 0, none⟩)) (hy : a.eval y = bval z) (hB : Blk w g 32 256 old)
    (h : ∀ w', Blk w' g 32 256 z → Only g w w' → wpList Tryd.prog ops Q rest (a.put o.dst undef) w') : wpList Tryd.prog ops Q (o :: rest) a w :=
  wpList_store_row hgd 32 x y ho g (Ks .u8 256 z).toArray hx hy 32 _ hB (info_block' _) (by rw [Ks_size, Ks_size]) (Ks_one _ _ _) (h _ (hB.setRow z) (only_setRow w g _ hB (by rw [Ks_size, Ks_size])))
end Go.Proofs.YtnbmmhoofilmfaaDoor

/- A region that draws its order, whose operations yield one value in every world of a class, and whose calls stay in the class: one walk. No program in sight. -/
namespace Go.Proofs.YtnbmmhoofilmfaaDoor
open Go.RowKit
set_option linter.unusedVariables false
variable {P : Program}
/-- the worlds that meet S -/
structure InW (S : World → Prop) where
  W : World
  h : S W
def InS (S : World → Prop) (w' : World) : Prop := ∃ s : InW S, w' = s.W
theorem InS.mk {S : World → Prop} {w : World} (h : S w) : InS S w := ⟨⟨w, h⟩, rfl⟩
theorem InS.out {S : World → Prop} {w : World} (h : InS S w) : S w := by obtain ⟨s, rfl⟩ := h; exact s.h
theorem wp_region_S (S : World → Prop) {id : Nat} {Q : Exit → Act → World → Prop} {a : Act} {w : World} {l : List Oper} (hm : P.follows .mixedOrders = true) (hB : Region.lexB .any l.toArray = true) (hS : S { w with drawn := w.drawn + 1 })
    (h : Nonempty (InW S) → wpQuiet P l.toArray (fun w' => ∃ s : InW S, w' = s.W) (fun a' => ∀ w', InS S w' → Q .normal a' w') l a) : (Code.region id l.toArray true).wp P Q a w :=
  wp_region_quiet (C := fun w' => ∃ s : InW S, w' = s.W) hm hB ⟨⟨_, hS⟩, rfl⟩ (h ⟨⟨_, hS⟩⟩)
/-- a call in such a region -/
theorem q_call {S : World → Prop} {f : FuncId} {args : Array Value} {v : Value} (s : InW S) (h : ∀ W, S W → Calls P f args W fun e w' => e = .returned v ∧ S w') : Calls P f args s.W fun e w' => e = .returned v ∧ ∃ s' : InW S, w' = s'.W :=
  (h s.W s.h).mono fun e w' hh => ⟨hh.1, ⟨w', hh.2⟩, rfl⟩
/-- a load of many cells in such a region -/
theorem q_load {S : World → Prop} {ops : Array Oper} {Q : Act → Prop} {a : Act} {o : Oper} {rest : List Oper} (hw : Region.wanted o (yielded ops a.tmps) = true) (ty : TypeId) (x : Operand) (ho : o.op = .load ty x)
    (b off : Nat) (hx : a.eval x = .pointer (some ⟨b, off, none⟩)) (cs : List Value) (d : TypeDesc) (hS : ∀ w, S w → w.rangeAt b off cs)
    (hu : P.underlying ty = some d) (hd : d.isRow = true) (hi : (P.info? ty).map (·.size) = some cs.length)
    (h : wpQuiet P ops (fun w' => ∃ s : InW S, w' = s.W) Q rest (a.put o.dst (.agg cs.toArray))) : wpQuiet P ops (fun w' => ∃ s : InW S, w' = s.W) Q (o :: rest) a := by
  refine wpQuiet_step fun K hK => ?_
  rw [if_pos hw]
  refine ⟨.agg cs.toArray, fun w hw' => ?_, hK _ h⟩
  obtain ⟨s, rfl⟩ := hw'
  unfold Oper.quietAt execOp
  simp only [ho, hx, Instr.loadAt, Instr.sureAddr, Sem.run_bind, Sem.run_pure, Result.andThen_ok, run_loadVar_mid s.W b off ty cs d (hS s.W s.h) hu hd hi]
  exact ⟨rfl, rfl⟩
/-- an operation that yields v in whatever world -/
theorem q_val {S : World → Prop} {ops : Array Oper} {Q : Act → Prop} {a : Act} {o : Oper} {rest : List Oper} (hw : Region.wanted o (yielded ops a.tmps) = true) (v : Value) (hr : ∀ W, (execOp a.eval o).run P W = .ok (.value v) W)
    (h : wpQuiet P ops (fun w' => ∃ s : InW S, w' = s.W) Q rest (a.put o.dst v)) : wpQuiet P ops (fun w' => ∃ s : InW S, w' = s.W) Q (o :: rest) a := by
  refine wpQuiet_step fun K hK => ?_
  rw [if_pos hw]
  refine ⟨v, fun w _ => ?_, hK _ h⟩
  unfold Oper.quietAt
  rw [hr]
  exact ⟨rfl, rfl⟩
/-- the frame written out -/
theorem wpQuiet_frame {ops : Array Oper} {C : World → Prop} {Q : Act → Prop} {l : List Oper} {a a' : Act} (e : a = a') (h : wpQuiet P ops C Q l a') : wpQuiet P ops C Q l a := e ▸ h
end Go.Proofs.YtnbmmhoofilmfaaDoor

/- Slices of slices of bytes: what 's[k:]' is, in this program's own numbers. -/
namespace Go.Proofs.YtnbmmhoofilmfaaDoor
open Go.RowKit
/-- where 's[k:]' begins -/
def slAt (a : Option Addr) (k cap : Nat) : Option Addr := if cap = k then a else a.map (·.add k)
theorem Row.slice {w : World} {a : Option Addr} {len cap k : Nat} {z : Nat → Int} (h : Row w a len z) (hk : k ≤ len) (hc : len ≤ cap) : Row w (slAt a k cap) (len - k) (fun i => z (k + i)) := by
  by_cases h0 : len - k = 0
  · exact .inl h0
  · rcases h with h | ⟨b, off, rfl, hs⟩
    · omega
    · unfold slAt
      rw [if_neg (by omega)]
      refine .inr ⟨b, off + k, ?_, hs.sub k _ (by omega)⟩
      simp only [Option.map_some, Addr.add]
      by_cases hk0 : k = 0
      · subst hk0; rw [if_pos rfl, Nat.add_zero]
      · rw [if_neg hk0]
theorem run_sl_low (a : Option Addr) (len cap k : Nat) (K : Int) (hK : K = (k : Int)) (hk : k ≤ len) (w : World) :
    (Instr.slice 142 (.slice a len cap) (some (.int .i64 K)) none none).run Tryd.prog w = .ok (.slice (slAt a k cap) (len - k) (cap - k)) w := by
  subst hK
  have hsz : (sizeOf 5).run Tryd.prog w = .ok 1 w := by kernel_rfl
  rw [run_slice_l w 142 a len cap (by kernel_rfl) .i64 (k : Int) (by omega) (by omega), show Tryd.prog.elem 142 = 5 from by kernel_rfl, hsz]
  simp only [Result.andThen, sliced, slAt, Int.toNat_natCast, Nat.mul_one]
end Go.Proofs.YtnbmmhoofilmfaaDoor

/- Contracts of jblock's small functions. -/
namespace Go.Proofs.YtnbmmhoofilmfaaDoor
open Go.RowKit
set_option linter.unusedVariables false

theorem results_row {P : Program} {fn : Func} {p : Tmp} {ty : TypeId} (h : fn.results = #[.cell p ty]) (tmps : Array Value) (w : World) (g : Nat) (t : TypeId) (cs : Array Value) (fr : Nat × Nat) (d : TypeDesc)
    (hp : tmps.getD p undef = .pointer (some ⟨g, 0, none⟩)) (hg : w.heap[g]? = some (.cells cs t fr))
    (hu : P.underlying ty = some d) (hd : (match d with | .struct _ | .array _ _ => true | _ => false) = true) (hi : (P.info? ty).map (·.size) = some cs.size) :
    (results fn tmps).run P w = .ok (.agg cs) w := by
  have hp' : tmps[p]?.getD undef = .pointer (some ⟨g, 0, none⟩) := by simpa using hp
  simp [results, h, hp', asAddr, run_loadVar_row w g t ty cs fr d hg hu hd hi]
theorem results_blk {fn : Func} {p : Tmp} (h : fn.results = #[.cell p 32]) (tmps : Array Value) (w : World) (g : Nat) (z : Nat → Int)
    (hp : tmps.getD p undef = .pointer (some ⟨g, 0, none⟩)) (hg : Blk w g 32 256 z) : (results fn tmps).run Tryd.prog w = .ok (bval z) w :=
  results_row h tmps w g 32 (Ks .u8 256 z).toArray (0, 0) _ hp hg Tryd.underlying32 rfl (info_block' _)
theorem results_blk2 {fn : Func} {p u : Tmp} (h : fn.results = #[.cell p 32, .tmp u]) (tmps : Array Value) (w : World) (g : Nat) (z : Nat → Int)
    (hp : tmps.getD p undef = .pointer (some ⟨g, 0, none⟩)) (hg : Blk w g 32 256 z) : (results fn tmps).run Tryd.prog w = .ok (.tuple #[bval z, tmps.getD u undef]) w :=
  results_row_tmp h tmps w g 32 (Ks .u8 256 z).toArray (0, 0) _ hp hg Tryd.underlying32 rfl (info_block' _)
theorem bval_congr {z y : Nat → Int} (h : ∀ i, i < 256 → z i = y i) : bval z = bval y := by unfold bval; rw [Ks_congr h]

/-- b[lo:] of a block -/
theorem run_sliceBlkFrom (g lo : Nat) (L : Int) (hL : L = (lo : Int)) (h3 : lo < 256) (W : World) :
    (Instr.sliceAt 32 (.pointer (some ⟨g, 0, none⟩)) (some (.int .i64 L)) none none).run Tryd.prog W = .ok (.slice (some ⟨g, lo, none⟩) (256 - lo) (256 - lo)) W := by
  subst hL
  have hal : Tryd.prog.arrayLen 32 = 256 := by kernel_rfl
  have hsz : ∀ W, (sizeOf (Tryd.prog.elem 32)).run Tryd.prog W = .ok 1 W := fun W => by kernel_rfl
  rw [run_sliceAt_array_l W 32 _ (by kernel_rfl) .i64 (lo : Int) (by omega) (by rw [hal]; omega), hsz, hal]
  simp only [Result.andThen, slicedAt, Int.toNat_natCast, Nat.mul_one]
  rw [if_neg (by omega), addr_add, Nat.zero_add]
theorem maySeq_any (s : Int) (w : World) : Calls Tryd.prog 53 #[.int .u32 s] w fun e w' => e = .returned (.bool (seqB s)) ∧ w = w' := by
  by_cases h1 : 1 ≤ s
  · by_cases h2 : s ≤ 2147483648
    · have hd : Hid (seqB s = true) := by show _ = _; simp [seqB, h1, h2]
      go_enter Tryd.func53, Tryd.ntmps53
      go_wp2
      go_ret
      exact ⟨ret_bool hd.out.symm, rfl⟩
    · have hd : Hid (seqB s = false) := by show _ = _; simp [seqB, h1, h2]
      go_enter Tryd.func53, Tryd.ntmps53
      go_wp2
      go_ret
      exact ⟨ret_bool hd.out.symm, rfl⟩
  · have hd : Hid (seqB s = false) := by show _ = _; simp [seqB, h1]
    go_enter Tryd.func53, Tryd.ntmps53
    go_wp2
    go_ret
    exact ⟨ret_bool hd.out.symm, rfl⟩
theorem rSeq_any (s : Int) (w : World) : Calls Tryd.prog 71 #[.int .u32 s] w fun e w' => e = .returned (.bool (seqB s)) ∧ w = w' := by
  by_cases h1 : 1 ≤ s
  · by_cases h2 : s ≤ 2147483648
    · have hd : Hid (seqB s = true) := by show _ = _; simp [seqB, h1, h2]
      go_enter Tryd.func71, Tryd.ntmps71
      go_wp2
      go_ret
      exact ⟨ret_bool hd.out.symm, rfl⟩
    · have hd : Hid (seqB s = false) := by show _ = _; simp [seqB, h1, h2]
      go_enter Tryd.func71, Tryd.ntmps71
      go_wp2
      go_ret
      exact ⟨ret_bool hd.out.symm, rfl⟩
  · have hd : Hid (seqB s = false) := by show _ = _; simp [seqB, h1]
    go_enter Tryd.func71, Tryd.ntmps71
    go_wp2
    go_ret
    exact ⟨ret_bool hd.out.symm, rfl⟩
theorem number_any (g : Nat) (z : Nat → Int) (hz : Byt z) (k : Nat) (K : Int) (hK : K = (k : Int)) (hk : k + 4 ≤ 256) {T : TypeId} (w : World) (hB : Blk w g T 256 z) :
    Calls Tryd.prog 98 #[.pointer (some ⟨g, 0, none⟩), .int .i64 K] w fun e w' => e = .returned (.int .u32 (g32 z k)) ∧ w = w' := by
  subst hK
  have hsa := fun W => run_sliceBlkAll g 0 W
  have hgt := get32_yes g 0 256 256 (k : Int) z w (by omega) (by omega) (by omega) hB.seg hz
  rw [Int.toNat_natCast] at hgt
  have HG := Lib.hid hgt
  clear hgt
  go_enter Tryd.func98, Tryd.ntmps98
  go_wp2_with fail
  refine HG.out.mono ?_
  rintro e w1 ⟨rfl, rfl⟩
  go_wp2_with fail
  go_ret
  exact ⟨rfl, rfl⟩

/-- a word put into a block of words -/
theorem putW (g : Nat) {T : TypeId} (l : Nat → Int) (k : Nat) (K v : Int) (hK : K = 4 * (k : Int)) (hk : k < 64) (hv : 0 ≤ v) (w : World) (hB : Blk w g T 256 (wz l)) :
    Calls Tryd.prog 88 #[.slice (some ⟨g, 0, none⟩) 256 256, .int .i64 K, .int .u32 v] w fun e w' => e = .returned (.bool true) ∧ Blk w' g T 256 (wz (upd l k v)) ∧ Only g w w' := by
  refine (put32_yes g 0 256 256 K v (wz l) w (by omega) (by omega) (by omega) hv hB.seg (hB.soft 0 256)).mono fun e w' ⟨he, hp⟩ => ⟨he, ?_, hp.only⟩
  rw [show 0 + K.toNat = 4 * k by omega] at hp
  exact (hB.puts hp).congr fun i _ => wz_put l k v i
theorem jw_upd (k s f : Int) (j : Nat) : upd (upd (upd (upd (fun _ => 0) 0 1280199249) 1 k) 2 s) 3 f j = jw k s f nz j := by
  unfold upd jw nz
  by_cases h0 : j = 0
  · simp [h0]
  by_cases h1 : j = 1
  · simp [h1]
  by_cases h2 : j = 2
  · simp [h2]
  by_cases h3 : j = 3
  · simp [h3]
  simp [h0, h1, h2, h3]

set_option maxRecDepth 100000 in
set_option maxHeartbeats 1000000 in
theorem begin_any (k s f : Int) (w : World) (hk : 0 ≤ k ∧ k < 256) (hs : 0 ≤ s) (hf : 0 ≤ f) :
    Calls Tryd.prog 54 #[.int .u8 k, .int .u32 s, .int .u32 f] w fun e w' => e = .returned (bval (wz (jw k s f nz))) ∧ Below w.heap.size w w' := by
  obtain ⟨hk0, hk1⟩ := hk
  have hal := zero_block
  have hsa := fun W => run_sliceBlkAll (w.heap.size + 1) 0 W
  have hR : Hid (Blk ((w.alloc (.cells (Ks .u8 256 (fun _ => 0)).toArray 32)).alloc (.cells (Ks .u8 256 (fun _ => 0)).toArray 32)) w.heap.size 32 256 (fun _ => 0)) := (Blk.new _ _ _ _).alloc _
  have hB : Hid (Blk ((w.alloc (.cells (Ks .u8 256 (fun _ => 0)).toArray 32)).alloc (.cells (Ks .u8 256 (fun _ => 0)).toArray 32)) (w.heap.size + 1) 32 256 (wz (fun _ => 0))) := by
    have := Blk.new (w.alloc (.cells (Ks .u8 256 (fun _ => 0)).toArray 32)) 32 256 (fun _ => 0)
    simp only [World.size_alloc] at this
    exact this.congr fun i _ => (wz_zero i).symm
  have hL : Hid (Below w.heap.size w ((w.alloc (.cells (Ks .u8 256 (fun _ => 0)).toArray 32)).alloc (.cells (Ks .u8 256 (fun _ => 0)).toArray 32))) := ((Below.refl _ _).alloc (Nat.le_refl _) _).alloc (by simp) _
  go_enter Tryd.func54, Tryd.ntmps54
  go_wp2_with fail
  refine (putW (w.heap.size + 1) _ 0 0 1280199249 rfl (by omega) (by decide) _ hB.out).mono ?_
  rintro e w1 ⟨rfl, hB1, ho1⟩
  have hR1 : Blk w1 w.heap.size 32 256 (fun _ => 0) := hR.out.only ho1 (by omega)
  have hL1 : Below w.heap.size w w1 := hL.out.trans (ho1.below (by omega))
  clear hR hB hL ho1 hal
  go_wp2_with fail
  refine (putW (w.heap.size + 1) _ 1 4 k rfl (by omega) hk0 _ hB1).mono ?_
  rintro e w2 ⟨rfl, hB2, ho2⟩
  have hR2 := hR1.only ho2 (by omega)
  have hL2 : Below w.heap.size w w2 := hL1.trans (ho2.below (by omega))
  clear hR1 hB1 hL1 ho2
  go_wp2_with fail
  refine (putW (w.heap.size + 1) _ 2 8 s rfl (by omega) hs _ hB2).mono ?_
  rintro e w3 ⟨rfl, hB3, ho3⟩
  have hR3 := hR2.only ho3 (by omega)
  have hL3 : Below w.heap.size w w3 := hL2.trans (ho3.below (by omega))
  clear hR2 hB2 hL2 ho3
  go_wp2_with fail
  refine (putW (w.heap.size + 1) _ 3 12 f rfl (by omega) hf _ hB3).mono ?_
  rintro e w4 ⟨rfl, hB4, ho4⟩
  have hR4 := hR3.only ho4 (by omega)
  have hL4 : Below w.heap.size w w4 := hL3.trans (ho4.below (by omega))
  have hB5 := hB4.congr (y := wz (jw k s f nz)) fun i hi => wz_congr 64 (fun j _ => jw_upd k s f j) i hi
  clear hR3 hB3 hL3 ho4 hB4
  generalize hz : wz (jw k s f nz) = z at hB5
  have HZ := Lib.hid hz
  clear hz
  go_wp2_with (first | (refine wp_loadBlk rfl (.tmp 7) rfl (w.heap.size + 1) z rfl hB5 ?_) | (refine wp_storeBlk rfl (.tmp 6) (.tmp 20) rfl w.heap.size z _ rfl rfl hR4 ?_))
  intro w5 hR5 ho5
  go_wp2_with fail
  exact bodyPost_ret (results_blk rfl _ _ w.heap.size z rfl hR5) rfl ⟨by rw [HZ.out], hL4.trans (ho5.below (Nat.le_refl _))⟩
end Go.Proofs.YtnbmmhoofilmfaaDoor

/- A region that draws its order, walked by what holds between its operations, whichever have come up. And 'c, d := b, b' for blocks. -/
namespace Go.Proofs.YtnbmmhoofilmfaaDoor
open Go.RowKit
set_option linter.unusedVariables false

/-- each operation waits for earlier ones alone -/
def downB (md : Region.Mode) (ops : Array Oper) : Bool :=
  (List.range ops.size).all fun i => ((ops[i]?).map fun o => o.after.all fun e => !Region.binds md e || decide (e.on < i)).getD true
/-- all that it waits for has come up -/
def upB (md : Region.Mode) (o : Oper) (l : Nat → Bool) : Bool := o.after.all fun e => !Region.binds md e || l e.on

section
variable {P : Program} {md : Region.Mode} {ops : Array Oper}
theorem downB_spec (h : downB md ops = true) {i : Nat} {o : Oper} (hi : ops[i]? = some o) {e : Edge} (he : e ∈ o.after) (hb : Region.binds md e = true) : e.on < i := by
  unfold downB at h
  rw [List.all_eq_true] at h
  have h1 := h i (List.mem_range.2 (Array.getElem?_eq_some_iff.1 hi).1)
  rw [hi] at h1
  simp only [Option.map_some, Option.getD_some] at h1
  rw [Array.all_eq_true'] at h1
  have h2 := h1 e he
  rw [hb] at h2
  simpa using h2
theorem ready_nil (h : downB md ops = true) {listed : Array Bool} (hs : listed.size = ops.size) (hr : Region.ready md ops listed = []) : ∀ i, i < ops.size → listed.getD i false = true := by
  intro i
  induction i using Nat.strongRecOn with
  | _ i ih =>
    intro hi
    cases hl : listed.getD i false with
    | true => rfl
    | false =>
      exfalso
      have : i ∈ Region.ready md ops listed := by
        refine mem_ready.2 ⟨?_, ops[i], Array.getElem?_eq_getElem hi, fun e he hb => ?_⟩
        · rw [Array.getD_eq_getD_getElem?, Array.getElem?_eq_getElem (by omega)] at hl ⊢; simpa using hl
        · have := downB_spec h (Array.getElem?_eq_getElem hi) he hb
          exact ih _ this (by omega)
      rw [hr] at this
      cases this

/-- what is to be shown of each operation -/
def StepsI (P : Program) (md : Region.Mode) (ops : Array Oper) (Q : Exit → Act → World → Prop) (I : (Nat → Bool) → Act → World → Prop) : Nat → List Oper → Prop
  | _, [] => True
  | n, o :: rest => (∀ l a w, l n = false → upB md o l = true → I l a w → wpOp P ops Q n (I (fun j => j == n || l j)) a w) ∧ StepsI P md ops Q I (n + 1) rest
theorem StepsI.get {Q : Exit → Act → World → Prop} {I : (Nat → Bool) → Act → World → Prop} : ∀ (L : List Oper) (n i : Nat) (o : Oper), StepsI P md ops Q I n L → L[i]? = some o →
    ∀ l a w, l (n + i) = false → upB md o l = true → I l a w → wpOp P ops Q (n + i) (I (fun j => j == (n + i) || l j)) a w
  | [], _, _, _, _, h => by cases h
  | o' :: L, n, 0, o, h, hi => by cases hi; exact h.1
  | o' :: L, n, i + 1, o, h, hi => by
    have := StepsI.get L (n + 1) i o h.2 (by simpa using hi)
    rw [show n + 1 + i = n + (i + 1) by omega] at this
    exact this

theorem wpAny_inv {Q : Exit → Act → World → Prop} {I : (Nat → Bool) → Act → World → Prop} (hd : downB md ops = true) (hst : StepsI P md ops Q I 0 ops.toList)
    (hI : ∀ l l' a w, (∀ i, i < ops.size → l i = l' i) → I l a w → I l' a w)
    (hend : ∀ a w, I (fun _ => true) a w → Q .normal a w) : ∀ (fuel : Nat) (listed : Array Bool) (a : Act) (w : World), listed.size = ops.size → (listed.toList.filter (fun b => !b)).length = fuel →
      I (fun j => listed.getD j false) a w → wpAny P md ops Q fuel listed a w := by
  have fin : ∀ (listed : Array Bool) (a : Act) (w : World), listed.size = ops.size → Region.ready md ops listed = [] → I (fun j => listed.getD j false) a w → Q .normal a w := fun listed a w hs hr h =>
    hend a w (hI _ _ a w (fun i hi => ready_nil hd hs hr i hi) h)
  intro fuel
  induction fuel with
  | zero =>
    intro listed a w hs hc h
    have hall : ∀ b ∈ listed.toList, b = true := by
      intro b hb
      cases b with
      | true => rfl
      | false =>
        have : false ∈ listed.toList.filter (fun b => !b) := List.mem_filter.2 ⟨hb, rfl⟩
        rw [List.length_eq_zero_iff.1 hc] at this
        cases this
    have hr : Region.ready md ops listed = [] := by
      cases hr : Region.ready md ops listed with
      | nil => rfl
      | cons i r =>
        have hi : i ∈ Region.ready md ops listed := by rw [hr]; simp
        obtain ⟨h1, o, ho, _⟩ := mem_ready.1 hi
        have hlt : i < listed.size := by rw [hs]; exact (Array.getElem?_eq_some_iff.1 ho).1
        rw [Array.getD_eq_getD_getElem?, Array.getElem?_eq_getElem hlt] at h1
        have := hall listed[i] (by simp)
        simp [this] at h1
    exact ⟨hr, fin listed a w hs hr h⟩
  | succ fuel ih =>
    intro listed a w hs hc h
    refine ⟨fun hr => fin listed a w hs hr h, fun i hi => ?_⟩
    obtain ⟨h1, o, ho, hall⟩ := mem_ready.1 hi
    have hlt : i < listed.size := by rw [hs]; exact (Array.getElem?_eq_some_iff.1 ho).1
    have hli : listed[i] = false := by rw [Array.getD_eq_getD_getElem?, Array.getElem?_eq_getElem hlt] at h1; simpa using h1
    have hstep := StepsI.get ops.toList 0 i o hst (by simpa using ho) (fun j => listed.getD j false) a w (by rw [Nat.zero_add, Array.getD_eq_getD_getElem?, Array.getElem?_eq_getElem hlt]; simpa using hli)
      (by
        unfold upB
        rw [Array.all_eq_true']
        intro e he
        cases hb : Region.binds md e with
        | false => rfl
        | true => simpa using hall e he hb) h
    rw [Nat.zero_add] at hstep
    refine wpOp_mono (fun a' w' h' => ?_) hstep
    refine ih _ a' w' (by simpa using hs) ?_ (hI _ _ a' w' (fun j hj => ?_) h')
    · have key : ∀ (L : List Bool) (i : Nat) (hi : i < L.length), L[i] = false → ((L.set i true).filter (fun b => !b)).length + 1 = (L.filter (fun b => !b)).length := by
        intro L
        induction L with
        | nil => intro i hi; simp at hi
        | cons b L ihL =>
          intro i hi hb
          cases i with
          | zero => simp at hb; subst hb; simp
          | succ i =>
            have := ihL i (by simpa using hi) (by simpa using hb)
            cases b <;> simp <;> omega
      have := key listed.toList i (by simpa using hlt) (by simpa using hli)
      rw [hc] at this
      have e : (listed.setIfInBounds i true).toList = listed.toList.set i true := by simp
      rw [e]
      omega
    · by_cases hji : j = i
      · subst hji
        simp [Array.getD_eq_getD_getElem?, hlt]
      · simp only [Array.getD_eq_getD_getElem?, Array.getElem?_setIfInBounds_ne (Ne.symm hji), show (j == i) = false by simpa using hji, Bool.false_or]

/-- **A drawn region by what holds between its operations.** I says what holds of the frame and the world by which operations have come up. -/
theorem wp_region_inv (I : (Nat → Bool) → Act → World → Prop) {id : Nat} {Q : Exit → Act → World → Prop} {a : Act} {w : World} {L : List Oper} (hm : P.follows .mixedOrders = true) (hd : downB .any L.toArray = true)
    (hI : ∀ l l' a w, (∀ i, i < L.length → l i = l' i) → I l a w → I l' a w) (h0 : I (fun _ => false) a { w with drawn := w.drawn + 1 }) (hst : StepsI P .any L.toArray Q I 0 L)
    (hend : ∀ a w, I (fun _ => true) a w → Q .normal a w) : (Code.region id L.toArray true).wp P Q a w := by
  refine wp_region_any hm (wpAny_inv (I := I) hd (by simpa using hst) (by simpa using hI) hend _ _ a _ (by simp) (by simp) (hI _ _ _ _ (fun i hi => ?_) h0))
  simp [Array.getD_eq_getD_getElem?, hi]
end
end Go.Proofs.YtnbmmhoofilmfaaDoor

/- A drawn region in two phases: the first n operations in whatever order, each quiet in a class of worlds; the others wait for all that stand ahead of them, so they come one behind the other. No program in sight. -/
namespace Go.Proofs.YtnbmmhoofilmfaaDoor
open Go.RowKit
set_option linter.unusedVariables false

/-- from n on each operation waits for all ahead of it; ahead of n the guards stand ahead of n -/
def barB (md : Region.Mode) (n : Nat) (ops : Array Oper) : Bool :=
  (List.range ops.size).all fun j => match ops[j]? with
    | none => true
    | some o => if j < n then (match o.guard with | none => true | some (g, _) => decide (g < n)) else (List.range j).all fun i => o.after.any fun e => Region.binds md e && e.on == i

section
variable {P : Program} {md : Region.Mode} {ops : Array Oper}
theorem barB_wait {n : Nat} (h : barB md n ops = true) {j : Nat} {o : Oper} (hj : ops[j]? = some o) (hn : n ≤ j) {i : Nat} (hi : i < j) : ∃ e ∈ o.after, Region.binds md e = true ∧ e.on = i := by
  unfold barB at h
  rw [List.all_eq_true] at h
  have h1 := h j (List.mem_range.2 (Array.getElem?_eq_some_iff.1 hj).1)
  simp only [hj, if_neg (show ¬ j < n by omega), List.all_eq_true] at h1
  have h2 := h1 i (List.mem_range.2 hi)
  rw [Array.any_eq_true'] at h2
  obtain ⟨e, he, hb⟩ := h2
  rw [Bool.and_eq_true, beq_iff_eq] at hb
  exact ⟨e, he, hb.1, hb.2⟩
theorem barB_guard {n : Nat} (h : barB md n ops = true) {j : Nat} {o : Oper} (hj : ops[j]? = some o) (hn : j < n) {g : Nat} {b : Bool} (hg : o.guard = some (g, b)) : g < n := by
  unfold barB at h
  rw [List.all_eq_true] at h
  have h1 := h j (List.mem_range.2 (Array.getElem?_eq_some_iff.1 hj).1)
  simp only [hj, if_pos hn, hg, decide_eq_true_eq] at h1
  exact h1

theorem bar_tail {n : Nat} (hb : barB md n ops = true) (hd : downB md ops = true) {Q : Exit → Act → World → Prop} : ∀ (l : List Oper) (k x : Nat) (listed : Array Bool) (a : Act) (w : World), n ≤ k → (∀ j, l[j]? = ops[k + j]?) → listed.size = ops.size →
    (∀ i, i < k → listed.getD i false = true) → (∀ i, k ≤ i → i < ops.size → listed.getD i true = false) → wpList P ops Q l a w → wpAny P md ops Q (l.length + x) listed a w
  | [], k, x, listed, a, w, hk, hl, hs, h1, h0, h => by
    have hsz : ops.size ≤ k := by have := (hl 0).symm; simp at this; omega
    have hr : Region.ready md ops listed = [] := by
      cases hr : Region.ready md ops listed with
      | nil => rfl
      | cons i r =>
        have hi : i ∈ Region.ready md ops listed := by rw [hr]; simp
        obtain ⟨hu, o, ho, _⟩ := mem_ready.1 hi
        have hlt := (Array.getElem?_eq_some_iff.1 ho).1
        have := h1 i (by omega)
        rw [Array.getD_eq_getD_getElem?, Array.getElem?_eq_getElem (by omega)] at hu this
        simp at hu this
        rw [this] at hu; cases hu
    cases x with
    | zero => exact ⟨hr, h⟩
    | succ x =>
      rw [show ([] : List Oper).length + (x + 1) = x + 1 by simp]
      exact ⟨fun _ => h, fun i hi => by rw [hr] at hi; cases hi⟩
  | o :: l, k, x, listed, a, w, hk, hl, hs, h1, h0, h => by
    have ho : ops[k]? = some o := by simpa using (hl 0).symm
    have hlt := (Array.getElem?_eq_some_iff.1 ho).1
    have hin : k ∈ Region.ready md ops listed := mem_ready.2 ⟨h0 k (Nat.le_refl _) hlt, o, ho, fun e he hbe => h1 _ (downB_spec hd ho he hbe)⟩
    rw [show (o :: l).length + x = (l.length + x) + 1 by simp; omega]
    refine ⟨fun hr => (by rw [hr] at hin; cases hin), fun i hi => ?_⟩
    obtain ⟨hu, oi, hoi, hall⟩ := mem_ready.1 hi
    have hilt := (Array.getElem?_eq_some_iff.1 hoi).1
    have hik : i = k := by
      rcases Nat.lt_trichotomy i k with hh | hh | hh
      · have := h1 i hh
        rw [Array.getD_eq_getD_getElem?, Array.getElem?_eq_getElem (by omega)] at hu this
        simp at hu this
        rw [this] at hu; cases hu
      · exact hh
      · obtain ⟨e, he, hbe, hon⟩ := barB_wait hb hoi (by omega) hh
        have hx := hall e he hbe
        rw [hon] at hx
        have h2 := h0 k (Nat.le_refl _) hlt
        rw [Array.getD_eq_getD_getElem?, Array.getElem?_eq_getElem (by omega)] at hx h2
        simp at hx h2
        rw [hx] at h2; cases h2
    subst hik
    have key : wpOp P ops Q i (wpList P ops Q l) a w := by
      unfold wpOp
      simp only [ho]
      exact h
    refine wpOp_mono (fun a' w' h' => bar_tail hb hd l (i + 1) x _ a' w' (by omega) (fun j => by have := hl (j + 1); simpa [Nat.add_assoc, Nat.add_comm 1 j] using this) (by simpa using hs) (fun j hj => ?_) (fun j hj hjs => ?_) h') key
    · by_cases hji : j = i
      · subst hji; simp [Array.getD_eq_getD_getElem?, hs, hlt]
      · rw [Array.getD_eq_getD_getElem?, Array.getElem?_setIfInBounds_ne (Ne.symm hji), ← Array.getD_eq_getD_getElem?]; exact h1 j (by omega)
    · rw [Array.getD_eq_getD_getElem?, Array.getElem?_setIfInBounds_ne (by omega), ← Array.getD_eq_getD_getElem?]; exact h0 j (by omega) hjs

theorem bar_head {n : Nat} {ops1 : Array Oper} {l2 : List Oper} {C : World → Prop} (hb : barB md n ops = true) (hd : downB md ops = true) (hd1 : downB md ops1 = true) (hn1 : ops1.size = n) (h1 : ∀ i, i < n → ops1[i]? = ops[i]?) (hl : ∀ j, l2[j]? = ops[n + j]?)
    {Q : Exit → Act → World → Prop} {Q1 : Act → Prop} (hQ : ∀ a w, C w → Q1 a → wpList P ops Q l2 a w) : ∀ (fuel : Nat) (listed1 listed : Array Bool) (a : Act) (w : World), C w → listed1.size = n → listed.size = ops.size →
      (∀ i, i < n → listed1[i]? = listed[i]?) → (∀ i, n ≤ i → i < ops.size → listed.getD i true = false) → wpAnyQ P md ops1 C Q1 fuel listed1 a → wpAny P md ops Q (l2.length + fuel) listed a w := by
  have hnn : n ≤ ops.size := by
    rcases Nat.lt_or_ge ops.size n with h | h
    · have := h1 ops.size h
      rw [Array.getElem?_eq_none (Nat.le_refl _), Array.getElem?_eq_none_iff] at this
      omega
    · exact h
  have done : ∀ (fuel : Nat) (listed1 listed : Array Bool) (a : Act) (w : World), C w → listed1.size = n → listed.size = ops.size → (∀ i, i < n → listed1[i]? = listed[i]?) → (∀ i, n ≤ i → i < ops.size → listed.getD i true = false) →
      Region.ready md ops1 listed1 = [] → Q1 a → wpAny P md ops Q (l2.length + fuel) listed a w := fun fuel listed1 listed a w hw hs1 hs hll h0 hr hq => by
    refine bar_tail hb hd l2 n fuel listed a w (Nat.le_refl _) hl hs (fun i hi => ?_) h0 (hQ a w hw hq)
    have := ready_nil hd1 (by omega) hr i (by omega)
    rw [Array.getD_eq_getD_getElem?, hll i hi, ← Array.getD_eq_getD_getElem?] at this
    exact this
  intro fuel
  induction fuel with
  | zero => intro listed1 listed a w hw hs1 hs hll h0 h; exact done 0 listed1 listed a w hw hs1 hs hll h0 h.1 h.2
  | succ fuel ih =>
    intro listed1 listed a w hw hs1 hs hll h0 h
    by_cases hr : Region.ready md ops1 listed1 = []
    · exact done _ listed1 listed a w hw hs1 hs hll h0 hr (h.1 hr)
    · obtain ⟨i0, hi0⟩ := List.exists_mem_of_ne_nil _ hr
      obtain ⟨hu0, o0, ho0, hall0⟩ := mem_ready.1 hi0
      have hi0n : i0 < n := by rw [← hn1]; exact (Array.getElem?_eq_some_iff.1 ho0).1
      have get : ∀ i, i < n → ∀ d, listed1.getD i d = listed.getD i d := fun i hi d => by rw [Array.getD_eq_getD_getElem?, Array.getD_eq_getD_getElem?, hll i hi]
      have up : i0 ∈ Region.ready md ops listed := mem_ready.2 ⟨by rw [← get i0 hi0n]; exact hu0, o0, by rw [← h1 i0 hi0n]; exact ho0, fun e he hbe => by
        have hlt := downB_spec hd1 ho0 he hbe
        rw [← get e.on (by omega)]; exact hall0 e he hbe⟩
      rw [show l2.length + (fuel + 1) = (l2.length + fuel) + 1 by omega]
      refine ⟨fun hrr => (by rw [hrr] at up; cases up), fun i hi => ?_⟩
      obtain ⟨hu, o, ho, hall⟩ := mem_ready.1 hi
      have hin : i < n := by
        rcases Nat.lt_or_ge i n with hh | hh
        · exact hh
        · obtain ⟨e, he, hbe, hon⟩ := barB_wait hb ho hh (i := i0) (by omega)
          have hx := hall e he hbe
          rw [hon, ← get i0 hi0n] at hx
          rw [Array.getD_eq_getD_getElem?, Array.getElem?_eq_getElem (by omega)] at hx hu0
          simp at hx hu0
          rw [hx] at hu0; cases hu0
      have ho1 : ops1[i]? = some o := by rw [h1 i hin]; exact ho
      have hi1 : i ∈ Region.ready md ops1 listed1 := mem_ready.2 ⟨by rw [get i hin]; exact hu, o, ho1, fun e he hbe => by
        have hlt := downB_spec hd1 ho1 he hbe
        rw [get e.on (by omega)]; exact hall e he hbe⟩
      have hq := h.2 i hi1
      have hwant : ∀ a : Act, Region.wanted o (yielded ops1 a.tmps) = Region.wanted o (yielded ops a.tmps) := fun a => by
        unfold Region.wanted
        cases hg : o.guard with
        | none => rfl
        | some p =>
          obtain ⟨g, b⟩ := p
          have := barB_guard hb ho hin hg
          simp only [yielded, h1 g this]
      have hq' : qOp P ops C i (wpAnyQ P md ops1 C Q1 fuel (listed1.setIfInBounds i true)) a := by
        unfold qOp at hq ⊢
        simp only [ho1] at hq
        simp only [ho]
        rw [← hwant]
        exact hq
      refine wpOp_of_qOp hw (fun a' w' hw' h' => ih (listed1.setIfInBounds i true) (listed.setIfInBounds i true) a' w' hw' (by simpa using hs1) (by simpa using hs) (fun j hj => ?_) (fun j hj hjs => ?_) h') hq'
      · by_cases hji : i = j
        · subst hji; simp [hs1, hs, hj, show i < ops.size by omega]
        · rw [Array.getElem?_setIfInBounds_ne hji, Array.getElem?_setIfInBounds_ne hji]; exact hll j hj
      · rw [Array.getD_eq_getD_getElem?, Array.getElem?_setIfInBounds_ne (by omega), ← Array.getD_eq_getD_getElem?]; exact h0 j hj hjs

/-- **A drawn region in two phases.** -/
theorem wp_region_bar (S : World → Prop) (n : Nat) {id : Nat} {Q : Exit → Act → World → Prop} {a : Act} {w : World} {L : List Oper} (hm : P.follows .mixedOrders = true) (hB : Region.lexB .any (L.take n).toArray = true)
    (hb : barB .any n L.toArray = true) (hd : downB .any L.toArray = true) (hd1 : downB .any (L.take n).toArray = true) (hn : n ≤ L.length) (hS : S { w with drawn := w.drawn + 1 })
    (h : Nonempty (InW S) → wpQuiet P (L.take n).toArray (fun w' => ∃ s : InW S, w' = s.W) (fun a' => ∀ w', InS S w' → wpList P L.toArray Q (L.drop n) a' w') (L.take n) a) : (Code.region id L.toArray true).wp P Q a w := by
  have hC : ∃ s : InW S, { w with drawn := w.drawn + 1 } = s.W := ⟨⟨_, hS⟩, rfl⟩
  simp only [Region.lexB, Bool.and_eq_true] at hB
  have hq := wpAnyQ_lex (C := fun w' => ∃ s : InW S, w' = s.W) (md := .any) hB.1 (L.take n) 0 (Array.replicate n false) a (by simp) (by have := hB.2; simpa [Nat.min_eq_left hn] using this) (h ⟨⟨_, hS⟩⟩)
  have hlen : (L.take n).length = n := by simp [Nat.min_eq_left hn]
  rw [hlen] at hq
  have := bar_head (P := P) (md := .any) (ops := L.toArray) (ops1 := (L.take n).toArray) (l2 := L.drop n) (n := n) (C := fun w' => ∃ s : InW S, w' = s.W) hb hd hd1 (by simp [Nat.min_eq_left hn]) (fun i hi => by simp [hi]) (fun j => by simp)
    (Q := Q) (Q1 := fun a' => ∀ w', InS S w' → wpList P L.toArray Q (L.drop n) a' w') (fun a w hw h => h w hw) n (Array.replicate n false) (Array.replicate L.length false) a { w with drawn := w.drawn + 1 } hC (by simp) (by simp)
    (fun i hi => by simp [hi, show i < L.length by omega]) (fun i hi hs => by simp at hs; simp [hs]) hq
  rw [show (L.drop n).length + n = L.length by simp; omega] at this
  refine wp_region_any hm ?_
  simpa using this
end
end Go.Proofs.YtnbmmhoofilmfaaDoor
