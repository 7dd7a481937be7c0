/- Texts of this claim, merged by a program (a claim may have 60 files): Jb5, Jb6, Jb7. -/
import Derived.Test.YtopakpmepioomaaDoorK25
import Derived.Laws.OwnMore
/- The contract of jblock.writeRows over tags, and of WriteDesc. -/
namespace Go.Proofs.YtopakpmepioomaaDoor
open Go.RowKit
set_option linter.unusedVariables false

/-- what stands while rows are written -/
structure WrSt (w : World) (G : Nat) (l : Nat → Int) (b off n : Nat) (tb : Nat → Int) (te : Nat → Bool) (W : World) : Prop where
  r : Blk W w.heap.size 32 256 (fun _ => 0)
  g : Blk W G 32 256 (wz l)
  t : TagSeg W b off n tb te
  bel : Below w.heap.size w W
theorem WrSt.below {w W W' : World} {G : Nat} {l : Nat → Int} {b off n : Nat} {tb : Nat → Int} {te : Nat → Bool} (h : WrSt w G l b off n tb te W) (hn : 0 < n) (hb : Below W.heap.size W W') : WrSt w G l b off n tb te W' :=
  ⟨h.r.below hb h.r.lt, h.g.below hb h.g.lt, h.t.below hb (h.t.lt hn), h.bel.trans (hb.mono h.bel.size)⟩
theorem TagSeg.grown {w w' : World} {b off n G : Nat} {tb : Nat → Int} {te : Nat → Bool} (h : TagSeg w b off n tb te) (hg : w.grownBy w' (some G)) (hb : b ≠ G) : TagSeg w' b off n tb te := fun i hi => by
  have hh := h i hi
  have hbl : w'.heap[b]? = w.heap[b]? := hg.block b (World.block_lt_of_cell? w _ hh.1) (by simpa using hb)
  exact ⟨(show w'.cell? ⟨b, off + i * 2, none⟩ = w.cell? ⟨b, off + i * 2, none⟩ from World.cell?_of_block (w := w) hbl).trans hh.1, (show w'.cell? ⟨b, off + i * 2 + 1, none⟩ = w.cell? ⟨b, off + i * 2 + 1, none⟩ from World.cell?_of_block (w := w) hbl).trans hh.2⟩
theorem tagRange {W : World} {b off n : Nat} {tb : Nat → Int} {te : Nat → Bool} (h : TagSeg W b off n tb te) (i : Nat) (hi : i < n) : W.rangeAt b (off + i * 2) [.int .u32 (tb i), .bool (te i)] := by
  intro j v hj
  rcases j with _ | _ | j
  · cases hj; exact (h i hi).1
  · cases hj; exact (h i hi).2
  · cases hj

end Go.Proofs.YtopakpmepioomaaDoor

/- Contracts of jblock.ReadHead, of writeRows over numbers, and of WriteRevoke. -/
namespace Go.Proofs.YtopakpmepioomaaDoor
open Go.RowKit
set_option linter.unusedVariables false

/-- n numbers stand at a place -/
def NumSeg (w : World) (b off n : Nat) (m : Nat → Int) : Prop := ∀ i, i < n → w.cell? ⟨b, off + i, none⟩ = some (.int .u32 (m i))
def NumRow (w : World) (a : Option Addr) (n : Nat) (m : Nat → Int) : Prop := n = 0 ∨ ∃ b off, a = some ⟨b, off, none⟩ ∧ NumSeg w b off n m
theorem NumSeg.below {w w' : World} {b off n : Nat} {m : Nat → Int} (h : NumSeg w b off n m) {B : Nat} (hb : Below B w w') (hB : b < B) : NumSeg w' b off n m :=
  fun i hi => (hb.cell (p := ⟨b, off + i, none⟩) hB).trans (h i hi)
theorem NumSeg.lt {w : World} {b off n : Nat} {m : Nat → Int} (h : NumSeg w b off n m) (hn : 0 < n) : b < w.heap.size := World.block_lt_of_cell? w _ (h 0 hn)
theorem NumSeg.only {w w' : World} {b off n g : Nat} {m : Nat → Int} (h : NumSeg w b off n m) (hb : Only g w w') (hg : b ≠ g) : NumSeg w' b off n m :=
  fun i hi => (hb.cell (p := ⟨b, off + i, none⟩) hg).trans (h i hi)
theorem NumRow.below {w w' : World} {a : Option Addr} {n : Nat} {m : Nat → Int} (h : NumRow w a n m) (hb : Below w.heap.size w w') : NumRow w' a n m := by
  rcases h with h | ⟨b, off, rfl, h⟩
  · exact .inl h
  · by_cases h0 : n = 0
    · exact .inl h0
    · exact .inr ⟨b, off, rfl, h.below hb (h.lt (by omega))⟩
/-- the rows of the first k numbers -/
def numR (m : Nat → Int) (k : Nat) (j : Nat) : Int := if j < k then m j else 0
def revOk (s : Int) (n : Nat) (m : Nat → Int) : Bool := seqB s && (decide (1 ≤ n ∧ n ≤ 60) && riseB m n)
def revZ (s : Int) (n : Nat) (m : Nat → Int) : Nat → Int := if revOk s n m then wz (jw 3 s n (numR m n)) else fun _ => 0
theorem numR_next (s n : Int) (m : Nat → Int) (k j : Nat) : upd (jw 3 s n (numR m k)) (4 + k) (m k) j = jw 3 s n (numR m (k + 1)) j := by
  unfold upd
  by_cases h4 : j = 4 + k
  · rw [if_pos h4]
    unfold jw numR
    rw [if_neg (by omega), if_neg (by omega), if_neg (by omega), if_neg (by omega), if_pos (by omega), show j - 4 = k by omega]
  rw [if_neg h4]
  unfold jw
  split
  · rfl
  · split
    · rfl
    · split
      · rfl
      · split
        · rfl
        · unfold numR
          by_cases c : j - 4 < k
          · rw [if_pos c, if_pos (by omega)]
          · rw [if_neg c, if_neg (by omega)]
theorem numR_zero (s n : Int) (m : Nat → Int) (j : Nat) : jw 3 s n nz j = jw 3 s n (numR m 0) j := by
  unfold jw numR nz
  simp

structure NrSt (w : World) (G : Nat) (l : Nat → Int) (b off n : Nat) (m : Nat → Int) (W : World) : Prop where
  r : Blk W w.heap.size 32 256 (fun _ => 0)
  g : Blk W G 32 256 (wz l)
  t : NumSeg W b off n m
  bel : Below w.heap.size w W

/-- the head that a block tells -/
def hdS (z : Nat → Int) : Int := if headRd z then seqOf z else 0
def hdT (z : Nat → Int) : Int := if headRd z then wd z 3 else 0
theorem zero_head (W : World) : (zeroValue 65).run Tryd.prog W = .ok (.agg #[.int .u32 0, .int .i64 0]) W := by kernel_rfl
theorem info_head (s t : Int) : (Tryd.prog.info? 65).map (·.size) = some (#[Value.int .u32 s, .int .i64 t] : Array Value).size := by kernel_rfl
theorem one_head (s t : Int) : (#[Value.int .u32 s, .int .i64 t] : Array Value).all (·.oneCell') = true := by simp [Value.oneCell']
theorem results_head {fn : Func} {p u : Tmp} (h : fn.results = #[.cell p 65, .tmp u]) (tmps : Array Value) (w : World) (g : Nat) (s t : Int)
    (hp : tmps.getD p undef = .pointer (some ⟨g, 0, none⟩)) (hg : At w g 65 #[.int .u32 s, .int .i64 t]) : (results fn tmps).run Tryd.prog w = .ok (.tuple #[.agg #[.int .u32 s, .int .i64 t], tmps.getD u undef]) w :=
  results_row_tmp h tmps w g 65 _ (0, 0) _ hp hg Tryd.underlying65 rfl (info_head _ _)

end Go.Proofs.YtopakpmepioomaaDoor

/- The contract of jblock.readRows over numbers, and of ReadRevoke. -/
namespace Go.Proofs.YtopakpmepioomaaDoor
open Go.RowKit
set_option linter.unusedVariables false

/-- how many rows a block tells -/
def rowsN (z : Nat → Int) : Nat := (wd z 3).toNat
def revM (z : Nat → Int) : Nat → Int := fun i => wd z (4 + i)
def revRd (z : Nat → Int) : Bool := kindOf z == 3 && (decide (1 ≤ wd z 3 ∧ wd z 3 ≤ 60) && (riseB (revM z) (rowsN z) && allZ (fun j => wd z (4 + rowsN z + j)) (60 - rowsN z)))
/-- what ReadRevoke answers -/
def RevRead (w : World) (z : Nat → Int) (e : Ending) (w' : World) : Prop :=
  Below w.heap.size w w' ∧ (revRd z = false ∧ e = .returned (.tuple #[.int .u32 0, .slice none 0 0, .int .i64 90]) ∨
    revRd z = true ∧ ∃ g cap, e = .returned (.tuple #[.int .u32 (wd z 2), .slice (some ⟨g, 0, none⟩) (rowsN z) cap, .int .i64 0]) ∧ w'.ownsRow w.heap.size 40 1 (.slice (some ⟨g, 0, none⟩) (rowsN z) cap) (rowsN z) (Ks .u32 (rowsN z) (revM z)))
theorem info_u32 : (Tryd.prog.info? 40).map (fun i => (i.zero, i.size, i.bytes)) = some (some (.int .u32 0), 1, 4) := by kernel_rfl
theorem run_num1 (x : Int) (w : World) : (Instr.buildSlice 109 1 #[(0, .int .u32 x)]).run Tryd.prog w = .ok (.slice (some ⟨w.heap.size, 0, none⟩) 1 1) (w.alloc (.cells #[.int .u32 x] 40)) := by kernel_rfl
theorem Ks_snoc (k : IntKind) (n : Nat) (z : Nat → Int) : Ks k (n + 1) z = Ks k n z ++ [.int k (z n)] := by
  unfold Ks; rw [List.range_succ, List.map_append]; rfl
theorem run_sliceBlkEnd (g : Nat) (W : World) : (Instr.sliceAt 32 (.pointer (some ⟨g, 0, none⟩)) (some (.int .i64 256)) none none).run Tryd.prog W = .ok (.slice (some ⟨g, 0, none⟩) 0 0) W := by kernel_rfl
/-- what stands while rows are read -/
structure RnSt (w : World) (z : Nat → Int) (g cap k : Nat) (W : World) : Prop where
  b : Blk W w.heap.size 32 256 z
  own : W.ownsRow (w.heap.size + 1) 40 1 (.slice (some ⟨g, 0, none⟩) k cap) k (Ks .u32 k (revM z))
  bel : Below w.heap.size w W
theorem own_cell {W : World} {base g cap k : Nat} {e : TypeId} {kd : IntKind} {m : Nat → Int} (h : W.ownsRow base e 1 (.slice (some ⟨g, 0, none⟩) k cap) k (Ks kd k m)) (i : Nat) (hi : i < k) : W.cell? ⟨g, i, none⟩ = some (.int kd (m i)) := by
  rcases h.2 with ⟨hv, _⟩ | ⟨g', cap', cur, hv, _, hg, _, _, _, ht⟩
  · cases hv
  · injection hv with h1 h2 h3
    injection h1 with h1; injection h1 with h1
    subst h1
    refine cell_of_heap hg ?_
    have := Ks_get kd k m i hi
    rw [← ht, List.getElem?_take_of_lt (by omega)] at this
    simpa using this
theorem own_base {W : World} {base g cap k : Nat} {e : TypeId} {size : Nat} {xs : List Value} (h : W.ownsRow base e size (.slice (some ⟨g, 0, none⟩) k cap) k xs) : base ≤ g := by
  rcases h.2 with ⟨hv, _⟩ | ⟨g', cap', cur, hv, hb, _⟩
  · cases hv
  · injection hv with h1; injection h1 with h1; injection h1 with h1; omega
theorem own_form {W : World} {base k : Nat} {e : TypeId} {size : Nat} {v : Value} {xs : List Value} (h : W.ownsRow base e size v (k + 1) xs) : ∃ g cap, v = .slice (some ⟨g, 0, none⟩) (k + 1) cap := by
  rcases h.2 with ⟨_, h0⟩ | ⟨g', cap', cur, hv, _⟩
  · omega
  · exact ⟨g', cap', hv⟩
theorem own_mono {W : World} {base base' g cap k : Nat} {e : TypeId} {size : Nat} {xs : List Value} (h : W.ownsRow base e size (.slice (some ⟨g, 0, none⟩) k cap) k xs) (hb : base' ≤ base) : W.ownsRow base' e size (.slice (some ⟨g, 0, none⟩) k cap) k xs := by
  refine ⟨h.1, ?_⟩
  rcases h.2 with h' | ⟨g', cap', cur, hv, hbb, hr⟩
  · exact .inl h'
  · exact .inr ⟨g', cap', cur, hv, by omega, hr⟩
theorem rdNo {w w' : World} {z : Nat → Int} (h : revRd z = false) (hb : Below w.heap.size w w') : RevRead w z (.returned (.tuple #[.int .u32 0, .slice none 0 0, .int .i64 90])) w' := ⟨hb, .inl ⟨h, rfl⟩⟩

end Go.Proofs.YtopakpmepioomaaDoor
