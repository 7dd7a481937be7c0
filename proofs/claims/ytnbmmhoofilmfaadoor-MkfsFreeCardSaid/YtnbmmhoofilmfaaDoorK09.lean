/- Texts of this claim, merged by a program (a claim may have 60 files): At, Geo, AtIn, CopyQ, InvA, Val. -/
import Derived.Test.YtnbmmhoofilmfaaDoorK06
import Derived.OwnWalkIn
import Derived.TacticsInMore
import Derived.Test.YtnbmmhoofilmfaaDoorK07
/- A struct in a heap block: read, stored. -/
namespace Go.Proofs.YtnbmmhoofilmfaaDoor
open Go.RowKit
set_option linter.unusedVariables false

/-- heap block g is this row of cells -/
def At (w : World) (g : Nat) (T : TypeId) (cs : Array Value) : Prop := w.heap[g]? = some (.cells cs T (0, 0))
theorem At.lt {w : World} {g : Nat} {T : TypeId} {cs : Array Value} (h : At w g T cs) : g < w.heap.size := (Array.getElem?_eq_some_iff.1 h).1
theorem At.new (w : World) (T : TypeId) (cs : Array Value) : At (w.alloc (.cells cs T)) w.heap.size T cs := heap_alloc_new w _
theorem At.alloc {w : World} {g : Nat} {T : TypeId} {cs : Array Value} (h : At w g T cs) (o : Obj) : At (w.alloc o) g T cs := heap_alloc_keep h o
theorem At.below {w w' : World} {g : Nat} {T : TypeId} {cs : Array Value} (h : At w g T cs) {B : Nat} (hb : Below B w w') (hg : g < B) : At w' g T cs := (hb.block g hg).trans h
theorem At.only {w w' : World} {g : Nat} {T : TypeId} {cs : Array Value} (h : At w g T cs) {b : Nat} (hb : Only b w w') (hg : g ≠ b) : At w' g T cs := (hb.block g hg).trans h
theorem At.cell {w : World} {g : Nat} {T : TypeId} {cs : Array Value} (h : At w g T cs) {i : Nat} {v : Value} (hi : cs[i]? = some v) : w.cell? ⟨g, i, none⟩ = some v := cell_of_heap h hi
theorem At.range {w : World} {g : Nat} {T : TypeId} {cs : Array Value} (h : At w g T cs) : w.rangeAt g 0 cs.toList := by
  intro j v hj
  rw [Nat.zero_add]
  exact cell_of_heap h (by simpa using hj)
/-- a struct stored whole -/
theorem wp_storeAt {P : Program} {w : World} {ops : Array Oper} {rest : List Oper} {o : Oper} {a : Act} {Q : Exit → Act → World → Prop} (hgd : o.guard = none) (T : TypeId) (p q : Operand) (ho : o.op = .store T p q)
    (g : Nat) (cs old : Array Value) (hx : a.eval p = .pointer (some ⟨g, 0, none⟩)) (hy : a.eval q = .agg cs) (hI : At w g T old) (hi : (P.info? T).map (·.size) = some cs.size) (hs : old.size = cs.size) (h1 : cs.all (·.oneCell') = true)
    (h : ∀ w', At w' g T cs → Only g w w' → wpList P ops Q rest (a.put o.dst undef) w') : wpList P ops Q (o :: rest) a w :=
  wpList_store_row hgd T p q ho g cs hx hy T _ hI hi hs h1 (h _ (setRow_heap w g _ cs _ _ hI) (only_setRow w g _ hI hs.symm))
theorem wp_loadAtG {P : Program} {w : World} {ops : Array Oper} {rest : List Oper} {o : Oper} {a : Act} {Q : Exit → Act → World → Prop} (hw : Region.wanted o (yielded ops a.tmps) = true) (T : TypeId) (p : Operand) (ho : o.op = .load T p)
    (g : Nat) (cs : Array Value) (d : TypeDesc) (hx : a.eval p = .pointer (some ⟨g, 0, none⟩)) (hI : At w g T cs) (hu : P.underlying T = some d) (hd : (match d with | .struct _ | .array _ _ => true | _ => false) = true) (hi : (P.info? T).map (·.size) = some cs.size)
    (h : wpList P ops Q rest (a.put o.dst (.agg cs)) w) : wpList P ops Q (o :: rest) a w :=
  BigFrame.wpList_want hw fun _ hK => wp_load_row T p ho g hx T cs (0, 0) d hI hu hd hi (hK _ _ h)
theorem wp_loadBlkG {w : World} {ops : Array Oper} {rest : List Oper} {o : Oper} {a : Act} {Q : Exit → Act → World → Prop} (hw : Region.wanted o (yielded ops a.tmps) = true) (p : Operand) (ho : o.op = .load 32 p)
    (g : Nat) (z : Nat → Int) (hx : a.eval p = .pointer (some ⟨g, 0, none⟩)) (hB : Blk w g 32 256 z)
    (h : wpList Tryd.prog ops Q rest (a.put o.dst (bval z)) w) : wpList Tryd.prog ops Q (o :: rest) a w :=
  BigFrame.wpList_want hw fun _ hK => wp_load_row 32 p ho g hx 32 (Ks .u8 256 z).toArray (0, 0) _ hB Tryd.underlying32 rfl (info_block' _) (hK _ _ h)
end Go.Proofs.YtnbmmhoofilmfaaDoor

/- geo.May, quernref05.May. Printed by gen_geo.py. -/
namespace Go.Proofs.YtnbmmhoofilmfaaDoor
open Go.RowKit
set_option linter.unusedVariables false

abbrev gval (G S I J : Int) : Value := .agg #[.int .i64 G, .int .i64 S, .int .i64 I, .int .i64 J]
abbrev gcells (G S I J : Int) : Array Value := #[.int .i64 G, .int .i64 S, .int .i64 I, .int .i64 J]
/-- may a geometry be? -/
def mayG (G S I J : Int) : Bool := decide (1 ≤ G ∧ G ≤ 4 ∧ 16 ≤ S ∧ S ≤ 512 ∧ 4 ≤ I ∧ I ≤ 64 ∧ I % 4 = 0 ∧ 40 ≤ J ∧ J ≤ 256 ∧ 3 + I / 4 ≤ S ∧ 2 + J + G * S ≤ 2048)
theorem mayG_iff (G S I J : Int) : mayG G S I J = true ↔ 1 ≤ G ∧ G ≤ 4 ∧ 16 ≤ S ∧ S ≤ 512 ∧ 4 ≤ I ∧ I ≤ 64 ∧ I % 4 = 0 ∧ 40 ≤ J ∧ J ≤ 256 ∧ 3 + I / 4 ≤ S ∧ 2 + J + G * S ≤ 2048 := by unfold mayG; exact decide_eq_true_iff
theorem mayG_no {G S I J : Int} (h : ¬ (1 ≤ G ∧ G ≤ 4 ∧ 16 ≤ S ∧ S ≤ 512 ∧ 4 ≤ I ∧ I ≤ 64 ∧ I % 4 = 0 ∧ 40 ≤ J ∧ J ≤ 256 ∧ 3 + I / 4 ≤ S ∧ 2 + J + G * S ≤ 2048)) : mayG G S I J = false := by unfold mayG; exact decide_eq_false h
theorem i64_quo4 (I : Int) (h : 4 ≤ I) : I.tdiv 4 = I / 4 := Int.tdiv_eq_ediv_of_nonneg (by omega)
theorem i64_rem4 (I : Int) (h : 4 ≤ I) : I.tmod 4 = I % 4 := Int.tmod_eq_emod_of_nonneg (by omega)
theorem GS_bd {G S : Int} (h1 : 1 ≤ G) (h2 : G ≤ 4) (h3 : 16 ≤ S) (h4 : S ≤ 512) : 0 ≤ G * S ∧ G * S ≤ 2048 := by
  have : 0 ≤ G * S := Int.mul_nonneg (by omega) (by omega)
  have h := Int.mul_le_mul h2 h4 (by omega) (by omega : (0 : Int) ≤ 4)
  omega

set_option maxRecDepth 100000 in
set_option maxHeartbeats 4000000 in
theorem geoMay_any (G S I J : Int) (w : World) : Calls Tryd.prog 12 #[gval G S I J] w fun e w' => e = .returned (.bool (mayG G S I J)) ∧ Below w.heap.size w w' := by
  have HA := Lib.hid (At.new w 23 (gcells G S I J))
  have HL : Hid (Below w.heap.size w (w.alloc (.cells (gcells G S I J) 23))) := (Below.refl _ _).alloc (Nat.le_refl _) _
  have c0 : (w.alloc (.cells #[.int .i64 G, .int .i64 S, .int .i64 I, .int .i64 J] 23)).cell? ⟨w.heap.size, 0, none⟩ = some (.int .i64 G) := HA.out.cell (i := 0) rfl
  have c1 : (w.alloc (.cells #[.int .i64 G, .int .i64 S, .int .i64 I, .int .i64 J] 23)).cell? ⟨w.heap.size, 1, none⟩ = some (.int .i64 S) := HA.out.cell (i := 1) rfl
  have c2 : (w.alloc (.cells #[.int .i64 G, .int .i64 S, .int .i64 I, .int .i64 J] 23)).cell? ⟨w.heap.size, 2, none⟩ = some (.int .i64 I) := HA.out.cell (i := 2) rfl
  have c3 : (w.alloc (.cells #[.int .i64 G, .int .i64 S, .int .i64 I, .int .i64 J] 23)).cell? ⟨w.heap.size, 3, none⟩ = some (.int .i64 J) := HA.out.cell (i := 3) rfl
  go_enter Tryd.func12, Tryd.ntmps12
  by_cases h1 : 1 ≤ G
  rotate_left
  · have HN : Hid (mayG G S I J = false) := mayG_no fun h => by omega
    have nh1 : G < 1 := by omega
    go_wp2_with fail
    go_ret
    exact ⟨by rw [HN.out]; rfl, HL.out⟩
  have nh1 : ¬ G < 1 := by omega
  by_cases h2 : G ≤ 4
  rotate_left
  · have HN : Hid (mayG G S I J = false) := mayG_no fun h => by omega
    have nh2 : 4 < G := by omega
    go_wp2_with fail
    go_ret
    exact ⟨by rw [HN.out]; rfl, HL.out⟩
  have nh2 : ¬ 4 < G := by omega
  by_cases h3 : 16 ≤ S
  rotate_left
  · have HN : Hid (mayG G S I J = false) := mayG_no fun h => by omega
    have nh3 : S < 16 := by omega
    go_wp2_with fail
    go_ret
    exact ⟨by rw [HN.out]; rfl, HL.out⟩
  have nh3 : ¬ S < 16 := by omega
  by_cases h4 : S ≤ 512
  rotate_left
  · have HN : Hid (mayG G S I J = false) := mayG_no fun h => by omega
    have nh4 : 512 < S := by omega
    go_wp2_with fail
    go_ret
    exact ⟨by rw [HN.out]; rfl, HL.out⟩
  have nh4 : ¬ 512 < S := by omega
  by_cases h5 : 4 ≤ I
  rotate_left
  · have HN : Hid (mayG G S I J = false) := mayG_no fun h => by omega
    have nh5 : I < 4 := by omega
    go_wp2_with fail
    go_ret
    exact ⟨by rw [HN.out]; rfl, HL.out⟩
  have nh5 : ¬ I < 4 := by omega
  have t1 := i64_quo4 I h5
  have t2 := i64_rem4 I h5
  by_cases h6 : I ≤ 64
  rotate_left
  · have HN : Hid (mayG G S I J = false) := mayG_no fun h => by omega
    have nh6 : 64 < I := by omega
    go_wp2_with fail
    go_ret
    exact ⟨by rw [HN.out]; rfl, HL.out⟩
  have nh6 : ¬ 64 < I := by omega
  by_cases h7 : I % 4 = 0
  rotate_left
  · have HN : Hid (mayG G S I J = false) := mayG_no fun h => by omega
    have q7 : (I % 4 != 0) = true := by simpa using h7
    go_wp2_with fail
    go_ret
    exact ⟨by rw [HN.out]; rfl, HL.out⟩
  have q7 : (I % 4 != 0) = false := by simpa using h7
  by_cases h8 : 40 ≤ J
  rotate_left
  · have HN : Hid (mayG G S I J = false) := mayG_no fun h => by omega
    have nh8 : J < 40 := by omega
    go_wp2_with fail
    go_ret
    exact ⟨by rw [HN.out]; rfl, HL.out⟩
  have nh8 : ¬ J < 40 := by omega
  by_cases h9 : J ≤ 256
  rotate_left
  · have HN : Hid (mayG G S I J = false) := mayG_no fun h => by omega
    have nh9 : 256 < J := by omega
    go_wp2_with fail
    go_ret
    exact ⟨by rw [HN.out]; rfl, HL.out⟩
  have nh9 : ¬ 256 < J := by omega
  obtain ⟨g0, g1⟩ := GS_bd h1 h2 h3 h4
  have w1 : IntKind.i64.wrap (G * S) = G * S := IntWalk.i64_in _ (by omega)
  by_cases h10 : 3 + I / 4 ≤ S
  rotate_left
  · have HN : Hid (mayG G S I J = false) := mayG_no fun h => by omega
    have n10 : S < 2 + I / 4 + 1 := by omega
    have n11 : ¬ 3 + I / 4 ≤ S := by omega
    go_wp2_with fail
    go_ret
    exact ⟨by rw [HN.out]; rfl, HL.out⟩
  have n10 : ¬ S < 2 + I / 4 + 1 := by omega
  have HY : Hid (mayG G S I J = decide (2 + J + G * S ≤ 2048)) := by
    show _ = _
    rw [Bool.eq_iff_iff, mayG_iff, decide_eq_true_eq]
    exact ⟨fun h => h.2.2.2.2.2.2.2.2.2.2, fun h => ⟨h1, h2, h3, h4, h5, h6, h7, h8, h9, h10, h⟩⟩
  go_wp2_with fail
  go_ret
  exact ⟨by rw [HY.out]; rfl, HL.out⟩

end Go.Proofs.YtnbmmhoofilmfaaDoor

/- Structs loaded and stored whole, in a walk within a fence (an iterator's body, a loop's body). -/
namespace Go.Proofs.YtnbmmhoofilmfaaDoor
open Go.RowKit
set_option linter.unusedVariables false
section
variable {P : Program} {F : Fence} {nF : Nat} {ops : Array Oper} {rest : List Oper} {o : Oper} {a : Act} {w : World} {Q : Exit → Act → World → Prop}
theorem wpListIn_value (hw : Region.wanted o (yielded ops a.tmps) = true) (hc : ∀ c, o.op ≠ .call c) (hd : ∀ c, o.op ≠ .defer c) {v : Value} {w' : World} (hr : (execOp a.eval o).run P w = .ok (.value v) w')
    (h : wpListIn F nF P ops Q rest (a.put o.dst v) w') : wpListIn F nF P ops Q (o :: rest) a w := by
  refine wpListIn_step fun K hK => ?_
  simp only [hw, if_true]
  unfold Oper.wpIn
  refine ⟨?_, ?_⟩
  · intro f hf
    unfold Oper.about at hf
    split at hf
    · rename_i c ho; exact absurd ho (hc c)
    · cases hf
  · rw [Oper.semAt_plain F _ _ hd, hr]
    exact hK _ _ h
theorem wpListIn_skipped (hw : Region.wanted o (yielded ops a.tmps) = true) (hc : ∀ c, o.op ≠ .call c) (hd : ∀ c, o.op ≠ .defer c) {w' : World} (hr : (execOp a.eval o).run P w = .ok .skip w')
    (h : wpListIn F nF P ops Q rest (a.put o.dst undef) w') : wpListIn F nF P ops Q (o :: rest) a w := by
  refine wpListIn_step fun K hK => ?_
  simp only [hw, if_true]
  unfold Oper.wpIn
  refine ⟨?_, ?_⟩
  · intro f hf
    unfold Oper.about at hf
    split at hf
    · rename_i c ho; exact absurd ho (hc c)
    · cases hf
  · rw [Oper.semAt_plain F _ _ hd, hr]
    exact hK _ _ h
theorem wpIn_loadAt (hw : Region.wanted o (yielded ops a.tmps) = true) (T : TypeId) (p : Operand) (ho : o.op = .load T p)
    (g : Nat) (cs : Array Value) (d : TypeDesc) (hx : a.eval p = .pointer (some ⟨g, 0, none⟩)) (hI : At w g T cs) (hu : P.underlying T = some d) (hd : (match d with | .struct _ | .array _ _ => true | _ => false) = true) (hi : (P.info? T).map (·.size) = some cs.size)
    (h : wpListIn F nF P ops Q rest (a.put o.dst (.agg cs)) w) : wpListIn F nF P ops Q (o :: rest) a w := by
  refine wpListIn_value hw (by rw [ho]; intro c h; cases h) (by rw [ho]; intro c h; cases h) ?_ h
  unfold execOp
  simp only [ho, hx, Instr.loadAt, Instr.sureAddr, Sem.run_bind, Sem.run_pure, Result.andThen_ok, run_loadVar_row w g T T cs (0, 0) d hI hu hd hi]
theorem wpIn_storeAt (hw : Region.wanted o (yielded ops a.tmps) = true) (T : TypeId) (p q : Operand) (ho : o.op = .store T p q)
    (g : Nat) (cs old : Array Value) (hx : a.eval p = .pointer (some ⟨g, 0, none⟩)) (hy : a.eval q = .agg cs) (hI : At w g T old) (hi : (P.info? T).map (·.size) = some cs.size) (hs : old.size = cs.size) (h1 : cs.all (·.oneCell') = true)
    (h : ∀ w', At w' g T cs → Only g w w' → wpListIn F nF P ops Q rest (a.put o.dst undef) w') : wpListIn F nF P ops Q (o :: rest) a w := by
  refine wpListIn_skipped hw (by rw [ho]; intro c h; cases h) (by rw [ho]; intro c h; cases h) (w' := w.setRow g cs) ?_ (h _ (setRow_heap w g _ cs _ _ hI) (only_setRow w g _ hI hs.symm))
  unfold execOp
  simp only [ho, hx, hy, Instr.storeAt, Instr.sureAddr, Sem.run_bind, Sem.run_pure, Result.andThen_ok, run_storeVar_row w g T T old cs hI hi hs h1]
end
end Go.Proofs.YtnbmmhoofilmfaaDoor

/- Small words on frames. No program in sight. -/
namespace Go.Proofs.YtnbmmhoofilmfaaDoor.Tb
open Go.RowKit
set_option linter.unusedVariables false

theorem wpOp_of {P : Program} {ops : Array Oper} {Q : Exit → Act → World → Prop} {i : Nat} {o : Oper} {K : Act → World → Prop} {a : Act} {w : World} (hi : ops[i]? = some o) (hg : o.guard = none) (h : o.wp P a w K Q) : wpOp P ops Q i K a w := by
  unfold wpOp
  rw [hi]
  have : Region.wanted o (yielded ops a.tmps) = true := by unfold Region.wanted; rw [hg]
  simp only [this, if_true]
  exact .inl h
theorem put_size (a : Act) (d : Nat) (v : Value) : (a.put (some d) v).tmps.size = a.tmps.size := by simp [Act.put]
theorem put_same (a : Act) (d : Nat) (v : Value) (h : d < a.tmps.size) : (a.put (some d) v).tmps.getD d undef = v := by simp [Act.put, Array.getD_eq_getD_getElem?, h]
theorem put_other (a : Act) (d s : Nat) (v : Value) (h : s ≠ d) : (a.put (some d) v).tmps.getD s undef = a.tmps.getD s undef := by
  simp only [Act.put, Array.getD_eq_getD_getElem?, Array.getElem?_setIfInBounds_ne (Ne.symm h)]
end Go.Proofs.YtnbmmhoofilmfaaDoor.Tb

/- Operations one by one, for a drawn region by an invariant (XInv). No program in sight. -/
namespace Go.Proofs.YtnbmmhoofilmfaaDoor
open Go.RowKit
set_option linter.unusedVariables false
section
variable {P : Program} {w w' : World} {o : Oper} {a : Act} {K : Act → World → Prop} {Q : Exit → Act → World → Prop}
theorem op_val {v : Value} (hr : (execOp a.eval o).run P w = .ok (.value v) w') (h : K (a.put o.dst v) w') : o.wp P a w K Q := by
  unfold Oper.wp; rw [hr]; exact h
theorem op_skip (hr : (execOp a.eval o).run P w = .ok .skip w') (h : K (a.put o.dst undef) w') : o.wp P a w K Q := by
  unfold Oper.wp; rw [hr]; exact h
theorem op_up {l : Nat → Bool} (hu : upB .any o l = true) (k : Nat) (hk : (o.after.any fun e => Region.binds .any e && e.on == k) = true) : l k = true := by
  unfold upB at hu
  rw [Array.all_eq_true'] at hu
  rw [Array.any_eq_true'] at hk
  obtain ⟨e, he, hb⟩ := hk
  rw [Bool.and_eq_true] at hb
  have := hu e he
  rw [hb.1] at this
  have e2 : e.on = k := by simpa using hb.2
  rw [e2] at this
  simpa using this
end
end Go.Proofs.YtnbmmhoofilmfaaDoor

/- A drawn region by what each of its operations' values is, whatever came first: over XInv. No program in sight. -/
namespace Go.Proofs.YtnbmmhoofilmfaaDoor.Vl
open Go.RowKit Go.Proofs.YtnbmmhoofilmfaaDoor
set_option linter.unusedVariables false

/-- the slot of operation n -/
def dst (L : List Oper) (n : Nat) : Option Nat := (L[n]?).bind (·.dst)
/-- no two operations have one slot, each lies in the frame -/
def dstB (L : List Oper) (sz : Nat) : Bool :=
  (List.range L.length).all fun n => match dst L n with
    | none => true
    | some d => decide (d < sz) && (List.range L.length).all fun m => m == n || dst L m != some d
theorem dstB_lt {L : List Oper} {sz : Nat} (h : dstB L sz = true) {n d : Nat} (hd : dst L n = some d) : d < sz := by
  unfold dstB at h
  rw [List.all_eq_true] at h
  have hn : n < L.length := by
    unfold dst at hd
    cases hl : L[n]? with
    | none => rw [hl] at hd; cases hd
    | some o => exact (List.getElem?_eq_some_iff.1 hl).1
  have := h n (List.mem_range.2 hn)
  rw [hd] at this
  simp only [Bool.and_eq_true, decide_eq_true_eq] at this
  exact this.1
theorem dstB_ne {L : List Oper} {sz : Nat} (h : dstB L sz = true) {n m d : Nat} (hd : dst L n = some d) (hm : m ≠ n) : dst L m ≠ some d := by
  unfold dstB at h
  rw [List.all_eq_true] at h
  have hn : n < L.length := by
    unfold dst at hd
    cases hl : L[n]? with
    | none => rw [hl] at hd; cases hd
    | some o => exact (List.getElem?_eq_some_iff.1 hl).1
  have h1 := h n (List.mem_range.2 hn)
  rw [hd] at h1
  simp only [Bool.and_eq_true] at h1
  intro e
  have hml : m < L.length := by
    unfold dst at e
    cases hl : L[m]? with
    | none => rw [hl] at e; cases e
    | some o => exact (List.getElem?_eq_some_iff.1 hl).1
  have h2 := (List.all_eq_true.1 h1.2) m (List.mem_range.2 hml)
  rw [e] at h2
  simp [hm] at h2
/-- what holds between the operations: R l W, and of each that has come up V i v W -/
structure I (L : List Oper) (V : Nat → Value → World → Prop) (S : (Nat → Bool) → World → Prop) (a0 : Act) (l : Nat → Bool) (a : Act) (W : World) : Prop where
  defers : a.defers = a0.defers
  size : a.tmps.size = a0.tmps.size
  other : ∀ k, (∀ i, l i = true → dst L i ≠ some k) → a.tmps.getD k undef = a0.tmps.getD k undef
  vals : ∀ i d, l i = true → dst L i = some d → V i (a.tmps.getD d undef) W
  st : S l W
section
variable {P : Program} {L : List Oper} {V : Nat → Value → World → Prop} {S : (Nat → Bool) → World → Prop} {a0 : Act} {l : Nat → Bool} {a : Act} {W W' : World}
/-- a slot that no operation of the region writes -/
theorem I.old (h : I L V S a0 l a W) (k : Nat) (hk : (List.range L.length).all (fun i => dst L i != some k) = true) : a.tmps.getD k undef = a0.tmps.getD k undef := by
  refine h.other k fun i _ e => ?_
  have hi : i < L.length := by
    unfold dst at e
    cases hl : L[i]? with
    | none => rw [hl] at e; cases e
    | some o => exact (List.getElem?_eq_some_iff.1 hl).1
  have := (List.all_eq_true.1 hk) i (List.mem_range.2 hi)
  rw [e] at this
  simp at this
/-- operation n has come up with the value v -/
theorem I.next (h : I L V S a0 l a W) {sz : Nat} (hB : dstB L a0.tmps.size = true) (n : Nat) {o : Oper} (ho : L[n]? = some o) (v : Value) (hl : l n = false) (hV : ∀ i v, l i = true → V i v W → V i v W') (hv : V n v W') (hS : S (fun j => j == n || l j) W') :
    I L V S a0 (fun j => j == n || l j) (a.put o.dst v) W' := by
  have hdn : dst L n = o.dst := by unfold dst; rw [ho]; rfl
  cases hd : o.dst with
  | none =>
    refine ⟨h.defers, h.size, fun k hk => h.other k fun i hi => hk i (by show (i == n || l i) = true; rw [hi, Bool.or_true]), fun i d hi he => ?_, hS⟩
    by_cases e : i = n
    · subst e; rw [hdn, hd] at he; cases he
    · have hi' : l i = true := by
        have : (i == n || l i) = true := hi
        rwa [show (i == n) = false by simpa using e, Bool.false_or] at this
      exact hV i _ hi' (h.vals i d hi' he)
  | some d =>
    have hlt := dstB_lt hB (n := n) (d := d) (by rw [hdn, hd])
    refine ⟨h.defers, (Tb.put_size _ _ _).trans h.size, fun k hk => ?_, fun i d' hi he => ?_, hS⟩
    · have hkd : k ≠ d := fun e => hk n (by show (n == n || l n) = true; simp) (by rw [hdn, hd, e])
      rw [Tb.put_other _ _ _ _ hkd]
      exact h.other k fun i hi => hk i (by show (i == n || l i) = true; rw [hi, Bool.or_true])
    · by_cases e : i = n
      · subst e
        rw [hdn, hd] at he
        injection he with he
        subst he
        rw [Tb.put_same _ _ _ (by rw [h.size]; exact hlt)]
        exact hv
      · have hi' : l i = true := by
          have : (i == n || l i) = true := hi
          rwa [show (i == n) = false by simpa using e, Bool.false_or] at this
        have hdd : d' ≠ d := fun e2 => dstB_ne hB (n := n) (d := d) (by rw [hdn, hd]) e (by rw [he, e2])
        rw [Tb.put_other _ _ _ _ hdd]
        exact hV i _ hi' (h.vals i d' hi' he)
/-- **A drawn region by its operations' values.** -/
theorem wp_region_val (V : Nat → Value → World → Prop) (S : (Nat → Bool) → World → Prop) {id : Nat} {Q : Exit → Act → World → Prop} {w : World} (hm : P.follows .mixedOrders = true) (hd : downB .any L.toArray = true)
    (hS : ∀ l l' w, (∀ i, i < L.length → l i = l' i) → S l w → S l' w) (h0 : S (fun _ => false) { w with drawn := w.drawn + 1 }) (hst : dstB L a.tmps.size = true → StepsI P .any L.toArray Q (I L V S a) 0 L)
    (hB : dstB L a.tmps.size = true) (hend : ∀ a' w', I L V S a (fun _ => true) a' w' → Q .normal a' w') : (Code.region id L.toArray true).wp P Q a w := by
  refine wp_region_inv (I L V S a) hm hd (fun l l' a' w' he h => ?_) ⟨rfl, rfl, fun _ _ => rfl, (fun i d h => by cases h), h0⟩ (hst hB) hend
  have hlt : ∀ {i d}, dst L i = some d → i < L.length := fun {i d} e => by
    unfold dst at e
    cases hl : L[i]? with
    | none => rw [hl] at e; cases e
    | some o => exact (List.getElem?_eq_some_iff.1 hl).1
  exact ⟨h.defers, h.size, fun k hk => h.other k fun i hi e => hk i (by rw [← he i (hlt e)]; exact hi) e, fun i d hi e => h.vals i d (by rw [he i (hlt e)]; exact hi) e, hS l l' w' he h.st⟩
/-- an operation without a guard -/
theorem step {ops : Array Oper} {Q : Exit → Act → World → Prop} {n : Nat} {o : Oper} (h : I L V S a0 l a W) (hB : dstB L a0.tmps.size = true) (hn : ops[n]? = some o) (hnL : L[n]? = some o) (hg : o.guard = none) (hl : l n = false)
    (hw : o.wp P a W (fun a' W' => ∃ v, a' = a.put o.dst v ∧ (∀ i v, l i = true → V i v W → V i v W') ∧ V n v W' ∧ S (fun j => j == n || l j) W') Q) : wpOp P ops Q n (I L V S a0 (fun j => j == n || l j)) a W := by
  refine Tb.wpOp_of hn hg ?_
  refine Oper.wp_mono (fun a' W' h' => ?_) hw
  obtain ⟨v, rfl, h1, h2, h3⟩ := h'
  exact h.next (sz := 0) hB n hnL v hl h1 h2 h3
/-- .. that leaves the world alone -/
theorem stepQ {ops : Array Oper} {Q : Exit → Act → World → Prop} {n : Nat} {o : Oper} (h : I L V S a0 l a W) (hB : dstB L a0.tmps.size = true) (hn : ops[n]? = some o) (hnL : L[n]? = some o) (hg : o.guard = none) (hl : l n = false)
    (v : Value) (hr : (execOp a.eval o).run P W = .ok (.value v) W) (hv : V n v W) (hS : S l W → S (fun j => j == n || l j) W) : wpOp P ops Q n (I L V S a0 (fun j => j == n || l j)) a W :=
  step h hB hn hnL hg hl (op_val hr ⟨v, rfl, fun _ _ _ h => h, hv, hS h.st⟩)
end
end Go.Proofs.YtnbmmhoofilmfaaDoor.Vl
