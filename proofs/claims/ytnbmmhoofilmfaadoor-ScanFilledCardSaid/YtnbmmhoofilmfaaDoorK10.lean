/- Texts of this claim, merged by a program (a claim may have 60 files): At, Geo, AtIn, Range4, RangeV4. -/
import Derived.Test.YtnbmmhoofilmfaaDoorK06
import Derived.OwnWalkIn
import Derived.TacticsInMore
import Derived.Test.YtnbmmhoofilmfaaDoorK04
import Derived.Test.YtnbmmhoofilmfaaDoorK09
/- A struct in a heap block: read, stored. -/
namespace Go.Proofs.YtnbmmhoofilmfaaDoor
open Go.RowKit
set_option linter.unusedVariables false

/-- heap block g is this row of cells -/
def At (w : World) (g : Nat) (T : TypeId) (cs : Array Value) : Prop := w.heap[g]? = some (.cells cs T (0, 0))
theorem At.lt {w : World} {g : Nat} {T : TypeId} {cs : Array Value} (h : At w g T cs) : g < w.heap.size := (Array.getElem?_eq_some_iff.1 h).1
theorem At.new (w : World) (T : TypeId) (cs : Array Value) : At (w.alloc (.cells cs T)) w.heap.size T cs := heap_alloc_new w _
theorem At.alloc {w : World} {g : Nat} {T : TypeId} {cs : Array Value} (h : At w g T cs) (o : Obj) : At (w.alloc o) g T cs := heap_alloc_keep h o
theorem At.below {w w' : World} {g : Nat} {T : TypeId} {cs : Array Value} (h : At w g T cs) {B : Nat} (hb : Below B w w') (hg : g < B) : At w' g T cs := (hb.block g hg).trans h
theorem At.only {w w' : World} {g : Nat} {T : TypeId} {cs : Array Value} (h : At w g T cs) {b : Nat} (hb : Only b w w') (hg : g ≠ b) : At w' g T cs := (hb.block g hg).trans h
theorem At.cell {w : World} {g : Nat} {T : TypeId} {cs : Array Value} (h : At w g T cs) {i : Nat} {v : Value} (hi : cs[i]? = some v) : w.cell? ⟨g, i, none⟩ = some v := cell_of_heap h hi
theorem At.range {w : World} {g : Nat} {T : TypeId} {cs : Array Value} (h : At w g T cs) : w.rangeAt g 0 cs.toList := by
  intro j v hj
  rw [Nat.zero_add]
  exact cell_of_heap h (by simpa using hj)
/-- a struct stored whole -/
theorem wp_storeAt {P : Program} {w : World} {ops : Array Oper} {rest : List Oper} {o : Oper} {a : Act} {Q : Exit → Act → World → Prop} (hgd : o.guard = none) (T : TypeId) (p q : Operand) (ho : o.op = .store T p q)
    (g : Nat) (cs old : Array Value) (hx : a.eval p = .pointer (some ⟨g, 0, none⟩)) (hy : a.eval q = .agg cs) (hI : At w g T old) (hi : (P.info? T).map (·.size) = some cs.size) (hs : old.size = cs.size) (h1 : cs.all (·.oneCell') = true)
    (h : ∀ w', At w' g T cs → Only g w w' → wpList P ops Q rest (a.put o.dst undef) w') : wpList P ops Q (o :: rest) a w :=
  wpList_store_row hgd T p q ho g cs hx hy T _ hI hi hs h1 (h _ (setRow_heap w g _ cs _ _ hI) (only_setRow w g _ hI hs.symm))
theorem wp_loadAtG {P : Program} {w : World} {ops : Array Oper} {rest : List Oper} {o : Oper} {a : Act} {Q : Exit → Act → World → Prop} (hw : Region.wanted o (yielded ops a.tmps) = true) (T : TypeId) (p : Operand) (ho : o.op = .load T p)
    (g : Nat) (cs : Array Value) (d : TypeDesc) (hx : a.eval p = .pointer (some ⟨g, 0, none⟩)) (hI : At w g T cs) (hu : P.underlying T = some d) (hd : (match d with | .struct _ | .array _ _ => true | _ => false) = true) (hi : (P.info? T).map (·.size) = some cs.size)
    (h : wpList P ops Q rest (a.put o.dst (.agg cs)) w) : wpList P ops Q (o :: rest) a w :=
  BigFrame.wpList_want hw fun _ hK => wp_load_row T p ho g hx T cs (0, 0) d hI hu hd hi (hK _ _ h)
theorem wp_loadBlkG {w : World} {ops : Array Oper} {rest : List Oper} {o : Oper} {a : Act} {Q : Exit → Act → World → Prop} (hw : Region.wanted o (yielded ops a.tmps) = true) (p : Operand) (ho : o.op = .load 32 p)
    (g : Nat) (z : Nat → Int) (hx : a.eval p = .pointer (some ⟨g, 0, none⟩)) (hB : Blk w g 32 256 z)
    (h : wpList Tryd.prog ops Q rest (a.put o.dst (bval z)) w) : wpList Tryd.prog ops Q (o :: rest) a w :=
  BigFrame.wpList_want hw fun _ hK => wp_load_row 32 p ho g hx 32 (Ks .u8 256 z).toArray (0, 0) _ hB Tryd.underlying32 rfl (info_block' _) (hK _ _ h)
end Go.Proofs.YtnbmmhoofilmfaaDoor

/- geo.May, quernref05.May. Printed by gen_geo.py. -/
namespace Go.Proofs.YtnbmmhoofilmfaaDoor
open Go.RowKit
set_option linter.unusedVariables false

abbrev gval (G S I J : Int) : Value := .agg #[.int .i64 G, .int .i64 S, .int .i64 I, .int .i64 J]
abbrev gcells (G S I J : Int) : Array Value := #[.int .i64 G, .int .i64 S, .int .i64 I, .int .i64 J]
/-- may a geometry be? -/
def mayG (G S I J : Int) : Bool := decide (1 ≤ G ∧ G ≤ 4 ∧ 16 ≤ S ∧ S ≤ 512 ∧ 4 ≤ I ∧ I ≤ 64 ∧ I % 4 = 0 ∧ 40 ≤ J ∧ J ≤ 256 ∧ 3 + I / 4 ≤ S ∧ 2 + J + G * S ≤ 2048)
theorem mayG_iff (G S I J : Int) : mayG G S I J = true ↔ 1 ≤ G ∧ G ≤ 4 ∧ 16 ≤ S ∧ S ≤ 512 ∧ 4 ≤ I ∧ I ≤ 64 ∧ I % 4 = 0 ∧ 40 ≤ J ∧ J ≤ 256 ∧ 3 + I / 4 ≤ S ∧ 2 + J + G * S ≤ 2048 := by unfold mayG; exact decide_eq_true_iff
theorem mayG_no {G S I J : Int} (h : ¬ (1 ≤ G ∧ G ≤ 4 ∧ 16 ≤ S ∧ S ≤ 512 ∧ 4 ≤ I ∧ I ≤ 64 ∧ I % 4 = 0 ∧ 40 ≤ J ∧ J ≤ 256 ∧ 3 + I / 4 ≤ S ∧ 2 + J + G * S ≤ 2048)) : mayG G S I J = false := by unfold mayG; exact decide_eq_false h
theorem i64_quo4 (I : Int) (h : 4 ≤ I) : I.tdiv 4 = I / 4 := Int.tdiv_eq_ediv_of_nonneg (by omega)
theorem i64_rem4 (I : Int) (h : 4 ≤ I) : I.tmod 4 = I % 4 := Int.tmod_eq_emod_of_nonneg (by omega)
theorem GS_bd {G S : Int} (h1 : 1 ≤ G) (h2 : G ≤ 4) (h3 : 16 ≤ S) (h4 : S ≤ 512) : 0 ≤ G * S ∧ G * S ≤ 2048 := by
  have : 0 ≤ G * S := Int.mul_nonneg (by omega) (by omega)
  have h := Int.mul_le_mul h2 h4 (by omega) (by omega : (0 : Int) ≤ 4)
  omega

set_option maxRecDepth 100000 in
set_option maxHeartbeats 4000000 in
theorem geoMay_any (G S I J : Int) (w : World) : Calls Tryd.prog 12 #[gval G S I J] w fun e w' => e = .returned (.bool (mayG G S I J)) ∧ Below w.heap.size w w' := by
  have HA := Lib.hid (At.new w 23 (gcells G S I J))
  have HL : Hid (Below w.heap.size w (w.alloc (.cells (gcells G S I J) 23))) := (Below.refl _ _).alloc (Nat.le_refl _) _
  have c0 : (w.alloc (.cells #[.int .i64 G, .int .i64 S, .int .i64 I, .int .i64 J] 23)).cell? ⟨w.heap.size, 0, none⟩ = some (.int .i64 G) := HA.out.cell (i := 0) rfl
  have c1 : (w.alloc (.cells #[.int .i64 G, .int .i64 S, .int .i64 I, .int .i64 J] 23)).cell? ⟨w.heap.size, 1, none⟩ = some (.int .i64 S) := HA.out.cell (i := 1) rfl
  have c2 : (w.alloc (.cells #[.int .i64 G, .int .i64 S, .int .i64 I, .int .i64 J] 23)).cell? ⟨w.heap.size, 2, none⟩ = some (.int .i64 I) := HA.out.cell (i := 2) rfl
  have c3 : (w.alloc (.cells #[.int .i64 G, .int .i64 S, .int .i64 I, .int .i64 J] 23)).cell? ⟨w.heap.size, 3, none⟩ = some (.int .i64 J) := HA.out.cell (i := 3) rfl
  go_enter Tryd.func12, Tryd.ntmps12
  by_cases h1 : 1 ≤ G
  rotate_left
  · have HN : Hid (mayG G S I J = false) := mayG_no fun h => by omega
    have nh1 : G < 1 := by omega
    go_wp2_with fail
    go_ret
    exact ⟨by rw [HN.out]; rfl, HL.out⟩
  have nh1 : ¬ G < 1 := by omega
  by_cases h2 : G ≤ 4
  rotate_left
  · have HN : Hid (mayG G S I J = false) := mayG_no fun h => by omega
    have nh2 : 4 < G := by omega
    go_wp2_with fail
    go_ret
    exact ⟨by rw [HN.out]; rfl, HL.out⟩
  have nh2 : ¬ 4 < G := by omega
  by_cases h3 : 16 ≤ S
  rotate_left
  · have HN : Hid (mayG G S I J = false) := mayG_no fun h => by omega
    have nh3 : S < 16 := by omega
    go_wp2_with fail
    go_ret
    exact ⟨by rw [HN.out]; rfl, HL.out⟩
  have nh3 : ¬ S < 16 := by omega
  by_cases h4 : S ≤ 512
  rotate_left
  · have HN : Hid (mayG G S I J = false) := mayG_no fun h => by omega
    have nh4 : 512 < S := by omega
    go_wp2_with fail
    go_ret
    exact ⟨by rw [HN.out]; rfl, HL.out⟩
  have nh4 : ¬ 512 < S := by omega
  by_cases h5 : 4 ≤ I
  rotate_left
  · have HN : Hid (mayG G S I J = false) := mayG_no fun h => by omega
    have nh5 : I < 4 := by omega
    go_wp2_with fail
    go_ret
    exact ⟨by rw [HN.out]; rfl, HL.out⟩
  have nh5 : ¬ I < 4 := by omega
  have t1 := i64_quo4 I h5
  have t2 := i64_rem4 I h5
  by_cases h6 : I ≤ 64
  rotate_left
  · have HN : Hid (mayG G S I J = false) := mayG_no fun h => by omega
    have nh6 : 64 < I := by omega
    go_wp2_with fail
    go_ret
    exact ⟨by rw [HN.out]; rfl, HL.out⟩
  have nh6 : ¬ 64 < I := by omega
  by_cases h7 : I % 4 = 0
  rotate_left
  · have HN : Hid (mayG G S I J = false) := mayG_no fun h => by omega
    have q7 : (I % 4 != 0) = true := by simpa using h7
    go_wp2_with fail
    go_ret
    exact ⟨by rw [HN.out]; rfl, HL.out⟩
  have q7 : (I % 4 != 0) = false := by simpa using h7
  by_cases h8 : 40 ≤ J
  rotate_left
  · have HN : Hid (mayG G S I J = false) := mayG_no fun h => by omega
    have nh8 : J < 40 := by omega
    go_wp2_with fail
    go_ret
    exact ⟨by rw [HN.out]; rfl, HL.out⟩
  have nh8 : ¬ J < 40 := by omega
  by_cases h9 : J ≤ 256
  rotate_left
  · have HN : Hid (mayG G S I J = false) := mayG_no fun h => by omega
    have nh9 : 256 < J := by omega
    go_wp2_with fail
    go_ret
    exact ⟨by rw [HN.out]; rfl, HL.out⟩
  have nh9 : ¬ 256 < J := by omega
  obtain ⟨g0, g1⟩ := GS_bd h1 h2 h3 h4
  have w1 : IntKind.i64.wrap (G * S) = G * S := IntWalk.i64_in _ (by omega)
  by_cases h10 : 3 + I / 4 ≤ S
  rotate_left
  · have HN : Hid (mayG G S I J = false) := mayG_no fun h => by omega
    have n10 : S < 2 + I / 4 + 1 := by omega
    have n11 : ¬ 3 + I / 4 ≤ S := by omega
    go_wp2_with fail
    go_ret
    exact ⟨by rw [HN.out]; rfl, HL.out⟩
  have n10 : ¬ S < 2 + I / 4 + 1 := by omega
  have HY : Hid (mayG G S I J = decide (2 + J + G * S ≤ 2048)) := by
    show _ = _
    rw [Bool.eq_iff_iff, mayG_iff, decide_eq_true_eq]
    exact ⟨fun h => h.2.2.2.2.2.2.2.2.2.2, fun h => ⟨h1, h2, h3, h4, h5, h6, h7, h8, h9, h10, h⟩⟩
  go_wp2_with fail
  go_ret
  exact ⟨by rw [HY.out]; rfl, HL.out⟩

set_option maxRecDepth 100000 in
set_option maxHeartbeats 4000000 in
theorem rMay5_any (G S I J : Int) (w : World) : Calls Tryd.prog 27 #[gval G S I J] w fun e w' => e = .returned (.bool (mayG G S I J)) ∧ Below w.heap.size w w' := by
  have HA := Lib.hid (At.new w 23 (gcells G S I J))
  have HL : Hid (Below w.heap.size w (w.alloc (.cells (gcells G S I J) 23))) := (Below.refl _ _).alloc (Nat.le_refl _) _
  have c0 : (w.alloc (.cells #[.int .i64 G, .int .i64 S, .int .i64 I, .int .i64 J] 23)).cell? ⟨w.heap.size, 0, none⟩ = some (.int .i64 G) := HA.out.cell (i := 0) rfl
  have c1 : (w.alloc (.cells #[.int .i64 G, .int .i64 S, .int .i64 I, .int .i64 J] 23)).cell? ⟨w.heap.size, 1, none⟩ = some (.int .i64 S) := HA.out.cell (i := 1) rfl
  have c2 : (w.alloc (.cells #[.int .i64 G, .int .i64 S, .int .i64 I, .int .i64 J] 23)).cell? ⟨w.heap.size, 2, none⟩ = some (.int .i64 I) := HA.out.cell (i := 2) rfl
  have c3 : (w.alloc (.cells #[.int .i64 G, .int .i64 S, .int .i64 I, .int .i64 J] 23)).cell? ⟨w.heap.size, 3, none⟩ = some (.int .i64 J) := HA.out.cell (i := 3) rfl
  go_enter Tryd.func27, Tryd.ntmps27
  by_cases h1 : 1 ≤ G
  rotate_left
  · have HN : Hid (mayG G S I J = false) := mayG_no fun h => by omega
    have nh1 : G < 1 := by omega
    go_wp2_with fail
    go_ret
    exact ⟨by rw [HN.out]; rfl, HL.out⟩
  have nh1 : ¬ G < 1 := by omega
  by_cases h2 : G ≤ 4
  rotate_left
  · have HN : Hid (mayG G S I J = false) := mayG_no fun h => by omega
    have nh2 : 4 < G := by omega
    go_wp2_with fail
    go_ret
    exact ⟨by rw [HN.out]; rfl, HL.out⟩
  have nh2 : ¬ 4 < G := by omega
  by_cases h3 : 16 ≤ S
  rotate_left
  · have HN : Hid (mayG G S I J = false) := mayG_no fun h => by omega
    have nh3 : S < 16 := by omega
    go_wp2_with fail
    go_ret
    exact ⟨by rw [HN.out]; rfl, HL.out⟩
  have nh3 : ¬ S < 16 := by omega
  by_cases h4 : S ≤ 512
  rotate_left
  · have HN : Hid (mayG G S I J = false) := mayG_no fun h => by omega
    have nh4 : 512 < S := by omega
    go_wp2_with fail
    go_ret
    exact ⟨by rw [HN.out]; rfl, HL.out⟩
  have nh4 : ¬ 512 < S := by omega
  by_cases h5 : 4 ≤ I
  rotate_left
  · have HN : Hid (mayG G S I J = false) := mayG_no fun h => by omega
    have nh5 : I < 4 := by omega
    go_wp2_with fail
    go_ret
    exact ⟨by rw [HN.out]; rfl, HL.out⟩
  have nh5 : ¬ I < 4 := by omega
  have t1 := i64_quo4 I h5
  have t2 := i64_rem4 I h5
  by_cases h6 : I ≤ 64
  rotate_left
  · have HN : Hid (mayG G S I J = false) := mayG_no fun h => by omega
    have nh6 : 64 < I := by omega
    go_wp2_with fail
    go_ret
    exact ⟨by rw [HN.out]; rfl, HL.out⟩
  have nh6 : ¬ 64 < I := by omega
  by_cases h7 : I % 4 = 0
  rotate_left
  · have HN : Hid (mayG G S I J = false) := mayG_no fun h => by omega
    have q7 : (I % 4 != 0) = true := by simpa using h7
    go_wp2_with fail
    go_ret
    exact ⟨by rw [HN.out]; rfl, HL.out⟩
  have q7 : (I % 4 != 0) = false := by simpa using h7
  by_cases h8 : 40 ≤ J
  rotate_left
  · have HN : Hid (mayG G S I J = false) := mayG_no fun h => by omega
    have nh8 : J < 40 := by omega
    go_wp2_with fail
    go_ret
    exact ⟨by rw [HN.out]; rfl, HL.out⟩
  have nh8 : ¬ J < 40 := by omega
  by_cases h9 : J ≤ 256
  rotate_left
  · have HN : Hid (mayG G S I J = false) := mayG_no fun h => by omega
    have nh9 : 256 < J := by omega
    go_wp2_with fail
    go_ret
    exact ⟨by rw [HN.out]; rfl, HL.out⟩
  have nh9 : ¬ 256 < J := by omega
  obtain ⟨g0, g1⟩ := GS_bd h1 h2 h3 h4
  have w1 : IntKind.i64.wrap (G * S) = G * S := IntWalk.i64_in _ (by omega)
  by_cases h10 : 3 + I / 4 ≤ S
  rotate_left
  · have HN : Hid (mayG G S I J = false) := mayG_no fun h => by omega
    have n10 : S < 2 + I / 4 + 1 := by omega
    have n11 : ¬ 3 + I / 4 ≤ S := by omega
    go_wp2_with fail
    go_ret
    exact ⟨by rw [HN.out]; rfl, HL.out⟩
  have n10 : ¬ S < 2 + I / 4 + 1 := by omega
  have HY : Hid (mayG G S I J = decide (2 + J + G * S ≤ 2048)) := by
    show _ = _
    rw [Bool.eq_iff_iff, mayG_iff, decide_eq_true_eq]
    exact ⟨fun h => h.2.2.2.2.2.2.2.2.2.2, fun h => ⟨h1, h2, h3, h4, h5, h6, h7, h8, h9, h10, h⟩⟩
  go_wp2_with fail
  go_ret
  exact ⟨by rw [HY.out]; rfl, HL.out⟩

end Go.Proofs.YtnbmmhoofilmfaaDoor

/- Structs loaded and stored whole, in a walk within a fence (an iterator's body, a loop's body). -/
namespace Go.Proofs.YtnbmmhoofilmfaaDoor
open Go.RowKit
set_option linter.unusedVariables false
section
variable {P : Program} {F : Fence} {nF : Nat} {ops : Array Oper} {rest : List Oper} {o : Oper} {a : Act} {w : World} {Q : Exit → Act → World → Prop}
theorem wpListIn_value (hw : Region.wanted o (yielded ops a.tmps) = true) (hc : ∀ c, o.op ≠ .call c) (hd : ∀ c, o.op ≠ .defer c) {v : Value} {w' : World} (hr : (execOp a.eval o).run P w = .ok (.value v) w')
    (h : wpListIn F nF P ops Q rest (a.put o.dst v) w') : wpListIn F nF P ops Q (o :: rest) a w := by
  refine wpListIn_step fun K hK => ?_
  simp only [hw, if_true]
  unfold Oper.wpIn
  refine ⟨?_, ?_⟩
  · intro f hf
    unfold Oper.about at hf
    split at hf
    · rename_i c ho; exact absurd ho (hc c)
    · cases hf
  · rw [Oper.semAt_plain F _ _ hd, hr]
    exact hK _ _ h
theorem wpListIn_skipped (hw : Region.wanted o (yielded ops a.tmps) = true) (hc : ∀ c, o.op ≠ .call c) (hd : ∀ c, o.op ≠ .defer c) {w' : World} (hr : (execOp a.eval o).run P w = .ok .skip w')
    (h : wpListIn F nF P ops Q rest (a.put o.dst undef) w') : wpListIn F nF P ops Q (o :: rest) a w := by
  refine wpListIn_step fun K hK => ?_
  simp only [hw, if_true]
  unfold Oper.wpIn
  refine ⟨?_, ?_⟩
  · intro f hf
    unfold Oper.about at hf
    split at hf
    · rename_i c ho; exact absurd ho (hc c)
    · cases hf
  · rw [Oper.semAt_plain F _ _ hd, hr]
    exact hK _ _ h
theorem wpIn_loadAt (hw : Region.wanted o (yielded ops a.tmps) = true) (T : TypeId) (p : Operand) (ho : o.op = .load T p)
    (g : Nat) (cs : Array Value) (d : TypeDesc) (hx : a.eval p = .pointer (some ⟨g, 0, none⟩)) (hI : At w g T cs) (hu : P.underlying T = some d) (hd : (match d with | .struct _ | .array _ _ => true | _ => false) = true) (hi : (P.info? T).map (·.size) = some cs.size)
    (h : wpListIn F nF P ops Q rest (a.put o.dst (.agg cs)) w) : wpListIn F nF P ops Q (o :: rest) a w := by
  refine wpListIn_value hw (by rw [ho]; intro c h; cases h) (by rw [ho]; intro c h; cases h) ?_ h
  unfold execOp
  simp only [ho, hx, Instr.loadAt, Instr.sureAddr, Sem.run_bind, Sem.run_pure, Result.andThen_ok, run_loadVar_row w g T T cs (0, 0) d hI hu hd hi]
theorem wpIn_load_mid (hw : Region.wanted o (yielded ops a.tmps) = true) (T : TypeId) (p : Operand) (ho : o.op = .load T p)
    (b off : Nat) (hx : a.eval p = .pointer (some ⟨b, off, none⟩)) (cs : List Value) (d : TypeDesc) (hc : w.rangeAt b off cs) (hu : P.underlying T = some d) (hd : d.isRow = true) (hi : (P.info? T).map (·.size) = some cs.length)
    (h : wpListIn F nF P ops Q rest (a.put o.dst (.agg cs.toArray)) w) : wpListIn F nF P ops Q (o :: rest) a w := by
  refine wpListIn_value hw (by rw [ho]; intro c h; cases h) (by rw [ho]; intro c h; cases h) ?_ h
  unfold execOp
  simp only [ho, hx, Instr.loadAt, Instr.sureAddr, Sem.run_bind, Sem.run_pure, Result.andThen_ok, run_loadVar_mid w b off T cs d hc hu hd hi]
theorem wpIn_storeAt (hw : Region.wanted o (yielded ops a.tmps) = true) (T : TypeId) (p q : Operand) (ho : o.op = .store T p q)
    (g : Nat) (cs old : Array Value) (hx : a.eval p = .pointer (some ⟨g, 0, none⟩)) (hy : a.eval q = .agg cs) (hI : At w g T old) (hi : (P.info? T).map (·.size) = some cs.size) (hs : old.size = cs.size) (h1 : cs.all (·.oneCell') = true)
    (h : ∀ w', At w' g T cs → Only g w w' → wpListIn F nF P ops Q rest (a.put o.dst undef) w') : wpListIn F nF P ops Q (o :: rest) a w := by
  refine wpListIn_skipped hw (by rw [ho]; intro c h; cases h) (by rw [ho]; intro c h; cases h) (w' := w.setRow g cs) ?_ (h _ (setRow_heap w g _ cs _ _ hI) (only_setRow w g _ hI hs.symm))
  unfold execOp
  simp only [ho, hx, hy, Instr.storeAt, Instr.sureAddr, Sem.run_bind, Sem.run_pure, Result.andThen_ok, run_storeVar_row w g T T old cs hI hi hs h1]
end
end Go.Proofs.YtnbmmhoofilmfaaDoor

/- A range over a function whose values are structs, which the assignment puts into a new block. No program in sight. -/
namespace Go.Proofs.YtnbmmhoofilmfaaDoor
open Go.RowKit
variable {P : Program}
theorem LocalP.bel {B : Nat} {X : World → Prop} (h : LocalP B X) {W W' : World} (hs : X W) (hb : Below W.heap.size W W') : X W' := h W W' hs ⟨hb.os, hb.tape, hb.output, hb.size, fun k _ hl => hb.block k hl⟩
theorem LocalP.at {B b : Nat} (t : TypeId) (cs : Array Value) (hb : b < B) : LocalP B (fun W => At W b t cs) := fun _ _ hs hg => (hg.block b hb (At.lt hs)).trans hs
theorem wp_rangeIx4 {g : Operand} {ps : Array Tmp} {asg bdy : Code} {Q : Exit → Act → World → Prop} {a : Act} {w : World} {gf : Nat} {lb : Array Value}
    (hg : a.eval g = .func (.func gf) #[] lb) (eg : ∀ args w, (callFunc gf args).run P w = .ok (.enter gf args) w)
    {encs : Nat → Array Value} {N : Nat} {Need : Nat → World → Prop} (hit : IterIx Fence.wide 4 P gf lb encs N (fun _ => False) Need) (hps : ∀ k, (encs k).size = ps.size)
    (T : TypeId) (cs : Nat → Array Value)
    (J : Nat → World → Prop) (Jx : Code → Nat → World → Prop)
    (hJ : ∀ k, LocalP w.heap.size (J k)) (hJx : ∀ c k, LocalP w.heap.size (Jx c k)) (hN : ∀ k, LocalP w.heap.size (Need k)) (h0 : J 0 w) (hn0 : Need 0 w) (A1 : Nat → Nat → Act)
    (assign : ∀ (l k : Nat) (W : World) (K : Act → World → Prop), k < N → (∀ p W', p = W.heap.size → Below W.heap.size W W' → At W' p T (cs k) → K (A1 k p) W') →
      asg.wpIn (Fence.wide.inRound l) 3 P (Exit.then K (fun _ _ _ => False)) { tmps := (ps.zip (encs k)).foldl (fun t (p, v) => t.setIfInBounds p v) a.tmps, defers := [] } W)
    (body : ∀ (l k p : Nat) (W : World), k < N → J k W → Need k W → At W p T (cs k) → bdy.wpIn (Fence.wide.inRound l) 3 P (roundIx w.heap.size J Jx Need k W) (A1 k p) W)
    (done : ∀ (D : Nat) (W : World), w.heap.size ≤ D → J N W → W.heap[D]? = some (.deferred (some [])) → Q .normal { a with defers := { target := .collected D, args := #[] } :: a.defers } W)
    (stop : ∀ (D : Nat) (c : Code) (k : Nat) (W : World), w.heap.size ≤ D → k < N → Jx c k W → W.heap[D]? = some (.deferred (some [])) → c.wp P Q { a with defers := { target := .collected D, args := #[] } :: a.defers } W) :
    (Code.rangeFunc g ps asg bdy).wp P Q a w := by
  refine (wpIn_wide (n := 5)).1 ?_
  exact wpIn_rangeIx rfl (by decide) hg trivial eg hit (fun r h => h.elim) hps J Jx (fun k a' W => ∃ p, a' = A1 k p ∧ At W p T (cs k))
    (LocalP.own hJ) (fun c => LocalP.own (hJx c)) (LocalP.own hN)
    (fun a' k W W' row hs hgr hr => by
      obtain ⟨p, he, hA⟩ := hs
      refine ⟨p, he, (hgr.block p hA.lt (fun e => ?_)).trans hA⟩
      obtain ⟨_, o, ho, hc⟩ := hr p e.symm
      have : some (Obj.cells (cs k) T (0, 0)) = some o := hA.symm.trans ho
      injection this with this
      subst this
      cases hc)
    (fun k A C hs ht => (hJ k).turns hs ht) (fun c k A C hs ht => (hJx c k).turns hs ht) h0 hn0
    (fun l k W K hk hj hn hK => assign l k W K hk (fun p W' _ hb hA => hK _ _ (Below.keeps hb) ((hJ k).bel hj hb) ((hN k).bel hn hb) ⟨p, rfl, hA⟩))
    (fun l k a' W hk hj hn ha => by obtain ⟨p, rfl, hA⟩ := ha; exact body l k p W hk hj hn hA)
    done (fun D c k W h1 h2 h3 h4 => wpIn_wide.2 (stop D c k W h1 h2 h3 h4))
end Go.Proofs.YtnbmmhoofilmfaaDoor

/- A range over a function whose values are structs that are known by a law alone; the assignment of each round puts the value into a new block. No program in sight. -/
namespace Go.Proofs.YtnbmmhoofilmfaaDoor
open Go.RowKit
set_option linter.unusedVariables false
variable {P : Program}
theorem Kept.at {B b : Nat} (T : TypeId) (cs : Array Value) : Kept B (fun W => At W b T cs) := fun W W' row hs hg hr => by
  refine (hg.block b hs.lt fun e => ?_).trans hs
  obtain ⟨_, o, ho, hc⟩ := hr b e.symm
  have : some (Obj.cells cs T (0, 0)) = some o := Eq.trans (Eq.symm hs) ho
  injection this with this
  subst this
  cases hc
theorem Kept.below {B n : Nat} (w : World) (hn : n ≤ B) (hw : n ≤ w.heap.size) : Kept B (fun W => Below n w W) := Kept.ofLocal (LocalP.below w hn hw)
theorem wp_rangeV4 {g : Operand} {ps : Array Tmp} {asg bdy : Code} {Q : Exit → Act → World → Prop} {a : Act} {w : World} {gf : Nat} {lb : Array Value}
    (hg : a.eval g = .func (.func gf) #[] lb) (eg : ∀ args w, (callFunc gf args).run P w = .ok (.enter gf args) w)
    {V : Nat → Array Value → World → Prop} {N : Nat} {Need : Nat → World → Prop} (hit : IterV Fence.wide 4 P gf lb (fun k vs W => ∃ cs, vs = #[.agg cs] ∧ V k cs W) N (fun _ => False) Need) (hps : ps.size = 1)
    (T : TypeId) (J : Nat → World → Prop) (Jx : Code → Nat → World → Prop)
    (hJ : ∀ k, Kept w.heap.size (J k)) (hJx : ∀ c k, Kept w.heap.size (Jx c k)) (hN : ∀ k, Kept w.heap.size (Need k)) (hV : ∀ k cs, Kept w.heap.size (V k cs)) (h0 : J 0 w) (hn0 : Need 0 w) (A1 : Array Value → Nat → Act)
    (assign : ∀ (l k : Nat) (cs : Array Value) (W : World) (K : Act → World → Prop), k < N → V k cs W → (∀ p W', p = W.heap.size → Below W.heap.size W W' → At W' p T cs → K (A1 cs p) W') →
      asg.wpIn (Fence.wide.inRound l) 3 P (Exit.then K (fun _ _ _ => False)) { tmps := (ps.zip #[.agg cs]).foldl (fun t (p, v) => t.setIfInBounds p v) a.tmps, defers := [] } W)
    (body : ∀ (l k : Nat) (cs : Array Value) (p : Nat) (W : World), k < N → J k W → Need k W → V k cs W → At W p T cs → bdy.wpIn (Fence.wide.inRound l) 3 P (roundV w.heap.size J Jx Need k W) (A1 cs p) W)
    (done : ∀ (D : Nat) (W : World), w.heap.size ≤ D → J N W → W.heap[D]? = some (.deferred (some [])) → Q .normal { a with defers := { target := .collected D, args := #[] } :: a.defers } W)
    (stop : ∀ (D : Nat) (c : Code) (k : Nat) (W : World), w.heap.size ≤ D → k < N → Jx c k W → W.heap[D]? = some (.deferred (some [])) → c.wp P Q { a with defers := { target := .collected D, args := #[] } :: a.defers } W) :
    (Code.rangeFunc g ps asg bdy).wp P Q a w := by
  refine (wpIn_wide (n := 5)).1 ?_
  have up : ∀ {X : World → Prop}, Kept w.heap.size X → ∀ {W W' : World}, X W → Below W.heap.size W W' → X W' := fun h W W' hs hb => h W W' none hs ⟨hb.os, hb.tape, hb.output, hb.size, fun k hk _ => hb.block k hk⟩ (fun r e => by cases e)
  exact wpIn_rangeV rfl (by decide) hg trivial eg hit (fun r h => h.elim) (fun k vs W h => by obtain ⟨cs, rfl, _⟩ := h; rw [hps]; rfl) J Jx (fun k a' W => ∃ cs p, a' = A1 cs p ∧ V k cs W ∧ At W p T cs)
    (Kept.from hJ) (fun c => Kept.from (hJx c)) (Kept.from hN) (fun a' => Kept.from fun k => Kept.ex fun cs => Kept.ex fun p => (Kept.pure _ _).and ((hV k cs).and (Kept.at T cs)))
    (fun k A C hs ht => (hJ k).turns hs ht) (fun c k A C hs ht => (hJx c k).turns hs ht) h0 hn0
    (fun l k vs W K hk hj hn hval hK => by
      obtain ⟨cs, rfl, hv⟩ := hval
      exact assign l k cs W K hk hv fun p W' _ hb hA => hK _ _ (Below.keeps hb) (up (hJ k) hj hb) (up (hN k) hn hb) ⟨cs, p, rfl, up (hV k cs) hv hb, hA⟩)
    (fun l k a' W hk hj hn ha => by obtain ⟨cs, p, rfl, hv, hA⟩ := ha; exact body l k cs p W hk hj hn hv hA)
    done (fun D c k W h1 h2 h3 h4 => wpIn_wide.2 (stop D c k W h1 h2 h3 h4))
end Go.Proofs.YtnbmmhoofilmfaaDoor
