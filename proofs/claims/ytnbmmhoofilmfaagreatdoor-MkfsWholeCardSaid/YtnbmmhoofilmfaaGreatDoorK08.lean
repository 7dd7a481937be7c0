/- Texts of this claim, merged by a program (a claim may have 60 files): At, Geo, Jb2, AtIn, Jb3, Jb4, Jb5. -/
import Derived.Test.YtnbmmhoofilmfaaGreatDoorK06
import Derived.Test.YtnbmmhoofilmfaaGreatDoorK07
import Derived.OwnWalkIn
import Derived.TacticsInMore
import Derived.Test.YtnbmmhoofilmfaaGreatDoorK05
/- A struct in a heap block: read, stored. -/
namespace Go.Proofs.YtnbmmhoofilmfaaGreatDoor
open Go.RowKit
set_option linter.unusedVariables false

/-- heap block g is this row of cells -/
def At (w : World) (g : Nat) (T : TypeId) (cs : Array Value) : Prop := w.heap[g]? = some (.cells cs T (0, 0))
theorem At.lt {w : World} {g : Nat} {T : TypeId} {cs : Array Value} (h : At w g T cs) : g < w.heap.size := (Array.getElem?_eq_some_iff.1 h).1
theorem At.new (w : World) (T : TypeId) (cs : Array Value) : At (w.alloc (.cells cs T)) w.heap.size T cs := heap_alloc_new w _
theorem At.alloc {w : World} {g : Nat} {T : TypeId} {cs : Array Value} (h : At w g T cs) (o : Obj) : At (w.alloc o) g T cs := heap_alloc_keep h o
theorem At.below {w w' : World} {g : Nat} {T : TypeId} {cs : Array Value} (h : At w g T cs) {B : Nat} (hb : Below B w w') (hg : g < B) : At w' g T cs := (hb.block g hg).trans h
theorem At.only {w w' : World} {g : Nat} {T : TypeId} {cs : Array Value} (h : At w g T cs) {b : Nat} (hb : Only b w w') (hg : g ≠ b) : At w' g T cs := (hb.block g hg).trans h
theorem At.cell {w : World} {g : Nat} {T : TypeId} {cs : Array Value} (h : At w g T cs) {i : Nat} {v : Value} (hi : cs[i]? = some v) : w.cell? ⟨g, i, none⟩ = some v := cell_of_heap h hi
theorem At.range {w : World} {g : Nat} {T : TypeId} {cs : Array Value} (h : At w g T cs) : w.rangeAt g 0 cs.toList := by
  intro j v hj
  rw [Nat.zero_add]
  exact cell_of_heap h (by simpa using hj)
/-- a struct stored whole -/
theorem wp_storeAt {P : Program} {w : World} {ops : Array Oper} {rest : List Oper} {o : Oper} {a : Act} {Q : Exit → Act → World → Prop} (hgd : o.guard = none) (T : TypeId) (p q : Operand) (ho : o.op = .store T p q)
    (g : Nat) (cs old : Array Value) (hx : a.eval p = .pointer (some ⟨g, 0, none⟩)) (hy : a.eval q = .agg cs) (hI : At w g T old) (hi : (P.info? T).map (·.size) = some cs.size) (hs : old.size = cs.size) (h1 : cs.all (·.oneCell') = true)
    (h : ∀ w', At w' g T cs → Only g w w' → wpList P ops Q rest (a.put o.dst undef) w') : wpList P ops Q (o :: rest) a w :=
  wpList_store_row hgd T p q ho g cs hx hy T _ hI hi hs h1 (h _ (setRow_heap w g _ cs _ _ hI) (only_setRow w g _ hI hs.symm))
theorem wp_loadAtG {P : Program} {w : World} {ops : Array Oper} {rest : List Oper} {o : Oper} {a : Act} {Q : Exit → Act → World → Prop} (hw : Region.wanted o (yielded ops a.tmps) = true) (T : TypeId) (p : Operand) (ho : o.op = .load T p)
    (g : Nat) (cs : Array Value) (d : TypeDesc) (hx : a.eval p = .pointer (some ⟨g, 0, none⟩)) (hI : At w g T cs) (hu : P.underlying T = some d) (hd : (match d with | .struct _ | .array _ _ => true | _ => false) = true) (hi : (P.info? T).map (·.size) = some cs.size)
    (h : wpList P ops Q rest (a.put o.dst (.agg cs)) w) : wpList P ops Q (o :: rest) a w :=
  BigFrame.wpList_want hw fun _ hK => wp_load_row T p ho g hx T cs (0, 0) d hI hu hd hi (hK _ _ h)
theorem wp_loadBlkG {w : World} {ops : Array Oper} {rest : List Oper} {o : Oper} {a : Act} {Q : Exit → Act → World → Prop} (hw : Region.wanted o (yielded ops a.tmps) = true) (p : Operand) (ho : o.op = .load 32 p)
    (g : Nat) (z : Nat → Int) (hx : a.eval p = .pointer (some ⟨g, 0, none⟩)) (hB : Blk w g 32 256 z)
    (h : wpList Tryz.prog ops Q rest (a.put o.dst (bval z)) w) : wpList Tryz.prog ops Q (o :: rest) a w :=
  BigFrame.wpList_want hw fun _ hK => wp_load_row 32 p ho g hx 32 (Ks .u8 256 z).toArray (0, 0) _ hB Tryz.underlying32 rfl (info_block' _) (hK _ _ h)
end Go.Proofs.YtnbmmhoofilmfaaGreatDoor

/- geo.May, quernref05.May. Printed by gen_geo.py. -/
namespace Go.Proofs.YtnbmmhoofilmfaaGreatDoor
open Go.RowKit
set_option linter.unusedVariables false

abbrev gval (G S I J : Int) : Value := .agg #[.int .i64 G, .int .i64 S, .int .i64 I, .int .i64 J]
abbrev gcells (G S I J : Int) : Array Value := #[.int .i64 G, .int .i64 S, .int .i64 I, .int .i64 J]
/-- may a geometry be? -/
def mayG (G S I J : Int) : Bool := decide (1 ≤ G ∧ G ≤ 4 ∧ 16 ≤ S ∧ S ≤ 512 ∧ 4 ≤ I ∧ I ≤ 64 ∧ I % 4 = 0 ∧ 40 ≤ J ∧ J ≤ 256 ∧ 3 + I / 4 ≤ S ∧ 2 + J + G * S ≤ 2048)
theorem mayG_iff (G S I J : Int) : mayG G S I J = true ↔ 1 ≤ G ∧ G ≤ 4 ∧ 16 ≤ S ∧ S ≤ 512 ∧ 4 ≤ I ∧ I ≤ 64 ∧ I % 4 = 0 ∧ 40 ≤ J ∧ J ≤ 256 ∧ 3 + I / 4 ≤ S ∧ 2 + J + G * S ≤ 2048 := by unfold mayG; exact decide_eq_true_iff
theorem mayG_no {G S I J : Int} (h : ¬ (1 ≤ G ∧ G ≤ 4 ∧ 16 ≤ S ∧ S ≤ 512 ∧ 4 ≤ I ∧ I ≤ 64 ∧ I % 4 = 0 ∧ 40 ≤ J ∧ J ≤ 256 ∧ 3 + I / 4 ≤ S ∧ 2 + J + G * S ≤ 2048)) : mayG G S I J = false := by unfold mayG; exact decide_eq_false h
theorem i64_quo4 (I : Int) (h : 4 ≤ I) : I.tdiv 4 = I / 4 := Int.tdiv_eq_ediv_of_nonneg (by omega)
theorem i64_rem4 (I : Int) (h : 4 ≤ I) : I.tmod 4 = I % 4 := Int.tmod_eq_emod_of_nonneg (by omega)
theorem GS_bd {G S : Int} (h1 : 1 ≤ G) (h2 : G ≤ 4) (h3 : 16 ≤ S) (h4 : S ≤ 512) : 0 ≤ G * S ∧ G * S ≤ 2048 := by
  have : 0 ≤ G * S := Int.mul_nonneg (by omega) (by omega)
  have h := Int.mul_le_mul h2 h4 (by omega) (by omega : (0 : Int) ≤ 4)
  omega

set_option maxRecDepth 100000 in
set_option maxHeartbeats 4000000 in
theorem geoMay_any (G S I J : Int) (w : World) : Calls Tryz.prog 35 #[gval G S I J] w fun e w' => e = .returned (.bool (mayG G S I J)) ∧ Below w.heap.size w w' := by
  have HA := Lib.hid (At.new w 23 (gcells G S I J))
  have HL : Hid (Below w.heap.size w (w.alloc (.cells (gcells G S I J) 23))) := (Below.refl _ _).alloc (Nat.le_refl _) _
  have c0 : (w.alloc (.cells #[.int .i64 G, .int .i64 S, .int .i64 I, .int .i64 J] 23)).cell? ⟨w.heap.size, 0, none⟩ = some (.int .i64 G) := HA.out.cell (i := 0) rfl
  have c1 : (w.alloc (.cells #[.int .i64 G, .int .i64 S, .int .i64 I, .int .i64 J] 23)).cell? ⟨w.heap.size, 1, none⟩ = some (.int .i64 S) := HA.out.cell (i := 1) rfl
  have c2 : (w.alloc (.cells #[.int .i64 G, .int .i64 S, .int .i64 I, .int .i64 J] 23)).cell? ⟨w.heap.size, 2, none⟩ = some (.int .i64 I) := HA.out.cell (i := 2) rfl
  have c3 : (w.alloc (.cells #[.int .i64 G, .int .i64 S, .int .i64 I, .int .i64 J] 23)).cell? ⟨w.heap.size, 3, none⟩ = some (.int .i64 J) := HA.out.cell (i := 3) rfl
  go_enter Tryz.func35, Tryz.ntmps35
  by_cases h1 : 1 ≤ G
  rotate_left
  · have HN : Hid (mayG G S I J = false) := mayG_no fun h => by omega
    have nh1 : G < 1 := by omega
    go_wp2_with fail
    go_ret
    exact ⟨by rw [HN.out]; rfl, HL.out⟩
  have nh1 : ¬ G < 1 := by omega
  by_cases h2 : G ≤ 4
  rotate_left
  · have HN : Hid (mayG G S I J = false) := mayG_no fun h => by omega
    have nh2 : 4 < G := by omega
    go_wp2_with fail
    go_ret
    exact ⟨by rw [HN.out]; rfl, HL.out⟩
  have nh2 : ¬ 4 < G := by omega
  by_cases h3 : 16 ≤ S
  rotate_left
  · have HN : Hid (mayG G S I J = false) := mayG_no fun h => by omega
    have nh3 : S < 16 := by omega
    go_wp2_with fail
    go_ret
    exact ⟨by rw [HN.out]; rfl, HL.out⟩
  have nh3 : ¬ S < 16 := by omega
  by_cases h4 : S ≤ 512
  rotate_left
  · have HN : Hid (mayG G S I J = false) := mayG_no fun h => by omega
    have nh4 : 512 < S := by omega
    go_wp2_with fail
    go_ret
    exact ⟨by rw [HN.out]; rfl, HL.out⟩
  have nh4 : ¬ 512 < S := by omega
  by_cases h5 : 4 ≤ I
  rotate_left
  · have HN : Hid (mayG G S I J = false) := mayG_no fun h => by omega
    have nh5 : I < 4 := by omega
    go_wp2_with fail
    go_ret
    exact ⟨by rw [HN.out]; rfl, HL.out⟩
  have nh5 : ¬ I < 4 := by omega
  have t1 := i64_quo4 I h5
  have t2 := i64_rem4 I h5
  by_cases h6 : I ≤ 64
  rotate_left
  · have HN : Hid (mayG G S I J = false) := mayG_no fun h => by omega
    have nh6 : 64 < I := by omega
    go_wp2_with fail
    go_ret
    exact ⟨by rw [HN.out]; rfl, HL.out⟩
  have nh6 : ¬ 64 < I := by omega
  by_cases h7 : I % 4 = 0
  rotate_left
  · have HN : Hid (mayG G S I J = false) := mayG_no fun h => by omega
    have q7 : (I % 4 != 0) = true := by simpa using h7
    go_wp2_with fail
    go_ret
    exact ⟨by rw [HN.out]; rfl, HL.out⟩
  have q7 : (I % 4 != 0) = false := by simpa using h7
  by_cases h8 : 40 ≤ J
  rotate_left
  · have HN : Hid (mayG G S I J = false) := mayG_no fun h => by omega
    have nh8 : J < 40 := by omega
    go_wp2_with fail
    go_ret
    exact ⟨by rw [HN.out]; rfl, HL.out⟩
  have nh8 : ¬ J < 40 := by omega
  by_cases h9 : J ≤ 256
  rotate_left
  · have HN : Hid (mayG G S I J = false) := mayG_no fun h => by omega
    have nh9 : 256 < J := by omega
    go_wp2_with fail
    go_ret
    exact ⟨by rw [HN.out]; rfl, HL.out⟩
  have nh9 : ¬ 256 < J := by omega
  obtain ⟨g0, g1⟩ := GS_bd h1 h2 h3 h4
  have w1 : IntKind.i64.wrap (G * S) = G * S := IntWalk.i64_in _ (by omega)
  by_cases h10 : 3 + I / 4 ≤ S
  rotate_left
  · have HN : Hid (mayG G S I J = false) := mayG_no fun h => by omega
    have n10 : S < 2 + I / 4 + 1 := by omega
    have n11 : ¬ 3 + I / 4 ≤ S := by omega
    go_wp2_with fail
    go_ret
    exact ⟨by rw [HN.out]; rfl, HL.out⟩
  have n10 : ¬ S < 2 + I / 4 + 1 := by omega
  have HY : Hid (mayG G S I J = decide (2 + J + G * S ≤ 2048)) := by
    show _ = _
    rw [Bool.eq_iff_iff, mayG_iff, decide_eq_true_eq]
    exact ⟨fun h => h.2.2.2.2.2.2.2.2.2.2, fun h => ⟨h1, h2, h3, h4, h5, h6, h7, h8, h9, h10, h⟩⟩
  go_wp2_with fail
  go_ret
  exact ⟨by rw [HY.out]; rfl, HL.out⟩

end Go.Proofs.YtnbmmhoofilmfaaGreatDoor

/- Contracts of jblock's heads, commits, kinds and escapes. -/
namespace Go.Proofs.YtnbmmhoofilmfaaGreatDoor
open Go.RowKit
set_option linter.unusedVariables false

def headOk (s t : Int) : Bool := seqB s && decide (0 ≤ t ∧ t ≤ 255)
def headZ (s t : Int) : Nat → Int := if headOk s t then wz (jw 4 s t nz) else fun _ => 0
def commitOk (s n : Int) : Bool := seqB s && decide (1 ≤ n ∧ n ≤ 256)
def sumR (v : Int) : Nat → Int := fun j => if j = 0 then v else 0
def commitZ (s n v : Int) : Nat → Int := if commitOk s n then wz (jw 2 s n (sumR v)) else fun _ => 0
def errOf (b : Bool) (e : Int) : Int := if b then 0 else e
def kindB (z : Nat → Int) : Bool := wd z 0 == 1280199249 && (seqB (wd z 2) && decide (1 ≤ wd z 1 ∧ wd z 1 ≤ 4))
def kindOf (z : Nat → Int) : Int := if kindB z then wd z 1 else 0
def seqOf (z : Nat → Int) : Int := if kindB z then wd z 2 else 0
def escB (z : Nat → Int) : Bool := wd z 0 == 1280199249
def escZ (z : Nat → Int) : Nat → Int := if escB z then over z 0 4 (byteOf 0) else z
def unescZ (z : Nat → Int) : Nat → Int := over z 0 4 (byteOf 1280199249)
def headRd (z : Nat → Int) : Bool := kindOf z == 4 && (decide (wd z 3 ≤ 255) && allZ (fun j => wd z (4 + j)) 60)
theorem numW (g : Nat) (z : Nat → Int) (hz : Byt z) (k : Nat) (K : Int) (hK : K = 4 * (k : Int)) (hk : k < 64) {T : TypeId} (w : World) (hB : Blk w g T 256 z) :
    Calls Tryz.prog 128 #[.pointer (some ⟨g, 0, none⟩), .int .i64 K] w fun e w' => e = .returned (.int .u32 (wd z k)) ∧ w = w' :=
  number_any g z hz (4 * k) K (by omega) (by omega) w hB

set_option maxRecDepth 100000 in
set_option maxHeartbeats 1000000 in
theorem writeHead_any (s t : Int) (w : World) (hs : 0 ≤ s ∧ s < 4294967296) (ht : -9223372036854775808 ≤ t ∧ t ≤ 9223372036854775807) :
    Calls Tryz.prog 68 #[.agg #[.int .u32 s, .int .i64 t]] w fun e w' => e = .returned (.tuple #[bval (headZ s t), .int .i64 (errOf (headOk s t) 2)]) ∧ Below w.heap.size w w' := by
  obtain ⟨hs0, hs1⟩ := hs
  obtain ⟨ht0, ht1⟩ := ht
  have hal := zero_block
  obtain ⟨W, hW⟩ : ∃ W, W = (w.alloc (.cells #[.int .u32 s, .int .i64 t] 83)).alloc (.cells (Ks .u8 256 (fun _ => 0)).toArray 32) := ⟨_, rfl⟩
  have c0 : W.cell? ⟨w.heap.size, 0, none⟩ = some (.int .u32 s) := by rw [hW]; exact cell_of_heap (heap_alloc_keep (heap_alloc_new w _) _) rfl
  have c1 : W.cell? ⟨w.heap.size, 1, none⟩ = some (.int .i64 t) := by rw [hW]; exact cell_of_heap (heap_alloc_keep (heap_alloc_new w _) _) rfl
  have hR : Blk W (w.heap.size + 1) 32 256 (fun _ => 0) := by
    rw [hW]
    have := Blk.new (w.alloc (.cells #[.int .u32 s, .int .i64 t] 83)) 32 256 (fun _ => 0)
    simp only [World.size_alloc] at this
    exact this
  have hL : Below w.heap.size w W := by rw [hW]; exact ((Below.refl _ _).alloc (Nat.le_refl _) _).alloc (by simp) _
  have HW := Lib.hid hW
  have HC0 := Lib.hid c0
  have HC1 := Lib.hid c1
  clear hW c0 c1
  go_enter Tryz.func68, Tryz.ntmps68
  go_wp2_with fail
  rw [← HW.out]
  refine (maySeq_any s _).mono ?_
  rintro e w1 ⟨rfl, rfl⟩
  have c0 := HC0.out
  have c1 := HC1.out
  clear HC0 HC1 HW
  by_cases hq : seqB s = true
  rotate_left
  · rw [Bool.not_eq_true] at hq
    have HO : Hid (headOk s t = false) := by show _ = _; unfold headOk; rw [hq]; rfl
    rw [hq]
    clear hq
    go_wp2_with (first | (refine wp_storeBlk rfl (.tmp 2) (.tmp 18) rfl (w.heap.size + 1) (fun _ => 0) _ rfl rfl hR ?_))
    intro w2 hR2 ho2
    go_wp2_with fail
    exact bodyPost_ret (results_blk2 rfl _ _ (w.heap.size + 1) _ rfl hR2) rfl ⟨by rw [headZ, HO.out]; rfl, hL.trans (ho2.below (by omega))⟩
  by_cases h1 : 0 ≤ t
  rotate_left
  · have HO : Hid (headOk s t = false) := by show _ = _; unfold headOk; simp [h1]
    rw [hq]
    clear hq
    go_wp2_with (first | (refine wp_storeBlk rfl (.tmp 2) (.tmp 18) rfl (w.heap.size + 1) (fun _ => 0) _ rfl rfl hR ?_))
    intro w2 hR2 ho2
    go_wp2_with fail
    exact bodyPost_ret (results_blk2 rfl _ _ (w.heap.size + 1) _ rfl hR2) rfl ⟨by rw [headZ, HO.out]; rfl, hL.trans (ho2.below (by omega))⟩
  by_cases h2 : t ≤ 255
  rotate_left
  · have HO : Hid (headOk s t = false) := by show _ = _; unfold headOk; simp [h2]
    rw [hq]
    clear hq
    go_wp2_with (first | (refine wp_storeBlk rfl (.tmp 2) (.tmp 18) rfl (w.heap.size + 1) (fun _ => 0) _ rfl rfl hR ?_))
    intro w2 hR2 ho2
    go_wp2_with fail
    exact bodyPost_ret (results_blk2 rfl _ _ (w.heap.size + 1) _ rfl hR2) rfl ⟨by rw [headZ, HO.out]; rfl, hL.trans (ho2.below (by omega))⟩
  have HO : Hid (headOk s t = true) := by show _ = _; unfold headOk; rw [hq]; simp [h1, h2]
  rw [hq]
  clear hq
  go_wp2_with fail
  refine (begin_any 4 s t _ (by decide) hs0 h1).mono ?_
  rintro e w2 ⟨rfl, hb2⟩
  have hR2 := hR.below hb2 hR.lt
  have hL2 : Below w.heap.size w w2 := hL.trans (hb2.mono hL.size)
  clear hR hL hb2 c0 c1
  go_wp2_with (first | (refine wp_storeBlk rfl (.tmp 2) (.tmp 24) rfl (w.heap.size + 1) (wz (jw 4 s t nz)) _ rfl rfl hR2 ?_))
  intro w3 hR3 ho3
  go_wp2_with fail
  exact bodyPost_ret (results_blk2 rfl _ _ (w.heap.size + 1) _ rfl hR3) rfl ⟨by rw [headZ, HO.out]; rfl, hL2.trans (ho3.below (by omega))⟩

set_option maxRecDepth 100000 in
set_option maxHeartbeats 1000000 in
theorem kind_any (z : Nat → Int) (hz : Byt z) (w : World) :
    Calls Tryz.prog 127 #[bval z] w fun e w' => e = .returned (.tuple #[.int .u8 (kindOf z), .int .u32 (seqOf z)]) ∧ Below w.heap.size w w' := by
  have hB := Blk.new w 32 256 z
  have hL : Below w.heap.size w (w.alloc (.cells (Ks .u8 256 z).toArray 32)) := (Below.refl _ _).alloc (Nat.le_refl _) _
  have hw1 := wd_wds hz 1
  go_enter Tryz.func127, Tryz.ntmps127
  go_wp2_with fail
  refine (numW w.heap.size z hz 0 0 rfl (by omega) _ hB).mono ?_
  rintro e w1 ⟨rfl, rfl⟩
  by_cases h0 : wd z 0 = 1280199249
  rotate_left
  · have q : (wd z 0 != 1280199249) = true := by simpa using h0
    have HK : Hid (kindB z = false) := by show _ = _; unfold kindB; simp [h0]
    clear h0
    go_wp2_with fail
    go_ret2
    exact ⟨by rw [kindOf, seqOf, HK.out]; rfl, hL⟩
  have q : (wd z 0 != 1280199249) = false := by simpa using h0
  have H0 := Lib.hid h0
  clear h0
  go_wp2_with fail
  refine (numW w.heap.size z hz 2 8 rfl (by omega) _ hB).mono ?_
  rintro e w2 ⟨rfl, rfl⟩
  go_wp2_with fail
  refine (maySeq_any (wd z 2) _).mono ?_
  rintro e w3 ⟨rfl, rfl⟩
  by_cases h2 : seqB (wd z 2) = true
  rotate_left
  · rw [Bool.not_eq_true] at h2
    have HK : Hid (kindB z = false) := by show _ = _; unfold kindB; simp [h2]
    rw [h2]
    clear h2
    go_wp2_with fail
    go_ret2
    exact ⟨by rw [kindOf, seqOf, HK.out]; rfl, hL⟩
  have H2 := Lib.hid h2
  rw [h2]
  clear h2
  go_wp2_with fail
  refine (numW w.heap.size z hz 1 4 rfl (by omega) _ hB).mono ?_
  rintro e w4 ⟨rfl, rfl⟩
  clear hB
  have yes : ∀ k : Int, wd z 1 = k → 1 ≤ k → k ≤ 4 → kindB z = true := fun k h a b => by unfold kindB; rw [H0.out, H2.out, h]; simp [a, b]
  have YES := Lib.hid yes
  clear yes
  by_cases k4 : wd z 1 = 4
  · have HK : Hid (kindB z = true) := YES.out 4 k4 (by decide) (by decide)
    have HW1 := Lib.hid k4
    rw [k4]
    clear k4 hw1
    go_wp2_with fail
    go_ret2
    exact ⟨by rw [kindOf, seqOf, HK.out, HW1.out]; rfl, hL⟩
  by_cases k1 : wd z 1 = 1
  · have HK : Hid (kindB z = true) := YES.out 1 k1 (by decide) (by decide)
    have HW1 := Lib.hid k1
    rw [k1]
    clear k1 hw1 k4
    go_wp2_with fail
    go_ret2
    exact ⟨by rw [kindOf, seqOf, HK.out, HW1.out]; rfl, hL⟩
  by_cases k2 : wd z 1 = 2
  · have HK : Hid (kindB z = true) := YES.out 2 k2 (by decide) (by decide)
    have HW1 := Lib.hid k2
    rw [k2]
    clear k2 hw1 k4 k1
    go_wp2_with fail
    go_ret2
    exact ⟨by rw [kindOf, seqOf, HK.out, HW1.out]; rfl, hL⟩
  by_cases k3 : wd z 1 = 3
  · have HK : Hid (kindB z = true) := YES.out 3 k3 (by decide) (by decide)
    have HW1 := Lib.hid k3
    rw [k3]
    clear k3 hw1 k4 k1 k2
    go_wp2_with fail
    go_ret2
    exact ⟨by rw [kindOf, seqOf, HK.out, HW1.out]; rfl, hL⟩
  have HK : Hid (kindB z = false) := by
    show _ = _; unfold kindB
    have : decide (1 ≤ wd z 1 ∧ wd z 1 ≤ 4) = false := by simp; omega
    rw [this]; simp
  have q1 : (wd z 1 == 1) = false := by simpa using k1
  have q2 : (wd z 1 == 2) = false := by simpa using k2
  have q3 : (wd z 1 == 3) = false := by simpa using k3
  have q4 : (wd z 1 == 4) = false := by simpa using k4
  clear k1 k2 k3 k4
  go_wp2_with fail
  go_ret2
  exact ⟨by rw [kindOf, seqOf, HK.out]; rfl, hL⟩
end Go.Proofs.YtnbmmhoofilmfaaGreatDoor

/- Structs loaded and stored whole, in a walk within a fence (an iterator's body, a loop's body). -/
namespace Go.Proofs.YtnbmmhoofilmfaaGreatDoor
open Go.RowKit
set_option linter.unusedVariables false
section
variable {P : Program} {F : Fence} {nF : Nat} {ops : Array Oper} {rest : List Oper} {o : Oper} {a : Act} {w : World} {Q : Exit → Act → World → Prop}
theorem wpListIn_value (hw : Region.wanted o (yielded ops a.tmps) = true) (hc : ∀ c, o.op ≠ .call c) (hd : ∀ c, o.op ≠ .defer c) {v : Value} {w' : World} (hr : (execOp a.eval o).run P w = .ok (.value v) w')
    (h : wpListIn F nF P ops Q rest (a.put o.dst v) w') : wpListIn F nF P ops Q (o :: rest) a w := by
  refine wpListIn_step fun K hK => ?_
  simp only [hw, if_true]
  unfold Oper.wpIn
  refine ⟨?_, ?_⟩
  · intro f hf
    unfold Oper.about at hf
    split at hf
    · rename_i c ho; exact absurd ho (hc c)
    · cases hf
  · rw [Oper.semAt_plain F _ _ hd, hr]
    exact hK _ _ h
theorem wpListIn_skipped (hw : Region.wanted o (yielded ops a.tmps) = true) (hc : ∀ c, o.op ≠ .call c) (hd : ∀ c, o.op ≠ .defer c) {w' : World} (hr : (execOp a.eval o).run P w = .ok .skip w')
    (h : wpListIn F nF P ops Q rest (a.put o.dst undef) w') : wpListIn F nF P ops Q (o :: rest) a w := by
  refine wpListIn_step fun K hK => ?_
  simp only [hw, if_true]
  unfold Oper.wpIn
  refine ⟨?_, ?_⟩
  · intro f hf
    unfold Oper.about at hf
    split at hf
    · rename_i c ho; exact absurd ho (hc c)
    · cases hf
  · rw [Oper.semAt_plain F _ _ hd, hr]
    exact hK _ _ h
theorem wpIn_loadAt (hw : Region.wanted o (yielded ops a.tmps) = true) (T : TypeId) (p : Operand) (ho : o.op = .load T p)
    (g : Nat) (cs : Array Value) (d : TypeDesc) (hx : a.eval p = .pointer (some ⟨g, 0, none⟩)) (hI : At w g T cs) (hu : P.underlying T = some d) (hd : (match d with | .struct _ | .array _ _ => true | _ => false) = true) (hi : (P.info? T).map (·.size) = some cs.size)
    (h : wpListIn F nF P ops Q rest (a.put o.dst (.agg cs)) w) : wpListIn F nF P ops Q (o :: rest) a w := by
  refine wpListIn_value hw (by rw [ho]; intro c h; cases h) (by rw [ho]; intro c h; cases h) ?_ h
  unfold execOp
  simp only [ho, hx, Instr.loadAt, Instr.sureAddr, Sem.run_bind, Sem.run_pure, Result.andThen_ok, run_loadVar_row w g T T cs (0, 0) d hI hu hd hi]
theorem wpIn_storeAt (hw : Region.wanted o (yielded ops a.tmps) = true) (T : TypeId) (p q : Operand) (ho : o.op = .store T p q)
    (g : Nat) (cs old : Array Value) (hx : a.eval p = .pointer (some ⟨g, 0, none⟩)) (hy : a.eval q = .agg cs) (hI : At w g T old) (hi : (P.info? T).map (·.size) = some cs.size) (hs : old.size = cs.size) (h1 : cs.all (·.oneCell') = true)
    (h : ∀ w', At w' g T cs → Only g w w' → wpListIn F nF P ops Q rest (a.put o.dst undef) w') : wpListIn F nF P ops Q (o :: rest) a w := by
  refine wpListIn_skipped hw (by rw [ho]; intro c h; cases h) (by rw [ho]; intro c h; cases h) (w' := w.setRow g cs) ?_ (h _ (setRow_heap w g _ cs _ _ hI) (only_setRow w g _ hI hs.symm))
  unfold execOp
  simp only [ho, hx, hy, Instr.storeAt, Instr.sureAddr, Sem.run_bind, Sem.run_pure, Result.andThen_ok, run_storeVar_row w g T T old cs hI hi hs h1]
end
end Go.Proofs.YtnbmmhoofilmfaaGreatDoor

/- Contracts of jblock's escapes and of its reading of heads and commits. -/
namespace Go.Proofs.YtnbmmhoofilmfaaGreatDoor
open Go.RowKit
set_option linter.unusedVariables false

end Go.Proofs.YtnbmmhoofilmfaaGreatDoor

/- Contracts of jblock.writeRows over tags, and of WriteDesc. -/
namespace Go.Proofs.YtnbmmhoofilmfaaGreatDoor
open Go.RowKit
set_option linter.unusedVariables false

def bit (b : Bool) : Int := if b then 1 else 0
/-- the rows of the first k tags -/
def tagR (tb : Nat → Int) (te : Nat → Bool) (k : Nat) (j : Nat) : Int := if j < 2 * k then (if j % 2 = 0 then tb (j / 2) else bit (te (j / 2))) else 0
def jdOk (s : Int) (n : Nat) (tb : Nat → Int) : Bool := seqB s && (decide (1 ≤ n ∧ n ≤ 30) && riseB tb n)
def jdZ (s : Int) (n : Nat) (tb : Nat → Int) (te : Nat → Bool) : Nat → Int := if jdOk s n tb then wz (jw 1 s n (tagR tb te n)) else fun _ => 0
end Go.Proofs.YtnbmmhoofilmfaaGreatDoor

/- The contract of jblock.writeRows over tags, and of WriteDesc. -/
namespace Go.Proofs.YtnbmmhoofilmfaaGreatDoor
open Go.RowKit
set_option linter.unusedVariables false

end Go.Proofs.YtnbmmhoofilmfaaGreatDoor
