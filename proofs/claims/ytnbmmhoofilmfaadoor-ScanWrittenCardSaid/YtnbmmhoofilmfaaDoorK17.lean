/- Texts of this claim, merged by a program (a claim may have 60 files): U6b, U6c, U6e, Door. -/
import Derived.Test.YtnbmmhoofilmfaaDoorK16
import Derived.Test.YtnbmmhoofilmfaaDoorK05
import Derived.Test.YtnbmmhoofilmfaaDoorK08
import Derived.Test.YtnbmmhoofilmfaaDoorK04
import Derived.Test.YtnbmmhoofilmfaaDoorK14
import Derived.Test.YtnbmmhoofilmfaaDoorK15
import Derived.Deep.Slices
import Derived.ChangeSlices
import Derived.LaidMore
import Derived.MakeChecks
import Derived.Lib.LaidTab
/- super: getGeo, putDesc, getDesc, orphaned; Write, Read. -/
namespace Go.Proofs.YtnbmmhoofilmfaaDoor
open Go.RowKit
set_option linter.unusedVariables false

abbrev sval (G S I J O : Int) : Value := .agg #[.int .i64 G, .int .i64 S, .int .i64 I, .int .i64 J, .int .u32 O]
abbrev scells (G S I J O : Int) : Array Value := #[.int .i64 G, .int .i64 S, .int .i64 I, .int .i64 J, .int .u32 O]
abbrev dval (B I D : Int) : Value := .agg #[.int .i64 B, .int .i64 I, .int .i64 D]
abbrev dcells (B I D : Int) : Array Value := #[.int .i64 B, .int .i64 I, .int .i64 D]
theorem zero_geo (W : World) : (zeroValue 23).run Tryd.prog W = .ok (gval 0 0 0 0) W := by kernel_rfl
theorem zero_super (W : World) : (zeroValue 82).run Tryd.prog W = .ok (sval 0 0 0 0 0) W := by kernel_rfl
theorem zero_desc (W : World) : (zeroValue 74).run Tryd.prog W = .ok (dval 0 0 0) W := by kernel_rfl

set_option maxRecDepth 100000 in
set_option maxHeartbeats 2000000 in
theorem getGeo_any (g : Nat) (z : Nat → Int) (hzb : Byt z) (w : World) {T : TypeId} (hB : Blk w g T 256 z) :
    Calls Tryd.prog 162 #[getFn g] w fun e w' => e = .returned (gval (hd z 4) (hd z 5) (hd z 6) (hd z 7)) ∧ Below w.heap.size w w' := by
  have hal := zero_geo
  have HA := Lib.hid (At.new w 23 (gcells 0 0 0 0))
  have HL : Hid (Below w.heap.size w (w.alloc (.cells (gcells 0 0 0 0) 23))) := (Below.refl _ _).alloc (Nat.le_refl _) _
  have HG : Hid (∀ (W : World) (k : Nat) (K : Int), Blk W g T 256 z → K = 2 * (k : Int) → k < 128 → Calls Tryd.prog 159 #[.pointer (some ⟨g, 0, none⟩), .int .i64 K] W fun e w' => e = .returned (.int .i64 (hd z k)) ∧ W = w') :=
    fun W k K hB hK hk => pageGet_any g z hzb k K hK hk W hB
  have HB := Lib.hid (hB.alloc (.cells (gcells 0 0 0 0) 23))
  clear hB
  go_enter Tryd.func162, Tryd.ntmps162
  go_wp2_with fail
  refine (HG.out _ 4 8 HB.out rfl (by omega)).mono ?_
  rintro e w1 ⟨rfl, rfl⟩
  go_wp2_with fail
  refine (HG.out _ 5 10 HB.out rfl (by omega)).mono ?_
  rintro e w1 ⟨rfl, rfl⟩
  go_wp2_with fail
  refine (HG.out _ 6 12 HB.out rfl (by omega)).mono ?_
  rintro e w1 ⟨rfl, rfl⟩
  go_wp2_with fail
  refine (HG.out _ 7 14 HB.out rfl (by omega)).mono ?_
  rintro e w1 ⟨rfl, rfl⟩
  go_wp2_with fail
  exact bodyPost_ret (results_row rfl _ _ _ _ _ _ _ rfl (At.new w 23 (gcells (hd z 4) (hd z 5) (hd z 6) (hd z 7))) Tryd.underlying23 rfl (by kernel_rfl)) rfl ⟨rfl, (Below.refl _ _).alloc (Nat.le_refl _) _⟩

set_option maxRecDepth 100000 in
set_option maxHeartbeats 2000000 in
theorem putDesc_any (g : Nat) (l : Nat → Int) (k : Nat) (K B I D : Int) (hK : K = 8 * (k : Int)) (hk : k < 31) (hB0 : 0 ≤ B ∧ B ≤ 65535) (hI0 : 0 ≤ I ∧ I ≤ 65535) (hD0 : 0 ≤ D ∧ D ≤ 65535) (w : World) {T : TypeId} (hB : Blk w g T 256 (hz l)) :
    Calls Tryd.prog 81 #[.int .i64 K, dval B I D, putFn g] w fun e w' => (∃ u, e = .returned u) ∧ Blk w' g T 256 (hz (upd (upd (upd l (4 * k) B) (4 * k + 1) I) (4 * k + 2) D)) ∧ w.grownBy w' (some g) := by
  have HA := Lib.hid (At.new w 74 (dcells B I D))
  have HG : Hid (w.grownBy (w.alloc (.cells (dcells B I D) 74)) (some g)) := grown_below ((Below.refl _ _).alloc (Nat.le_refl _) _)
  have hne := hB.lt
  have HB := Lib.hid (hB.alloc (.cells (dcells B I D) 74))
  have c0 : (w.alloc (.cells #[.int .i64 B, .int .i64 I, .int .i64 D] 74)).cell? ⟨w.heap.size, 0, none⟩ = some (.int .i64 B) := HA.out.cell (i := 0) rfl
  have HP : Hid (∀ (W : World) (l : Nat → Int) (j : Nat) (K' v : Int), Blk W g T 256 (hz l) → K' = K + 2 * (j : Int) → j < 3 → 0 ≤ v ∧ v ≤ 65535 → Calls Tryd.prog 77 #[.pointer (some ⟨g, 0, none⟩), .int .i64 K', .int .i64 v] W fun e w' => (∃ u, e = .returned u) ∧ Blk w' g T 256 (hz (upd l (4 * k + j) v)) ∧ Only g W w') :=
    fun W l j K' v hB hK' hj hv => pagePut_any g l (4 * k + j) K' v (by omega) (by omega) hv.1 hv.2 W hB
  have hKb : 0 ≤ K ∧ K < 250 := by omega
  clear hB hK
  go_enter Tryd.func81, Tryd.ntmps81
  go_wp2_with fail
  refine (HP.out _ l 0 K B HB.out (by omega) (by omega) hB0).mono ?_
  rintro e w1 ⟨⟨u1, rfl⟩, hB1, ho1⟩
  have hA1 : At w1 w.heap.size 74 (dcells B I D) := HA.out.only ho1 (by omega)
  have hG1 := grown_trans HG.out (grown_only ho1)
  have c1 := hA1.cell (i := 1) rfl
  clear HB HA HG c0 ho1
  go_wp2_with fail
  refine (HP.out _ _ 1 (K + 2) I hB1 (by omega) (by omega) hI0).mono ?_
  rintro e w2 ⟨⟨u2, rfl⟩, hB2, ho2⟩
  have hA2 : At w2 w.heap.size 74 (dcells B I D) := hA1.only ho2 (by omega)
  have hG2 := grown_trans hG1 (grown_only ho2)
  have c2 := hA2.cell (i := 2) rfl
  clear hB1 hA1 hG1 c1 ho2
  go_wp2_with fail
  refine (HP.out _ _ 2 (K + 4) D hB2 (by omega) (by omega) hD0).mono ?_
  rintro e w3 ⟨⟨u3, rfl⟩, hB3, ho3⟩
  have hG3 := grown_trans hG2 (grown_only ho3)
  clear hB2 hA2 hG2 c2 ho3
  go_wp2_with fail
  exact bodyPost_end (results_none rfl _ _ _) rfl ⟨⟨_, rfl⟩, hB3, hG3⟩

set_option maxRecDepth 100000 in
set_option maxHeartbeats 2000000 in
theorem getDesc_any (g : Nat) (z : Nat → Int) (hzb : Byt z) (k : Nat) (K : Int) (hK : K = 8 * (k : Int)) (hk : k < 31) (w : World) {T : TypeId} (hB : Blk w g T 256 z) :
    Calls Tryd.prog 163 #[.int .i64 K, getFn g] w fun e w' => e = .returned (dval (hd z (4 * k)) (hd z (4 * k + 1)) (hd z (4 * k + 2))) ∧ Below w.heap.size w w' := by
  have hal := zero_desc
  have HA := Lib.hid (At.new w 74 (dcells 0 0 0))
  have HL : Hid (Below w.heap.size w (w.alloc (.cells (dcells 0 0 0) 74))) := (Below.refl _ _).alloc (Nat.le_refl _) _
  have HG : Hid (∀ (W : World) (j : Nat) (K' : Int), Blk W g T 256 z → K' = K + 2 * (j : Int) → j < 3 → Calls Tryd.prog 159 #[.pointer (some ⟨g, 0, none⟩), .int .i64 K'] W fun e w' => e = .returned (.int .i64 (hd z (4 * k + j))) ∧ W = w') :=
    fun W j K' hB hK' hj => pageGet_any g z hzb (4 * k + j) K' (by omega) (by omega) W hB
  have HB := Lib.hid (hB.alloc (.cells (dcells 0 0 0) 74))
  have hKb : 0 ≤ K ∧ K < 250 := by omega
  clear hB hK
  go_enter Tryd.func163, Tryd.ntmps163
  go_wp2_with fail
  refine (HG.out _ 0 K HB.out (by omega) (by omega)).mono ?_
  rintro e w1 ⟨rfl, rfl⟩
  go_wp2_with fail
  refine (HG.out _ 1 (K + 2) HB.out (by omega) (by omega)).mono ?_
  rintro e w1 ⟨rfl, rfl⟩
  go_wp2_with fail
  refine (HG.out _ 2 (K + 4) HB.out (by omega) (by omega)).mono ?_
  rintro e w1 ⟨rfl, rfl⟩
  go_wp2_with fail
  exact bodyPost_ret (results_row rfl _ _ _ _ _ _ _ rfl (At.new w 74 (dcells (hd z (4 * k)) (hd z (4 * k + 1)) (hd z (4 * k + 2)))) Tryd.underlying74 rfl (by kernel_rfl)) rfl ⟨rfl, (Below.refl _ _).alloc (Nat.le_refl _) _⟩

structure OrS (w : World) (G S I J O : Int) (W : World) : Prop where
  s : At W w.heap.size 82 (scells G S I J O)
  bel : Below w.heap.size w W
set_option maxRecDepth 100000 in
set_option maxHeartbeats 2000000 in
theorem orphaned_any (G S I J O : Int) (hO : 0 ≤ O ∧ O < 4294967296) (w : World) :
    Calls Tryd.prog 75 #[sval G S I J O] w fun e w' => e = .returned (.bool (decide (O ≤ nIn G S I J))) ∧ Below w.heap.size w w' := by
  have hA : At (w.alloc (.cells (scells G S I J O) 82)) w.heap.size 82 (scells G S I J O) := At.new _ _ _
  have hL : Below w.heap.size w (w.alloc (.cells (scells G S I J O) 82)) := (Below.refl _ _).alloc (Nat.le_refl _) _
  have hwr : O % 18446744073709551616 = O := by omega
  have hb := nIn_bd G S I J
  have HN : Hid (∀ W, Calls Tryd.prog 124 #[gval G S I J] W fun e w' => e = .returned (.int .i64 (nIn G S I J)) ∧ Below W.heap.size W w') := fun W => geoInodes_any G S I J W
  generalize nIn G S I J = n at *
  have hwn : n % 18446744073709551616 = n := by omega
  go_enter Tryd.func75, Tryd.ntmps75
  go_wp2_with fail
  have hkeep : Hid (∀ W W', OrS w G S I J O W → Below W.heap.size W W' → OrS w G S I J O W') := fun W W' h hb => ⟨h.s.below hb h.s.lt, h.bel.trans (hb.mono h.bel.size)⟩
  refine wp_region_S (OrS w G S I J O) (by kernel_rfl) (by kernel_rfl) ⟨hA, hL.drew⟩ ?_
  clear hA hL
  intro hne
  have hc : ∀ s : InW (OrS w G S I J O), s.W.cell? ⟨w.heap.size, 4, none⟩ = some (.int .u32 O) := fun s => s.h.s.cell (i := 4) rfl
  first | go_big_quiet_skip | (go_big_quiet_want; go_big_quiet_op; go_big_quiet_on)
  first | go_big_quiet_skip | (go_big_quiet_want; go_big_quiet_op; go_big_quiet_on)
  first | go_big_quiet_skip | (go_big_quiet_want; go_big_quiet_op; go_big_quiet_on)
  first | go_big_quiet_skip | (go_big_quiet_want; go_big_quiet_op; go_big_quiet_on)
  refine q_load rfl 23 (.tmp 6) rfl w.heap.size 0 rfl (gcells G S I J).toList _ (fun W h j v hj => ?_) Tryd.underlying23 rfl (by kernel_rfl) ?_
  · have hj4 : j < 4 := (List.getElem?_eq_some_iff.1 hj).1
    refine h.s.cell (i := 0 + j) ?_
    rw [Nat.zero_add, ← hj]
    obtain rfl | rfl | rfl | rfl : j = 0 ∨ j = 1 ∨ j = 2 ∨ j = 3 := by omega
    all_goals rfl
  refine wpQuiet_frame (by simp only [Act.put, List.setIfInBounds_toArray, List.set_cons_succ, List.set_cons_zero]; exact rfl) ?_
  go_big_quiet_want
  go_big_quiet_op
  refine ⟨_, fun s => q_call s (fun W hW => (HN.out W).mono fun e w' h => ⟨h.1, hkeep.out W w' hW h.2⟩), ?_⟩
  go_big_quiet_on
  repeat (first | go_big_quiet_skip | (go_big_quiet_want; go_big_quiet_op; go_big_quiet_on))
  refine wpQuiet_nil ?_
  intro w5 h5
  have hL5 : Below w.heap.size w w5 := h5.out.bel
  clear h5 hne
  go_wp2_with fail
  go_ret
  exact ⟨rfl, hL5⟩
end Go.Proofs.YtnbmmhoofilmfaaDoor

/- super.Write, super.Read. -/
namespace Go.Proofs.YtnbmmhoofilmfaaDoor
open Go.RowKit
set_option linter.unusedVariables false

/-- the superblock's halves, ahead of the sum -/
def supH (G S I J O : Int) : Nat → Int := upd2 (geoH (upd (upd (upd2 (fun _ => 0) 0 827216465) 2 1) 3 256) G S I J) 8 O
def supOk (G S I J O : Int) : Bool := mayG G S I J && decide (O ≤ nIn G S I J)
def supE (G S I J O : Int) : Int := if mayG G S I J then (if O ≤ nIn G S I J then 0 else 2) else 50
def supZ (G S I J O : Int) : Nat → Int := if supOk G S I J O then sealZ (hz (supH G S I J O)) else fun _ => 0

structure WS (w : World) (G S I J O : Int) (g : Nat) (z : Nat → Int) (W : World) : Prop where
  s : At W w.heap.size 82 (scells G S I J O)
  r : Blk W (w.heap.size + 1) 32 256 (fun _ => 0)
  p : Blk W g 154 256 z
  t : Tab W
  bel : Below w.heap.size w W
theorem WS.step {w : World} {G S I J O : Int} {g : Nat} {z z' : Nat → Int} {W W' : World} (h : WS w G S I J O g z W) (hT : 0 < w.heap.size) (hg : w.heap.size + 2 ≤ g) (hb : W.grownBy W' (some g)) (hp : Blk W' g 154 256 z') : WS w G S I J O g z' W' :=
  ⟨h.s.grown hb (fun e => by cases e; omega), h.r.grown hb (fun e => by cases e; omega), hp, h.t.grown hb (fun e => by cases e; omega), h.bel.grown hb h.bel.size (fun k e => by cases e; omega)⟩
theorem WS.geo {w : World} {G S I J O : Int} {g : Nat} {z : Nat → Int} {W : World} (h : WS w G S I J O g z W) : W.rangeAt w.heap.size 0 (gcells G S I J).toList := fun j v hj => by
  have hj4 : j < 4 := (List.getElem?_eq_some_iff.1 hj).1
  refine h.s.cell (i := 0 + j) ?_
  rw [Nat.zero_add, ← hj]
  obtain rfl | rfl | rfl | rfl : j = 0 ∨ j = 1 ∨ j = 2 ∨ j = 3 := by omega
  all_goals rfl
theorem At.geo {w : World} {g : Nat} {T : TypeId} {G S I J O : Int} (h : At w g T (scells G S I J O)) : w.rangeAt g 0 (gcells G S I J).toList := fun j v hj => by
  have hj4 : j < 4 := (List.getElem?_eq_some_iff.1 hj).1
  refine h.cell (i := 0 + j) ?_
  rw [Nat.zero_add, ← hj]
  obtain rfl | rfl | rfl | rfl : j = 0 ∨ j = 1 ∨ j = 2 ∨ j = 3 := by omega
  all_goals rfl
theorem wp_loadRange {P : Program} {w : World} {ops : Array Oper} {rest : List Oper} {o : Oper} {a : Act} {Q : Exit → Act → World → Prop} (hw : Region.wanted o (yielded ops a.tmps) = true) (T : TypeId) (p : Operand) (ho : o.op = .load T p)
    (g off : Nat) (cs : List Value) (d : TypeDesc) (hx : a.eval p = .pointer (some ⟨g, off, none⟩)) (hI : w.rangeAt g off cs) (hu : P.underlying T = some d) (hd : d.isRow = true) (hi : (P.info? T).map (·.size) = some cs.length)
    (h : wpList P ops Q rest (a.put o.dst (.agg cs.toArray)) w) : wpList P ops Q (o :: rest) a w :=
  BigFrame.wpList_want hw fun _ hK => wp_load_mid T p ho g off hx cs d hI hu hd hi (hK _ _ h)
/-- a page's bytes, read as a block -/
theorem wp_loadPage {w : World} {ops : Array Oper} {rest : List Oper} {o : Oper} {a : Act} {Q : Exit → Act → World → Prop} (hw : Region.wanted o (yielded ops a.tmps) = true) (p : Operand) (ho : o.op = .load 32 p)
    (g : Nat) (z : Nat → Int) {T : TypeId} (hx : a.eval p = .pointer (some ⟨g, 0, none⟩)) (hB : Blk w g T 256 z)
    (h : wpList Tryd.prog ops Q rest (a.put o.dst (bval z)) w) : wpList Tryd.prog ops Q (o :: rest) a w :=
  wp_loadRange hw 32 p ho g 0 (Ks .u8 256 z) _ hx hB.range Tryd.underlying32 rfl (by rw [Ks_length]; exact info_block) h

set_option maxRecDepth 100000 in
set_option maxHeartbeats 4000000 in
theorem superWrite_any (G S I J O : Int) (hO : 0 ≤ O ∧ O < 4294967296) (w : World) (hT : Tab w) :
    Calls Tryd.prog 36 #[sval G S I J O] w fun e w' => e = .returned (.tuple #[bval (supZ G S I J O), .int .i64 (supE G S I J O)]) ∧ Below w.heap.size w w' := by
  have hal := zero_block
  have halp := zero_page
  have hTl := hT.lt
  obtain ⟨W, hW⟩ : ∃ W, W = (w.alloc (.cells (scells G S I J O) 82)).alloc (.cells (Ks .u8 256 (fun _ => 0)).toArray 32) := ⟨_, rfl⟩
  have hS : At W w.heap.size 82 (scells G S I J O) := by rw [hW]; exact (At.new w _ _).alloc _
  have hR : Blk W (w.heap.size + 1) 32 256 (fun _ => 0) := by
    rw [hW]
    have := Blk.new (w.alloc (.cells (scells G S I J O) 82)) 32 256 (fun _ => 0)
    simp only [World.size_alloc] at this
    exact this
  have hL : Below w.heap.size w W := by rw [hW]; exact ((Below.refl _ _).alloc (Nat.le_refl _) _).alloc (by simp) _
  have hTW : Tab W := hT.below hL (Nat.le_refl _)
  have HW := Lib.hid hW
  clear hW hT
  go_enter Tryd.func36, Tryd.ntmps36
  go_wp2_with fail
  rw [← HW.out]
  clear HW
  go_wp2_with (first | (refine wp_loadRange rfl 23 _ rfl w.heap.size 0 (gcells G S I J).toList _ rfl hS.geo Tryd.underlying23 rfl (by kernel_rfl) ?_))
  refine (geoMay_any G S I J W).mono ?_
  rintro e w1 ⟨rfl, hb1⟩
  have hS1 := hS.below hb1 hS.lt
  have hR1 := hR.below hb1 hR.lt
  have hL1 : Below w.heap.size w w1 := hL.trans (hb1.mono hL.size)
  have hT1 := hTW.below hb1 (Nat.le_refl _)
  clear hS hR hL hTW hb1
  cases hm : mayG G S I J with
  | false =>
    have HO : Hid (supOk G S I J O = false ∧ supE G S I J O = 50) := by show _ ∧ _; unfold supOk supE; rw [hm]; exact ⟨rfl, rfl⟩
    clear hm
    go_wp2_with (first | (refine wp_storeBlk rfl (.tmp 2) (.tmp 9) rfl (w.heap.size + 1) (fun _ => 0) _ rfl rfl hR1 ?_))
    intro w2 hR2 ho2
    go_wp2_with fail
    exact bodyPost_ret (results_blk2 rfl _ _ (w.heap.size + 1) _ rfl hR2) rfl ⟨by rw [supZ, HO.out.1, HO.out.2]; rfl, hL1.trans (ho2.below (by omega))⟩
  | true =>
  have HM := Lib.hid hm
  clear hm
  go_wp2_with (first | (refine wp_loadAtG rfl 82 _ rfl _ _ _ rfl hS1 Tryd.underlying82 rfl (by kernel_rfl) ?_))
  refine (orphaned_any G S I J O hO w1).mono ?_
  rintro e w2 ⟨rfl, hb2⟩
  have hS2 := hS1.below hb2 hS1.lt
  have hR2 := hR1.below hb2 hR1.lt
  have hL2 : Below w.heap.size w w2 := hL1.trans (hb2.mono hL1.size)
  have hT2 := hT1.below hb2 (Nat.le_refl _)
  have hsz := hR2.lt
  clear hS1 hR1 hL1 hT1 hb2
  cases ho : decide (O ≤ nIn G S I J) with
  | false =>
    have HO : Hid (supOk G S I J O = false ∧ supE G S I J O = 2) := by
      show _ ∧ _
      unfold supOk supE; rw [HM.out, ho, if_pos rfl, if_neg (by simpa using ho)]; exact ⟨rfl, rfl⟩
    clear ho
    go_wp2_with (first | (refine wp_storeBlk rfl (.tmp 2) (.tmp 13) rfl (w.heap.size + 1) (fun _ => 0) _ rfl rfl hR2 ?_))
    intro w3 hR3 ho3
    go_wp2_with fail
    exact bodyPost_ret (results_blk2 rfl _ _ (w.heap.size + 1) _ rfl hR3) rfl ⟨by rw [supZ, HO.out.1, HO.out.2]; rfl, hL2.trans (ho3.below (by omega))⟩
  | true =>
  have HO : Hid (supOk G S I J O = true ∧ supE G S I J O = 0) := by
    show _ ∧ _
    unfold supOk supE; rw [HM.out, ho, if_pos rfl, if_pos (by simpa using ho)]; exact ⟨rfl, rfl⟩
  clear ho
  obtain ⟨g, hg⟩ : ∃ g, g = w2.heap.size := ⟨_, rfl⟩
  have hg2 : w.heap.size + 2 ≤ g := by omega
  have st0 : Hid (WS w G S I J O g (hz (fun _ => 0)) (w2.alloc (.cells (Ks .u8 256 (fun _ => 0)).toArray 154))) :=
    ⟨hS2.alloc _, hR2.alloc _, by rw [hg]; exact (Blk.new w2 _ _ _).congr fun i _ => (hz_zero i).symm, hT2.alloc _, hL2.alloc hL2.size _⟩
  clear hS2 hR2 hL2 hT2 hsz
  go_wp2_with fail
  rw [← hg]
  clear hg
  refine (pagePut4_any g _ 0 0 827216465 rfl (by omega) (by omega) _ st0.out.p).mono ?_
  rintro e w3 ⟨⟨u, rfl⟩, hp, hgo⟩
  have st1 := Lib.hid (st0.out.step hTl hg2 (grown_only hgo) hp)
  clear st0 hp hgo
  go_wp2_with fail
  refine (pagePut_any g _ 2 4 1 rfl (by omega) (by omega) (by omega) _ st1.out.p).mono ?_
  rintro e w4 ⟨⟨u, rfl⟩, hp, hgo⟩
  have st2 := Lib.hid (st1.out.step hTl hg2 (grown_only hgo) hp)
  clear st1 hp hgo
  go_wp2_with fail
  refine (pagePut_any g _ 3 6 256 rfl (by omega) (by omega) (by omega) _ st2.out.p).mono ?_
  rintro e w5 ⟨⟨u, rfl⟩, hp, hgo⟩
  have st3 := Lib.hid (st2.out.step hTl hg2 (grown_only hgo) hp)
  clear st2 hp hgo
  have hr3 := st3.out.s.geo
  go_wp2_with (first | (refine wp_loadRange rfl 23 _ rfl w.heap.size 0 (gcells G S I J).toList _ rfl hr3 Tryd.underlying23 rfl (by kernel_rfl) ?_))
  clear hr3
  refine (putGeo_any g _ G S I J HM.out _ st3.out.p).mono ?_
  rintro e w6 ⟨⟨u, rfl⟩, hp, hgo⟩
  have st4 := Lib.hid (st3.out.step hTl hg2 hgo hp)
  clear st3 hp hgo
  have hc : w6.cell? ⟨w.heap.size, 4, none⟩ = some (.int .u32 O) := st4.out.s.cell (i := 4) rfl
  go_wp2_with fail
  clear hc
  refine (pagePut4_any g _ 8 16 O rfl (by omega) hO.1 _ st4.out.p).mono ?_
  rintro e w7 ⟨⟨u, rfl⟩, hp, hgo⟩
  have st5 := Lib.hid (st4.out.step hTl hg2 (grown_only hgo) hp)
  clear st4 hp hgo
  go_wp2_with fail
  refine (pageSeal_any g _ (hz_byt _) _ st5.out.p st5.out.t).mono ?_
  rintro e w8 ⟨⟨u, rfl⟩, hp, hgo⟩
  have st6 := Lib.hid (st5.out.step hTl hg2 hgo hp)
  clear st5 hp hgo
  have hp6 := st6.out.p
  have hr6 := st6.out.r
  go_wp2_with (first | (refine wp_loadPage rfl _ rfl g _ rfl hp6 ?_) | (refine wp_storeBlk rfl (.tmp 2) (.tmp 26) rfl (w.heap.size + 1) (sealZ (hz (supH G S I J O))) _ rfl rfl hr6 ?_))
  intro w9 hR9 ho9
  go_wp2_with fail
  exact bodyPost_ret (results_blk2 rfl _ _ (w.heap.size + 1) _ rfl hR9) rfl ⟨by rw [supZ, HO.out.1, HO.out.2]; rfl, st6.out.bel.trans (ho9.below (by omega))⟩
end Go.Proofs.YtnbmmhoofilmfaaDoor

/- super.may, super.WriteDescs. -/
namespace Go.Proofs.YtnbmmhoofilmfaaDoor
open Go.RowKit
set_option linter.unusedVariables false

/-- the cells of descriptors -/
def df (B I D : Nat → Int) (i : Nat) : List Value := [.int .i64 (B i), .int .i64 (I i), .int .i64 (D i)]
theorem df_len (B I D : Nat → Int) (i : Nat) : (df B I D i).length = 3 := rfl
theorem df_ne (B I D : Nat → Int) (i : Nat) : df B I D i ≠ [] := by intro h; cases h
theorem df_one (B I D : Nat → Int) (i : Nat) : ∀ v ∈ df B I D i, v.oneCell' = true := by
  intro v hv
  simp only [df, List.mem_cons, List.not_mem_nil, or_false] at hv
  rcases hv with rfl | rfl | rfl <;> rfl
def okD (da im b i d : Int) : Bool := decide (0 ≤ b ∧ b ≤ da ∧ 0 ≤ i ∧ i ≤ im ∧ 0 ≤ d ∧ d ≤ im - i)
theorem okD_iff (da im b i d : Int) : okD da im b i d = true ↔ 0 ≤ b ∧ b ≤ da ∧ 0 ≤ i ∧ i ≤ im ∧ 0 ≤ d ∧ d ≤ im - i := by unfold okD; exact decide_eq_true_iff
theorem okD_no {da im b i d : Int} (h : ¬ (0 ≤ b ∧ b ≤ da ∧ 0 ≤ i ∧ i ≤ im ∧ 0 ≤ d ∧ d ≤ im - i)) : okD da im b i d = false := by unfold okD; exact decide_eq_false h
/-- all of the first n -/
def allB (p : Nat → Bool) : Nat → Bool
  | 0 => true
  | n + 1 => allB p n && p n
theorem allB_iff (p : Nat → Bool) (n : Nat) : allB p n = true ↔ ∀ i, i < n → p i = true := by
  induction n with
  | zero => simp [allB]
  | succ n ih =>
    unfold allB
    rw [Bool.and_eq_true, ih]
    constructor
    · rintro ⟨h, g⟩ i hi
      by_cases e : i = n
      · rw [e]; exact g
      · exact h i (by omega)
    · intro h; exact ⟨fun i hi => h i (by omega), h n (by omega)⟩
theorem allB_no {p : Nat → Bool} {n j : Nat} (hj : j < n) (h : p j = false) : allB p n = false := by
  cases e : allB p n with
  | false => rfl
  | true => have := (allB_iff p n).1 e j hj; rw [h] at this; cases this
/-- may descriptors be, by a geometry? -/
def mayD (G S I J : Int) (n : Nat) (b i d : Nat → Int) : Bool := decide ((n : Int) = G) && allB (fun k => okD (nDa G S I J) I (b k) (i k) (d k)) n

structure MyS (w : World) (G S I J : Int) (a : Option Addr) (n : Nat) (f : Nat → List Value) (W : World) : Prop where
  s : At W w.heap.size 23 (gcells G S I J)
  r : RRow W a 3 n f
  bel : Below w.heap.size w W
theorem MyS.below {w : World} {G S I J : Int} {a : Option Addr} {n : Nat} {f : Nat → List Value} {W W' : World} (h : MyS w G S I J a n f W) (hf : f 0 ≠ []) (hb : Below W.heap.size W W') : MyS w G S I J a n f W' :=
  ⟨h.s.below hb h.s.lt, h.r.below hf hb, h.bel.trans (hb.mono h.bel.size)⟩
/-- like wp_loadRange, for an operation without a guard: what it is comes first, so that it fails at once elsewhere -/
theorem wp_loadRow {P : Program} {w : World} {ops : Array Oper} {rest : List Oper} {o : Oper} {a : Act} {Q : Exit → Act → World → Prop} (T : TypeId) (p : Operand) (ho : o.op = .load T p) (hgd : o.guard = none)
    (g off : Nat) (cs : List Value) (d : TypeDesc) (hx : a.eval p = .pointer (some ⟨g, off, none⟩)) (hI : w.rangeAt g off cs) (hu : P.underlying T = some d) (hd : d.isRow = true) (hi : (P.info? T).map (·.size) = some cs.length)
    (h : wpList P ops Q rest (a.put o.dst (.agg cs.toArray)) w) : wpList P ops Q (o :: rest) a w :=
  wp_loadRange (by unfold Region.wanted; rw [hgd]) T p ho g off cs d hx hI hu hd hi h
theorem info_desc : (Tryd.prog.info? 74).map (·.size) = some 3 := by kernel_rfl
set_option maxRecDepth 100000 in
set_option maxHeartbeats 600000 in
theorem superMay_any (G S I J : Int) (hm : mayG G S I J = true) (a : Option Addr) (n cap : Nat) (b i d : Nat → Int) (hn : (n : Int) ≤ 9223372036854775807) (w : World) (hr : RRow w a 3 n (df b i d)) :
    Calls Tryd.prog 80 #[gval G S I J, .slice a n cap] w fun e w' => e = .returned (.bool (mayD G S I J n b i d)) ∧ Below w.heap.size w w' := by
  have st0 : MyS w G S I J a n (df b i d) (w.alloc (.cells (gcells G S I J) 23)) := ⟨At.new _ _ _, hr.below (df_ne _ _ _ _) ((Below.refl _ _).alloc (Nat.le_refl _) _), (Below.refl _ _).alloc (Nat.le_refl _) _⟩
  have hI : 4 ≤ I ∧ I ≤ 64 := by
    obtain ⟨h1, h2, h3, h4, h5, h6, h7, h8, h9, h10, h11⟩ := (mayG_iff G S I J).1 hm
    exact ⟨h5, h6⟩
  have c0 : (w.alloc (.cells #[.int .i64 G, .int .i64 S, .int .i64 I, .int .i64 J] 23)).cell? ⟨w.heap.size, 0, none⟩ = some (.int .i64 G) := st0.s.cell (i := 0) rfl
  have hgeo := st0.s
  have ST0 := Lib.hid st0
  clear st0 hr hm
  go_enter Tryd.func80, Tryd.ntmps80
  by_cases hg : (n : Int) = G
  rotate_left
  · have hg' : ((n : Int) != G) = true := by simpa using hg
    have HN : Hid (mayD G S I J n b i d = false) := by show _ = _; unfold mayD; simp [hg]
    clear hg
    go_wp2_with fail
    go_ret
    exact ⟨by rw [HN.out]; rfl, ST0.out.bel⟩
  have hg' : ((n : Int) != G) = false := by simpa using hg
  have HD : Hid (mayD G S I J n b i d = allB (fun k => okD (nDa G S I J) I (b k) (i k) (d k)) n) := by show _ = _; unfold mayD; simp [hg]
  clear hg
  go_wp2_with (first | (refine wp_loadAtG rfl 23 _ rfl _ _ _ rfl hgeo Tryd.underlying23 rfl (by kernel_rfl) ?_))
  refine (geoData_any G S I J _).mono ?_
  rintro e w1 ⟨rfl, hb1⟩
  have st1 := ST0.out.below (df_ne _ _ _ _) hb1
  clear ST0 hgeo c0 hb1 hg'
  have hda := nDa_bd G S I J
  generalize nDa G S I J = da at *
  go_wp2_with fail
  go_loopw [17] (fun u wr => ∃ k : Nat, k ≤ n ∧ u = .int .i64 (k : Int) ∧ Hid (allB (fun k => okD da I (b k) (i k) (d k)) k = true) ∧ MyS w G S I J a n (df b i d) wr) (fun u _ => n - (intOf u).toNat)
  case atStart => exact ⟨0, by omega, rfl, rfl, st1⟩
  case round =>
    clear st1
    obtain ⟨k, hk, rfl, HALL, st⟩ := hrel
    by_cases hlt : k < n
    · rcases st.r with h0 | ⟨bb, off, rfl, hsg⟩
      · omega
      have r0 : wr.cell? ⟨bb, off + k * 3, none⟩ = some (.int .i64 (b k)) := hsg k hlt 0 _ rfl
      have r1 : wr.cell? ⟨bb, off + k * 3 + 1, none⟩ = some (.int .i64 (i k)) := hsg k hlt 1 _ rfl
      have r2 : wr.cell? ⟨bb, off + k * 3 + 2, none⟩ = some (.int .i64 (d k)) := hsg k hlt 2 _ rfl
      have hA := At.new wr 74 (dcells (b k) (i k) (d k))
      have d0 : (wr.alloc (.cells #[.int .i64 (b k), .int .i64 (i k), .int .i64 (d k)] 74)).cell? ⟨wr.heap.size, 0, none⟩ = some (.int .i64 (b k)) := hA.cell (i := 0) rfl
      have d1 : (wr.alloc (.cells #[.int .i64 (b k), .int .i64 (i k), .int .i64 (d k)] 74)).cell? ⟨wr.heap.size, 1, none⟩ = some (.int .i64 (i k)) := hA.cell (i := 1) rfl
      have d2 : (wr.alloc (.cells #[.int .i64 (b k), .int .i64 (i k), .int .i64 (d k)] 74)).cell? ⟨wr.heap.size, 2, none⟩ = some (.int .i64 (d k)) := hA.cell (i := 2) rfl
      have g2 : (wr.alloc (.cells #[.int .i64 (b k), .int .i64 (i k), .int .i64 (d k)] 74)).cell? ⟨w.heap.size, 2, none⟩ = some (.int .i64 I) := (st.s.alloc _).cell (i := 2) rfl
      have ST := Lib.hid (st.below (df_ne _ _ _ _) ((Below.refl _ _).alloc (Nat.le_refl _) (.cells (dcells (b k) (i k) (d k)) 74)))
      have HK : Hid (∀ c, okD da I (b k) (i k) (d k) = c → (c = true → allB (fun k => okD da I (b k) (i k) (d k)) (k + 1) = true) ∧ (c = false → allB (fun k => okD da I (b k) (i k) (d k)) n = false)) := fun c hc =>
        ⟨fun h => by show (allB _ k && okD da I (b k) (i k) (d k)) = true; rw [HALL.out, hc, h]; rfl, fun h => allB_no hlt (by rw [hc, h])⟩
      clear hsg hA st HALL
      generalize b k = x at *
      generalize i k = y at *
      generalize d k = v at *
      have hnl : (n : Int) ≤ 9223372036854775807 := hn
      by_cases h1 : 0 ≤ x
      rotate_left
      · have HF : Hid (allB (fun k => okD da I (b k) (i k) (d k)) n = false) := (HK.out false (okD_no fun h => h1 (h.1))).2 rfl
        have q1 : decide (x < 0) = true := by rw [decide_eq_true_eq]; omega
        go_wp2_with fail
        go_ret
        exact ⟨by rw [HD.out, HF.out]; rfl, ST.out.bel⟩
      have q1 : decide (x < 0) = false := by rw [decide_eq_false_iff_not]; omega
      by_cases h2 : x ≤ da
      rotate_left
      · have HF : Hid (allB (fun k => okD da I (b k) (i k) (d k)) n = false) := (HK.out false (okD_no fun h => h2 (h.2.1))).2 rfl
        have q2 : decide (da < x) = true := by rw [decide_eq_true_eq]; omega
        go_wp2_with fail
        go_ret
        exact ⟨by rw [HD.out, HF.out]; rfl, ST.out.bel⟩
      have q2 : decide (da < x) = false := by rw [decide_eq_false_iff_not]; omega
      by_cases h3 : 0 ≤ y
      rotate_left
      · have HF : Hid (allB (fun k => okD da I (b k) (i k) (d k)) n = false) := (HK.out false (okD_no fun h => h3 (h.2.2.1))).2 rfl
        have q3 : decide (y < 0) = true := by rw [decide_eq_true_eq]; omega
        go_wp2_with fail
        go_ret
        exact ⟨by rw [HD.out, HF.out]; rfl, ST.out.bel⟩
      have q3 : decide (y < 0) = false := by rw [decide_eq_false_iff_not]; omega
      by_cases h4 : y ≤ I
      rotate_left
      · have HF : Hid (allB (fun k => okD da I (b k) (i k) (d k)) n = false) := (HK.out false (okD_no fun h => h4 (h.2.2.2.1))).2 rfl
        have q4 : decide (I < y) = true := by rw [decide_eq_true_eq]; omega
        go_wp2_with fail
        go_ret
        exact ⟨by rw [HD.out, HF.out]; rfl, ST.out.bel⟩
      have q4 : decide (I < y) = false := by rw [decide_eq_false_iff_not]; omega
      by_cases h5 : 0 ≤ v
      rotate_left
      · have HF : Hid (allB (fun k => okD da I (b k) (i k) (d k)) n = false) := (HK.out false (okD_no fun h => h5 (h.2.2.2.2.1))).2 rfl
        have q5 : decide (v < 0) = true := by rw [decide_eq_true_eq]; omega
        go_wp2_with fail
        go_ret
        exact ⟨by rw [HD.out, HF.out]; rfl, ST.out.bel⟩
      have q5 : decide (v < 0) = false := by rw [decide_eq_false_iff_not]; omega
      by_cases h6 : v ≤ I - y
      rotate_left
      · have HF : Hid (allB (fun k => okD da I (b k) (i k) (d k)) n = false) := (HK.out false (okD_no fun h => h6 (h.2.2.2.2.2))).2 rfl
        have q6 : decide (I - y < v) = true := by rw [decide_eq_true_eq]; omega
        go_wp2_with fail
        go_ret
        exact ⟨by rw [HD.out, HF.out]; rfl, ST.out.bel⟩
      have q6 : decide (I - y < v) = false := by rw [decide_eq_false_iff_not]; omega
      have HY : Hid (allB (fun k => okD da I (b k) (i k) (d k)) (k + 1) = true) := (HK.out true ((okD_iff _ _ _ _ _).2 ⟨h1, h2, h3, h4, h5, h6⟩)).1 rfl
      go_wp2_with fail
      go_roundw
      case rel => first | exact ⟨k + 1, by omega, by go_num, HY, ST.out⟩ | exact ⟨k + 1, by omega, rfl, HY, ST.out⟩
      case measure => simp [intOf]; omega
    · obtain rfl : k = n := by omega
      go_wp2_with fail
      go_ret
      exact ⟨by rw [HD.out, HALL.out]; rfl, st.bel⟩
end Go.Proofs.YtnbmmhoofilmfaaDoor

/- The frame of a tied law: the listed table; geometries, superblocks, descriptors that came in. -/
namespace Go.Proofs.YtnbmmhoofilmfaaDoor
open Go.RowKit Go.ChangeShapes Go.WideShapes Go.ChangeAt Go.Deep
set_option linter.unusedVariables false

theorem tab_of_laid {W : World} (h : laidMetH Tryd.prog [("quern/crc.steps", Rows.laid_quern_crc_steps)] W) : Tab W := by
  rw [MakeChecks.laidMetH_plain _ _ _ (by kernel_rfl)] at h
  have hT := Lib.tabIs_of_head (zs := tabN.map fun (x : Nat) => (x : Int)) (k := .u32) (g := 0) (by kernel_rfl) (by kernel_rfl) Tryd.underlying204 Tryd.underlying34 (by kernel_rfl) (by kernel_rfl) h
  intro i hi
  have := hT.cell (g := 0) (by kernel_rfl) i (by simpa [tabN] using hi)
  rw [this]
  have key : ∀ i, i < 16 → (tabN.map fun (x : Nat) => (x : Int)).getD i 0 = ((tabN.getD i 0 : Nat) : Int) := by decide
  rw [key i hi]
theorem door_met (os : Os) (args : Array Value) : laidMetH Tryd.prog [("quern/crc.steps", Rows.laid_quern_crc_steps)] ((World.doorLaid Tryd.prog 14 os).forCall (fun _ _ => 0) ⟨#[], args, []⟩).memory :=
  laidMetH_of_parts3 (fuel := 8) (laidMet_of_run' 8 (by kernel_rfl) (by kernel_rfl)) (by kernel_rfl) (by kernel_rfl)

set_option maxRecDepth 100000 in
theorem open_geo {W : World} {base : Nat} {v : Value} (h : Value.okWide Tryd.prog W .any base 23 v) : ∃ G S I J : Int, v = gval G S I J ∧ ∀ x ∈ [G, S, I, J], -9223372036854775808 ≤ x ∧ x ≤ 9223372036854775807 := by
  obtain ⟨z, rfl, hz, _⟩ := open_row [.i64, .i64, .i64, .i64] h (by kernel_rfl) (by kernel_rfl) (by kernel_rfl)
  have k0 := kHas (hz 0 (by decide))
  have k1 := kHas (hz 1 (by decide))
  have k2 := kHas (hz 2 (by decide))
  have k3 := kHas (hz 3 (by decide))
  refine ⟨z 0, z 1, z 2, z 3, rfl, ?_⟩
  simp [List.getD, IntKind.min, IntKind.max, IntKind.signed, IntKind.bits] at k0 k1 k2 k3
  intro x hx
  simp only [List.mem_cons, List.not_mem_nil, or_false] at hx
  rcases hx with rfl | rfl | rfl | rfl <;> omega
set_option maxRecDepth 100000 in
theorem open_super {W : World} {base : Nat} {v : Value} (h : Value.okWide Tryd.prog W .any base 82 v) : ∃ G S I J O : Int, v = .agg #[.int .i64 G, .int .i64 S, .int .i64 I, .int .i64 J, .int .u32 O] ∧ (∀ x ∈ [G, S, I, J], -9223372036854775808 ≤ x ∧ x ≤ 9223372036854775807) ∧ 0 ≤ O ∧ O < 4294967296 := by
  obtain ⟨z, rfl, hz, _⟩ := open_row [.i64, .i64, .i64, .i64, .u32] h (by kernel_rfl) (by kernel_rfl) (by kernel_rfl)
  have k0 := kHas (hz 0 (by decide))
  have k1 := kHas (hz 1 (by decide))
  have k2 := kHas (hz 2 (by decide))
  have k3 := kHas (hz 3 (by decide))
  have k4 := kHas (hz 4 (by decide))
  refine ⟨z 0, z 1, z 2, z 3, z 4, rfl, ?_, ?_⟩
  · simp [List.getD, IntKind.min, IntKind.max, IntKind.signed, IntKind.bits] at k0 k1 k2 k3
    intro x hx
    simp only [List.mem_cons, List.not_mem_nil, or_false] at hx
    rcases hx with rfl | rfl | rfl | rfl <;> omega
  · simp [List.getD, IntKind.min, IntKind.max, IntKind.signed, IntKind.bits] at k4
    omega
set_option maxRecDepth 100000 in
theorem descs_in {H : Type} {enc : TypeId × Value → H} {W : World} {a : Option Addr} {len cap : Nat} {d : DataW H} {p : List MemPlace} (h : DataW.Trod enc Tryd.prog W 0 (fun _ => true) true 72 (.slice a len cap) d p) :
    ∃ (B I D : Nat → Int), RRow W a 3 len (df B I D) ∧ (len : Int) ≤ 9223372036854775807 ∧ len ≤ cap ∧ (cap : Int) ≤ 9223372036854775807 ∧ (a = none → len = 0 ∧ cap = 0) := by
  obtain ⟨fuel, hf⟩ := h
  rcases open_slice Tryd.underlying72 hf with ⟨hcs, _⟩ | ⟨x, l, c, m, nn, DD, Pl, hcs, _, hl, hm, hmm, _, hall⟩
  · simp [Value.cells] at hcs
    obtain ⟨rfl, rfl, rfl⟩ := hcs
    exact ⟨fun _ => 0, fun _ => 0, fun _ => 0, .inl rfl, by omega, by omega, by omega, fun _ => ⟨rfl, rfl⟩⟩
  · simp [Value.cells] at hcs
    obtain ⟨rfl, rfl, rfl⟩ := hcs
    have hmax : maxLen = 9223372036854775807 := rfl
    have hlm : len ≤ m := by rw [hmm]; split <;> omega
    have hce : Tryd.prog.cellsOf 74 = 3 := by kernel_rfl
    rw [hce] at hall
    have hS : Tryd.prog.underlying 74 = some (.struct (Tryd.prog.fieldsOf 74)) := by kernel_rfl
    have key : ∀ i, i < len → ∃ b e g : Int, W.cell? (x.add (i * 3)) = some (.int .i64 b) ∧ W.cell? (x.add (i * 3 + 1)) = some (.int .i64 e) ∧ W.cell? (x.add (i * 3 + 2)) = some (.int .i64 g) := by
      intro i hi
      obtain ⟨cs', h1, h2⟩ := hall i (by omega)
      obtain ⟨_, hlen, hcell⟩ := World.cells?_some h1
      obtain ⟨xs, k, _, _, _, hxl, hfl⟩ := DataW.trod_struct Tryd.underlying74 h2
      match xs, hxl, cs', hlen with
      | [y0, y1, y2], _, [v0, v1, v2], _ =>
        have g0 := hfl 0 _ rfl
        have g1 := hfl 1 _ rfl
        have g2 := hfl 2 _ rfl
        have hci : Tryd.prog.cellsOf 3 = 1 := by kernel_rfl
        simp [hci] at g0 g1 g2
        obtain ⟨b, e0, _, _⟩ := DataW.trod_int Tryd.underlying3 g0
        obtain ⟨e, e1, _, _⟩ := DataW.trod_int Tryd.underlying3 g1
        obtain ⟨g, e2, _, _⟩ := DataW.trod_int Tryd.underlying3 g2
        simp at e0 e1 e2
        have c0 := hcell 0 (by omega)
        have c1 := hcell 1 (by omega)
        have c2 := hcell 2 (by omega)
        rw [add_add] at c0 c1 c2
        exact ⟨b, e, g, by simpa [e0] using c0, by simpa [e1] using c1, by simpa [e2] using c2⟩
    refine ⟨fun i => if hi : i < len then (key i hi).choose else 0, fun i => if hi : i < len then (key i hi).choose_spec.choose else 0, fun i => if hi : i < len then (key i hi).choose_spec.choose_spec.choose else 0, ?_, by omega, by omega, by omega, fun h => by cases h⟩
    by_cases h0 : len = 0
    · exact .inl h0
    · obtain ⟨b, off, spot⟩ := x
      have hc := (key 0 (by omega)).choose_spec.choose_spec.choose_spec.1
      have hspot : spot = none := by simpa [Addr.add] using World.cell?_spot hc
      subst hspot
      refine .inr ⟨b, off, rfl, fun i hi j v hv => ?_⟩
      have hk := (key i hi).choose_spec.choose_spec.choose_spec
      have hj3 : j < 3 := (List.getElem?_eq_some_iff.1 hv).1
      unfold df at hv
      simp only [hi, dif_pos] at hv
      rw [Nat.add_assoc, ← addr_add]
      obtain rfl | rfl | rfl : j = 0 ∨ j = 1 ∨ j = 2 := by omega
      · rw [← hv]; exact hk.1
      · rw [← hv]; exact hk.2.1
      · rw [← hv]; exact hk.2.2
end Go.Proofs.YtnbmmhoofilmfaaDoor
