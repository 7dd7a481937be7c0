/- Texts of this claim, merged by a program (a claim may have 60 files): U6b, U6c, U6d. -/
import Derived.Test.YtnbmmhoofilmfaaGreatDoorK10
import Derived.Test.YtnbmmhoofilmfaaGreatDoorK06
/- super: getGeo, putDesc, getDesc, orphaned; Write, Read. -/
namespace Go.Proofs.YtnbmmhoofilmfaaGreatDoor
open Go.RowKit
set_option linter.unusedVariables false

abbrev sval (G S I J O : Int) : Value := .agg #[.int .i64 G, .int .i64 S, .int .i64 I, .int .i64 J, .int .u32 O]
abbrev scells (G S I J O : Int) : Array Value := #[.int .i64 G, .int .i64 S, .int .i64 I, .int .i64 J, .int .u32 O]
abbrev dval (B I D : Int) : Value := .agg #[.int .i64 B, .int .i64 I, .int .i64 D]
abbrev dcells (B I D : Int) : Array Value := #[.int .i64 B, .int .i64 I, .int .i64 D]
theorem zero_geo (W : World) : (zeroValue 23).run Tryz.prog W = .ok (gval 0 0 0 0) W := by kernel_rfl
theorem zero_super (W : World) : (zeroValue 47).run Tryz.prog W = .ok (sval 0 0 0 0 0) W := by kernel_rfl
theorem zero_desc (W : World) : (zeroValue 67).run Tryz.prog W = .ok (dval 0 0 0) W := by kernel_rfl

set_option maxRecDepth 100000 in
set_option maxHeartbeats 2000000 in
theorem getGeo_any (g : Nat) (z : Nat → Int) (hzb : Byt z) (w : World) {T : TypeId} (hB : Blk w g T 256 z) :
    Calls Tryz.prog 195 #[getFn g] w fun e w' => e = .returned (gval (hd z 4) (hd z 5) (hd z 6) (hd z 7)) ∧ Below w.heap.size w w' := by
  have hal := zero_geo
  have HA := Lib.hid (At.new w 23 (gcells 0 0 0 0))
  have HL : Hid (Below w.heap.size w (w.alloc (.cells (gcells 0 0 0 0) 23))) := (Below.refl _ _).alloc (Nat.le_refl _) _
  have HG : Hid (∀ (W : World) (k : Nat) (K : Int), Blk W g T 256 z → K = 2 * (k : Int) → k < 128 → Calls Tryz.prog 50 #[.pointer (some ⟨g, 0, none⟩), .int .i64 K] W fun e w' => e = .returned (.int .i64 (hd z k)) ∧ W = w') :=
    fun W k K hB hK hk => pageGet_any g z hzb k K hK hk W hB
  have HB := Lib.hid (hB.alloc (.cells (gcells 0 0 0 0) 23))
  clear hB
  go_enter Tryz.func195, Tryz.ntmps195
  go_wp2_with fail
  refine (HG.out _ 4 8 HB.out rfl (by omega)).mono ?_
  rintro e w1 ⟨rfl, rfl⟩
  go_wp2_with fail
  refine (HG.out _ 5 10 HB.out rfl (by omega)).mono ?_
  rintro e w1 ⟨rfl, rfl⟩
  go_wp2_with fail
  refine (HG.out _ 6 12 HB.out rfl (by omega)).mono ?_
  rintro e w1 ⟨rfl, rfl⟩
  go_wp2_with fail
  refine (HG.out _ 7 14 HB.out rfl (by omega)).mono ?_
  rintro e w1 ⟨rfl, rfl⟩
  go_wp2_with fail
  exact bodyPost_ret (results_row rfl _ _ _ _ _ _ _ rfl (At.new w 23 (gcells (hd z 4) (hd z 5) (hd z 6) (hd z 7))) Tryz.underlying23 rfl (by kernel_rfl)) rfl ⟨rfl, (Below.refl _ _).alloc (Nat.le_refl _) _⟩

set_option maxRecDepth 100000 in
set_option maxHeartbeats 2000000 in
theorem putDesc_any (g : Nat) (l : Nat → Int) (k : Nat) (K B I D : Int) (hK : K = 8 * (k : Int)) (hk : k < 31) (hB0 : 0 ≤ B ∧ B ≤ 65535) (hI0 : 0 ≤ I ∧ I ≤ 65535) (hD0 : 0 ≤ D ∧ D ≤ 65535) (w : World) {T : TypeId} (hB : Blk w g T 256 (hz l)) :
    Calls Tryz.prog 121 #[.int .i64 K, dval B I D, putFn g] w fun e w' => (∃ u, e = .returned u) ∧ Blk w' g T 256 (hz (upd (upd (upd l (4 * k) B) (4 * k + 1) I) (4 * k + 2) D)) ∧ w.grownBy w' (some g) := by
  have HA := Lib.hid (At.new w 67 (dcells B I D))
  have HG : Hid (w.grownBy (w.alloc (.cells (dcells B I D) 67)) (some g)) := grown_below ((Below.refl _ _).alloc (Nat.le_refl _) _)
  have hne := hB.lt
  have HB := Lib.hid (hB.alloc (.cells (dcells B I D) 67))
  have c0 : (w.alloc (.cells #[.int .i64 B, .int .i64 I, .int .i64 D] 67)).cell? ⟨w.heap.size, 0, none⟩ = some (.int .i64 B) := HA.out.cell (i := 0) rfl
  have HP : Hid (∀ (W : World) (l : Nat → Int) (j : Nat) (K' v : Int), Blk W g T 256 (hz l) → K' = K + 2 * (j : Int) → j < 3 → 0 ≤ v ∧ v ≤ 65535 → Calls Tryz.prog 118 #[.pointer (some ⟨g, 0, none⟩), .int .i64 K', .int .i64 v] W fun e w' => (∃ u, e = .returned u) ∧ Blk w' g T 256 (hz (upd l (4 * k + j) v)) ∧ Only g W w') :=
    fun W l j K' v hB hK' hj hv => pagePut_any g l (4 * k + j) K' v (by omega) (by omega) hv.1 hv.2 W hB
  have hKb : 0 ≤ K ∧ K < 250 := by omega
  clear hB hK
  go_enter Tryz.func121, Tryz.ntmps121
  go_wp2_with fail
  refine (HP.out _ l 0 K B HB.out (by omega) (by omega) hB0).mono ?_
  rintro e w1 ⟨⟨u1, rfl⟩, hB1, ho1⟩
  have hA1 : At w1 w.heap.size 67 (dcells B I D) := HA.out.only ho1 (by omega)
  have hG1 := grown_trans HG.out (grown_only ho1)
  have c1 := hA1.cell (i := 1) rfl
  clear HB HA HG c0 ho1
  go_wp2_with fail
  refine (HP.out _ _ 1 (K + 2) I hB1 (by omega) (by omega) hI0).mono ?_
  rintro e w2 ⟨⟨u2, rfl⟩, hB2, ho2⟩
  have hA2 : At w2 w.heap.size 67 (dcells B I D) := hA1.only ho2 (by omega)
  have hG2 := grown_trans hG1 (grown_only ho2)
  have c2 := hA2.cell (i := 2) rfl
  clear hB1 hA1 hG1 c1 ho2
  go_wp2_with fail
  refine (HP.out _ _ 2 (K + 4) D hB2 (by omega) (by omega) hD0).mono ?_
  rintro e w3 ⟨⟨u3, rfl⟩, hB3, ho3⟩
  have hG3 := grown_trans hG2 (grown_only ho3)
  clear hB2 hA2 hG2 c2 ho3
  go_wp2_with fail
  exact bodyPost_end (results_none rfl _ _ _) rfl ⟨⟨_, rfl⟩, hB3, hG3⟩

set_option maxRecDepth 100000 in
set_option maxHeartbeats 2000000 in
theorem getDesc_any (g : Nat) (z : Nat → Int) (hzb : Byt z) (k : Nat) (K : Int) (hK : K = 8 * (k : Int)) (hk : k < 31) (w : World) {T : TypeId} (hB : Blk w g T 256 z) :
    Calls Tryz.prog 49 #[.int .i64 K, getFn g] w fun e w' => e = .returned (dval (hd z (4 * k)) (hd z (4 * k + 1)) (hd z (4 * k + 2))) ∧ Below w.heap.size w w' := by
  have hal := zero_desc
  have HA := Lib.hid (At.new w 67 (dcells 0 0 0))
  have HL : Hid (Below w.heap.size w (w.alloc (.cells (dcells 0 0 0) 67))) := (Below.refl _ _).alloc (Nat.le_refl _) _
  have HG : Hid (∀ (W : World) (j : Nat) (K' : Int), Blk W g T 256 z → K' = K + 2 * (j : Int) → j < 3 → Calls Tryz.prog 50 #[.pointer (some ⟨g, 0, none⟩), .int .i64 K'] W fun e w' => e = .returned (.int .i64 (hd z (4 * k + j))) ∧ W = w') :=
    fun W j K' hB hK' hj => pageGet_any g z hzb (4 * k + j) K' (by omega) (by omega) W hB
  have HB := Lib.hid (hB.alloc (.cells (dcells 0 0 0) 67))
  have hKb : 0 ≤ K ∧ K < 250 := by omega
  clear hB hK
  go_enter Tryz.func49, Tryz.ntmps49
  go_wp2_with fail
  refine (HG.out _ 0 K HB.out (by omega) (by omega)).mono ?_
  rintro e w1 ⟨rfl, rfl⟩
  go_wp2_with fail
  refine (HG.out _ 1 (K + 2) HB.out (by omega) (by omega)).mono ?_
  rintro e w1 ⟨rfl, rfl⟩
  go_wp2_with fail
  refine (HG.out _ 2 (K + 4) HB.out (by omega) (by omega)).mono ?_
  rintro e w1 ⟨rfl, rfl⟩
  go_wp2_with fail
  exact bodyPost_ret (results_row rfl _ _ _ _ _ _ _ rfl (At.new w 67 (dcells (hd z (4 * k)) (hd z (4 * k + 1)) (hd z (4 * k + 2)))) Tryz.underlying67 rfl (by kernel_rfl)) rfl ⟨rfl, (Below.refl _ _).alloc (Nat.le_refl _) _⟩

structure OrS (w : World) (G S I J O : Int) (W : World) : Prop where
  s : At W w.heap.size 47 (scells G S I J O)
  bel : Below w.heap.size w W
set_option maxRecDepth 100000 in
set_option maxHeartbeats 2000000 in
theorem orphaned_any (G S I J O : Int) (hO : 0 ≤ O ∧ O < 4294967296) (w : World) :
    Calls Tryz.prog 116 #[sval G S I J O] w fun e w' => e = .returned (.bool (decide (O ≤ nIn G S I J))) ∧ Below w.heap.size w w' := by
  have hA : At (w.alloc (.cells (scells G S I J O) 47)) w.heap.size 47 (scells G S I J O) := At.new _ _ _
  have hL : Below w.heap.size w (w.alloc (.cells (scells G S I J O) 47)) := (Below.refl _ _).alloc (Nat.le_refl _) _
  have hwr : O % 18446744073709551616 = O := by omega
  have hb := nIn_bd G S I J
  have HN : Hid (∀ W, Calls Tryz.prog 26 #[gval G S I J] W fun e w' => e = .returned (.int .i64 (nIn G S I J)) ∧ Below W.heap.size W w') := fun W => geoInodes_any G S I J W
  generalize nIn G S I J = n at *
  have hwn : n % 18446744073709551616 = n := by omega
  go_enter Tryz.func116, Tryz.ntmps116
  go_wp2_with fail
  have hkeep : Hid (∀ W W', OrS w G S I J O W → Below W.heap.size W W' → OrS w G S I J O W') := fun W W' h hb => ⟨h.s.below hb h.s.lt, h.bel.trans (hb.mono h.bel.size)⟩
  refine wp_region_S (OrS w G S I J O) (by kernel_rfl) (by kernel_rfl) ⟨hA, hL.drew⟩ ?_
  clear hA hL
  intro hne
  have hc : ∀ s : InW (OrS w G S I J O), s.W.cell? ⟨w.heap.size, 4, none⟩ = some (.int .u32 O) := fun s => s.h.s.cell (i := 4) rfl
  first | go_big_quiet_skip | (go_big_quiet_want; go_big_quiet_op; go_big_quiet_on)
  first | go_big_quiet_skip | (go_big_quiet_want; go_big_quiet_op; go_big_quiet_on)
  first | go_big_quiet_skip | (go_big_quiet_want; go_big_quiet_op; go_big_quiet_on)
  first | go_big_quiet_skip | (go_big_quiet_want; go_big_quiet_op; go_big_quiet_on)
  refine q_load rfl 23 (.tmp 6) rfl w.heap.size 0 rfl (gcells G S I J).toList _ (fun W h j v hj => ?_) Tryz.underlying23 rfl (by kernel_rfl) ?_
  · have hj4 : j < 4 := (List.getElem?_eq_some_iff.1 hj).1
    refine h.s.cell (i := 0 + j) ?_
    rw [Nat.zero_add, ← hj]
    obtain rfl | rfl | rfl | rfl : j = 0 ∨ j = 1 ∨ j = 2 ∨ j = 3 := by omega
    all_goals rfl
  refine wpQuiet_frame (by simp only [Act.put, List.setIfInBounds_toArray, List.set_cons_succ, List.set_cons_zero]; exact rfl) ?_
  go_big_quiet_want
  go_big_quiet_op
  refine ⟨_, fun s => q_call s (fun W hW => (HN.out W).mono fun e w' h => ⟨h.1, hkeep.out W w' hW h.2⟩), ?_⟩
  go_big_quiet_on
  repeat (first | go_big_quiet_skip | (go_big_quiet_want; go_big_quiet_op; go_big_quiet_on))
  refine wpQuiet_nil ?_
  intro w5 h5
  have hL5 : Below w.heap.size w w5 := h5.out.bel
  clear h5 hne
  go_wp2_with fail
  go_ret
  exact ⟨rfl, hL5⟩
end Go.Proofs.YtnbmmhoofilmfaaGreatDoor

/- super.Write, super.Read. -/
namespace Go.Proofs.YtnbmmhoofilmfaaGreatDoor
open Go.RowKit
set_option linter.unusedVariables false

/-- the superblock's halves, ahead of the sum -/
def supH (G S I J O : Int) : Nat → Int := upd2 (geoH (upd (upd (upd2 (fun _ => 0) 0 827216465) 2 1) 3 256) G S I J) 8 O
def supOk (G S I J O : Int) : Bool := mayG G S I J && decide (O ≤ nIn G S I J)
def supE (G S I J O : Int) : Int := if mayG G S I J then (if O ≤ nIn G S I J then 0 else 2) else 50
def supZ (G S I J O : Int) : Nat → Int := if supOk G S I J O then sealZ (hz (supH G S I J O)) else fun _ => 0

structure WS (w : World) (G S I J O : Int) (g : Nat) (z : Nat → Int) (W : World) : Prop where
  s : At W w.heap.size 47 (scells G S I J O)
  r : Blk W (w.heap.size + 1) 32 256 (fun _ => 0)
  p : Blk W g 117 256 z
  t : Tab W
  bel : Below w.heap.size w W
theorem WS.step {w : World} {G S I J O : Int} {g : Nat} {z z' : Nat → Int} {W W' : World} (h : WS w G S I J O g z W) (hT : 0 < w.heap.size) (hg : w.heap.size + 2 ≤ g) (hb : W.grownBy W' (some g)) (hp : Blk W' g 117 256 z') : WS w G S I J O g z' W' :=
  ⟨h.s.grown hb (fun e => by cases e; omega), h.r.grown hb (fun e => by cases e; omega), hp, h.t.grown hb (fun e => by cases e; omega), h.bel.grown hb h.bel.size (fun k e => by cases e; omega)⟩
theorem At.geo {w : World} {g : Nat} {T : TypeId} {G S I J O : Int} (h : At w g T (scells G S I J O)) : w.rangeAt g 0 (gcells G S I J).toList := fun j v hj => by
  have hj4 : j < 4 := (List.getElem?_eq_some_iff.1 hj).1
  refine h.cell (i := 0 + j) ?_
  rw [Nat.zero_add, ← hj]
  obtain rfl | rfl | rfl | rfl : j = 0 ∨ j = 1 ∨ j = 2 ∨ j = 3 := by omega
  all_goals rfl
theorem wp_loadRange {P : Program} {w : World} {ops : Array Oper} {rest : List Oper} {o : Oper} {a : Act} {Q : Exit → Act → World → Prop} (hw : Region.wanted o (yielded ops a.tmps) = true) (T : TypeId) (p : Operand) (ho : o.op = .load T p)
    (g off : Nat) (cs : List Value) (d : TypeDesc) (hx : a.eval p = .pointer (some ⟨g, off, none⟩)) (hI : w.rangeAt g off cs) (hu : P.underlying T = some d) (hd : d.isRow = true) (hi : (P.info? T).map (·.size) = some cs.length)
    (h : wpList P ops Q rest (a.put o.dst (.agg cs.toArray)) w) : wpList P ops Q (o :: rest) a w :=
  BigFrame.wpList_want hw fun _ hK => wp_load_mid T p ho g off hx cs d hI hu hd hi (hK _ _ h)
/-- a page's bytes, read as a block -/
theorem wp_loadPage {w : World} {ops : Array Oper} {rest : List Oper} {o : Oper} {a : Act} {Q : Exit → Act → World → Prop} (hw : Region.wanted o (yielded ops a.tmps) = true) (p : Operand) (ho : o.op = .load 32 p)
    (g : Nat) (z : Nat → Int) {T : TypeId} (hx : a.eval p = .pointer (some ⟨g, 0, none⟩)) (hB : Blk w g T 256 z)
    (h : wpList Tryz.prog ops Q rest (a.put o.dst (bval z)) w) : wpList Tryz.prog ops Q (o :: rest) a w :=
  wp_loadRange hw 32 p ho g 0 (Ks .u8 256 z) _ hx hB.range Tryz.underlying32 rfl (by rw [Ks_length]; exact info_block) h

set_option maxRecDepth 100000 in
set_option maxHeartbeats 4000000 in
theorem superWrite_any (G S I J O : Int) (hO : 0 ≤ O ∧ O < 4294967296) (w : World) (hT : Tab w) :
    Calls Tryz.prog 65 #[sval G S I J O] w fun e w' => e = .returned (.tuple #[bval (supZ G S I J O), .int .i64 (supE G S I J O)]) ∧ Below w.heap.size w w' := by
  have hal := zero_block
  have halp := zero_page
  have hTl := hT.lt
  obtain ⟨W, hW⟩ : ∃ W, W = (w.alloc (.cells (scells G S I J O) 47)).alloc (.cells (Ks .u8 256 (fun _ => 0)).toArray 32) := ⟨_, rfl⟩
  have hS : At W w.heap.size 47 (scells G S I J O) := by rw [hW]; exact (At.new w _ _).alloc _
  have hR : Blk W (w.heap.size + 1) 32 256 (fun _ => 0) := by
    rw [hW]
    have := Blk.new (w.alloc (.cells (scells G S I J O) 47)) 32 256 (fun _ => 0)
    simp only [World.size_alloc] at this
    exact this
  have hL : Below w.heap.size w W := by rw [hW]; exact ((Below.refl _ _).alloc (Nat.le_refl _) _).alloc (by simp) _
  have hTW : Tab W := hT.below hL (Nat.le_refl _)
  have HW := Lib.hid hW
  clear hW hT
  go_enter Tryz.func65, Tryz.ntmps65
  go_wp2_with fail
  rw [← HW.out]
  clear HW
  go_wp2_with (first | (refine wp_loadRange rfl 23 _ rfl w.heap.size 0 (gcells G S I J).toList _ rfl hS.geo Tryz.underlying23 rfl (by kernel_rfl) ?_))
  refine (geoMay_any G S I J W).mono ?_
  rintro e w1 ⟨rfl, hb1⟩
  have hS1 := hS.below hb1 hS.lt
  have hR1 := hR.below hb1 hR.lt
  have hL1 : Below w.heap.size w w1 := hL.trans (hb1.mono hL.size)
  have hT1 := hTW.below hb1 (Nat.le_refl _)
  clear hS hR hL hTW hb1
  cases hm : mayG G S I J with
  | false =>
    have HO : Hid (supOk G S I J O = false ∧ supE G S I J O = 50) := by show _ ∧ _; unfold supOk supE; rw [hm]; exact ⟨rfl, rfl⟩
    clear hm
    go_wp2_with (first | (refine wp_storeBlk rfl (.tmp 2) (.tmp 9) rfl (w.heap.size + 1) (fun _ => 0) _ rfl rfl hR1 ?_))
    intro w2 hR2 ho2
    go_wp2_with fail
    exact bodyPost_ret (results_blk2 rfl _ _ (w.heap.size + 1) _ rfl hR2) rfl ⟨by rw [supZ, HO.out.1, HO.out.2]; rfl, hL1.trans (ho2.below (by omega))⟩
  | true =>
  have HM := Lib.hid hm
  clear hm
  go_wp2_with (first | (refine wp_loadAtG rfl 47 _ rfl _ _ _ rfl hS1 Tryz.underlying47 rfl (by kernel_rfl) ?_))
  refine (orphaned_any G S I J O hO w1).mono ?_
  rintro e w2 ⟨rfl, hb2⟩
  have hS2 := hS1.below hb2 hS1.lt
  have hR2 := hR1.below hb2 hR1.lt
  have hL2 : Below w.heap.size w w2 := hL1.trans (hb2.mono hL1.size)
  have hT2 := hT1.below hb2 (Nat.le_refl _)
  have hsz := hR2.lt
  clear hS1 hR1 hL1 hT1 hb2
  cases ho : decide (O ≤ nIn G S I J) with
  | false =>
    have HO : Hid (supOk G S I J O = false ∧ supE G S I J O = 2) := by
      show _ ∧ _
      unfold supOk supE; rw [HM.out, ho, if_pos rfl, if_neg (by simpa using ho)]; exact ⟨rfl, rfl⟩
    clear ho
    go_wp2_with (first | (refine wp_storeBlk rfl (.tmp 2) (.tmp 13) rfl (w.heap.size + 1) (fun _ => 0) _ rfl rfl hR2 ?_))
    intro w3 hR3 ho3
    go_wp2_with fail
    exact bodyPost_ret (results_blk2 rfl _ _ (w.heap.size + 1) _ rfl hR3) rfl ⟨by rw [supZ, HO.out.1, HO.out.2]; rfl, hL2.trans (ho3.below (by omega))⟩
  | true =>
  have HO : Hid (supOk G S I J O = true ∧ supE G S I J O = 0) := by
    show _ ∧ _
    unfold supOk supE; rw [HM.out, ho, if_pos rfl, if_pos (by simpa using ho)]; exact ⟨rfl, rfl⟩
  clear ho
  obtain ⟨g, hg⟩ : ∃ g, g = w2.heap.size := ⟨_, rfl⟩
  have hg2 : w.heap.size + 2 ≤ g := by omega
  have st0 : Hid (WS w G S I J O g (hz (fun _ => 0)) (w2.alloc (.cells (Ks .u8 256 (fun _ => 0)).toArray 117))) :=
    ⟨hS2.alloc _, hR2.alloc _, by rw [hg]; exact (Blk.new w2 _ _ _).congr fun i _ => (hz_zero i).symm, hT2.alloc _, hL2.alloc hL2.size _⟩
  clear hS2 hR2 hL2 hT2 hsz
  go_wp2_with fail
  rw [← hg]
  clear hg
  refine (pagePut4_any g _ 0 0 827216465 rfl (by omega) (by omega) _ st0.out.p).mono ?_
  rintro e w3 ⟨⟨u, rfl⟩, hp, hgo⟩
  have st1 := Lib.hid (st0.out.step hTl hg2 (grown_only hgo) hp)
  clear st0 hp hgo
  go_wp2_with fail
  refine (pagePut_any g _ 2 4 1 rfl (by omega) (by omega) (by omega) _ st1.out.p).mono ?_
  rintro e w4 ⟨⟨u, rfl⟩, hp, hgo⟩
  have st2 := Lib.hid (st1.out.step hTl hg2 (grown_only hgo) hp)
  clear st1 hp hgo
  go_wp2_with fail
  refine (pagePut_any g _ 3 6 256 rfl (by omega) (by omega) (by omega) _ st2.out.p).mono ?_
  rintro e w5 ⟨⟨u, rfl⟩, hp, hgo⟩
  have st3 := Lib.hid (st2.out.step hTl hg2 (grown_only hgo) hp)
  clear st2 hp hgo
  have hr3 := st3.out.s.geo
  go_wp2_with (first | (refine wp_loadRange rfl 23 _ rfl w.heap.size 0 (gcells G S I J).toList _ rfl hr3 Tryz.underlying23 rfl (by kernel_rfl) ?_))
  clear hr3
  refine (putGeo_any g _ G S I J HM.out _ st3.out.p).mono ?_
  rintro e w6 ⟨⟨u, rfl⟩, hp, hgo⟩
  have st4 := Lib.hid (st3.out.step hTl hg2 hgo hp)
  clear st3 hp hgo
  have hc : w6.cell? ⟨w.heap.size, 4, none⟩ = some (.int .u32 O) := st4.out.s.cell (i := 4) rfl
  go_wp2_with fail
  clear hc
  refine (pagePut4_any g _ 8 16 O rfl (by omega) hO.1 _ st4.out.p).mono ?_
  rintro e w7 ⟨⟨u, rfl⟩, hp, hgo⟩
  have st5 := Lib.hid (st4.out.step hTl hg2 (grown_only hgo) hp)
  clear st4 hp hgo
  go_wp2_with fail
  refine (pageSeal_any g _ (hz_byt _) _ st5.out.p st5.out.t).mono ?_
  rintro e w8 ⟨⟨u, rfl⟩, hp, hgo⟩
  have st6 := Lib.hid (st5.out.step hTl hg2 hgo hp)
  clear st5 hp hgo
  have hp6 := st6.out.p
  have hr6 := st6.out.r
  go_wp2_with (first | (refine wp_loadPage rfl _ rfl g _ rfl hp6 ?_) | (refine wp_storeBlk rfl (.tmp 2) (.tmp 26) rfl (w.heap.size + 1) (sealZ (hz (supH G S I J O))) _ rfl rfl hr6 ?_))
  intro w9 hR9 ho9
  go_wp2_with fail
  exact bodyPost_ret (results_blk2 rfl _ _ (w.heap.size + 1) _ rfl hR9) rfl ⟨by rw [supZ, HO.out.1, HO.out.2]; rfl, st6.out.bel.trans (ho9.below (by omega))⟩
end Go.Proofs.YtnbmmhoofilmfaaGreatDoor

/- super.Read. -/
namespace Go.Proofs.YtnbmmhoofilmfaaGreatDoor
open Go.RowKit
set_option linter.unusedVariables false

def readA (z : Nat → Int) : Bool := (g32 z 0 == 827216465) && ((hd z 2 == 1) && ((hd z 3 == 256) && (sumB z && allZ (fun i => z (20 + i)) 232)))
def readE (z : Nat → Int) : Int := if readA z then (if mayG (hd z 4) (hd z 5) (hd z 6) (hd z 7) then (if g32 z 16 ≤ nIn (hd z 4) (hd z 5) (hd z 6) (hd z 7) then 0 else 60) else 50) else 60
def readV (z : Nat → Int) : Value := if readE z = 0 then sval (hd z 4) (hd z 5) (hd z 6) (hd z 7) (g32 z 16) else sval 0 0 0 0 0
theorem readV_no {z : Nat → Int} (h : readE z = 60 ∨ readE z = 50) : readV z = sval 0 0 0 0 0 := by unfold readV; rw [if_neg (by omega)]

structure RS (w : World) (g : Nat) (z : Nat → Int) (W : World) : Prop where
  r : At W (w.heap.size + 1) 47 (scells 0 0 0 0 0)
  p : Blk W g 117 256 z
  t : Tab W
  bel : Below w.heap.size w W
theorem RS.below {w : World} {g : Nat} {z : Nat → Int} {W W' : World} (h : RS w g z W) (hb : Below W.heap.size W W') : RS w g z W' :=
  ⟨h.r.below hb h.r.lt, h.p.below hb h.p.lt, h.t.below hb (Nat.le_refl _), h.bel.trans (hb.mono h.bel.size)⟩
theorem results_sup2 {fn : Func} {p u : Tmp} (h : fn.results = #[.cell p 47, .tmp u]) (tmps : Array Value) (w : World) (g : Nat) (G S I J O : Int)
    (hp : tmps.getD p undef = .pointer (some ⟨g, 0, none⟩)) (hg : At w g 47 (scells G S I J O)) : (results fn tmps).run Tryz.prog w = .ok (.tuple #[sval G S I J O, tmps.getD u undef]) w :=
  results_row_tmp h tmps w g _ _ _ _ hp hg Tryz.underlying47 rfl (by kernel_rfl)

set_option maxRecDepth 100000 in
theorem build_page (z : Nat → Int) (w : World) : (Instr.build 117 #[(0, bval z)]).run Tryz.prog w = .ok (.agg (Ks .u8 256 z).toArray) w := by kernel_rfl
theorem wp_build1 {P : Program} {w : World} {ops : Array Oper} {rest : List Oper} {o : Oper} {a : Act} {Q : Exit → Act → World → Prop} (hw : Region.wanted o (yielded ops a.tmps) = true) (T : TypeId) (i : Nat) (x : Operand) (ho : o.op = .build T #[(i, x)])
    (u v : Value) (hx : a.eval x = u) (hb : (Instr.build T #[(i, u)]).run P w = .ok v w) (h : wpList P ops Q rest (a.put o.dst v) w) : wpList P ops Q (o :: rest) a w :=
  BigFrame.wpList_want hw fun _ hK => by
    have hr : (execOp a.eval o).run P w = .ok (.value v) w := by
      unfold execOp
      simp only [ho, List.map_toArray, List.map_cons, List.map_nil, hx, Sem.run_bind, hb, Result.andThen_ok, Sem.run_pure]
    unfold Oper.wp
    rw [hr]
    exact hK _ _ h
theorem all_s (G S I J O : Int) : (scells G S I J O).all (·.oneCell') = true := by kernel_rfl
theorem info_super : (Tryz.prog.info? 47).map (·.size) = some 5 := by kernel_rfl
theorem build_super (G S I J O : Int) (w : World) : (Instr.build 47 #[(0, gval G S I J), (1, .int .u32 O)]).run Tryz.prog w = .ok (sval G S I J O) w := by kernel_rfl
theorem At.blk {w : World} {g : Nat} {T : TypeId} {z : Nat → Int} (h : At w g T (Ks .u8 256 z).toArray) : Blk w g T 256 z := h

set_option maxRecDepth 100000 in
set_option maxHeartbeats 400000 in
theorem superRead_any (z : Nat → Int) (hzb : Byt z) (w : World) (hT : Tab w) :
    Calls Tryz.prog 160 #[bval z] w fun e w' => e = .returned (.tuple #[readV z, .int .i64 (readE z)]) ∧ Below w.heap.size w w' := by
  have hal := zero_super
  have halp := zero_page
  have hbd := fun W => build_page z W
  have hB : Blk ((w.alloc (.cells (Ks .u8 256 z).toArray 32)).alloc (.cells (scells 0 0 0 0 0) 47)) w.heap.size 32 256 z := (Blk.new w _ _ _).alloc _
  have hR : At ((w.alloc (.cells (Ks .u8 256 z).toArray 32)).alloc (.cells (scells 0 0 0 0 0) 47)) (w.heap.size + 1) 47 (scells 0 0 0 0 0) := by
    have := At.new (w.alloc (.cells (Ks .u8 256 z).toArray 32)) 47 (scells 0 0 0 0 0)
    simp only [World.size_alloc] at this
    exact this
  have hP : At (((w.alloc (.cells (Ks .u8 256 z).toArray 32)).alloc (.cells (scells 0 0 0 0 0) 47)).alloc (.cells (Ks .u8 256 (fun _ => 0)).toArray 117)) (w.heap.size + 1 + 1) 117 (Ks .u8 256 (fun _ => 0)).toArray := by
    have := At.new ((w.alloc (.cells (Ks .u8 256 z).toArray 32)).alloc (.cells (scells 0 0 0 0 0) 47)) 117 (Ks .u8 256 (fun _ => 0)).toArray
    simp only [World.size_alloc] at this
    exact this
  have hL : Hid (Below w.heap.size w (((w.alloc (.cells (Ks .u8 256 z).toArray 32)).alloc (.cells (scells 0 0 0 0 0) 47)).alloc (.cells (Ks .u8 256 (fun _ => 0)).toArray 117))) := (((Below.refl _ _).alloc (Nat.le_refl _) _).alloc (by simp) _).alloc (by simp; omega) _
  have hTW := Lib.hid (((hT.alloc (.cells (Ks .u8 256 z).toArray 32)).alloc (.cells (scells 0 0 0 0 0) 47)).alloc (.cells (Ks .u8 256 (fun _ => 0)).toArray 117))
  have hTl := hT.lt
  have hR' := Lib.hid (hR.alloc (.cells (Ks .u8 256 (fun _ => 0)).toArray 117))
  clear hT hR
  go_enter Tryz.func160, Tryz.ntmps160
  go_wp2_with (first | (refine wp_loadBlkG rfl (.tmp 1) rfl w.heap.size z rfl hB ?_) | (refine wp_build1 rfl 117 0 (.tmp 6) rfl (bval z) _ rfl (hbd _) ?_) | (refine wp_storeAt rfl 117 (.tmp 4) (.tmp 7) rfl (w.heap.size + 1 + 1) (Ks .u8 256 z).toArray (Ks .u8 256 (fun _ => 0)).toArray rfl rfl hP (info_page' z) (by rw [Ks_size, Ks_size]) (Ks_one _ _ _) ?_))
  intro w1 hP1 ho1
  have st0 : Hid (RS w (w.heap.size + 1 + 1) z w1) := ⟨hR'.out.only ho1 (by omega), hP1.blk, hTW.out.only ho1 (by omega), hL.out.trans (ho1.below (by omega))⟩
  clear hB hP hP1 ho1 hTW hL hR' hbd
  obtain ⟨g, hg⟩ : ∃ g, w.heap.size + 1 + 1 = g := ⟨_, rfl⟩
  rw [hg] at st0 ⊢
  have hgl : w.heap.size + 2 ≤ g := by omega
  clear hg
  go_wp2_with fail
  -- printed from here on
  refine (pageGet4_any g z hzb 0 0 rfl (by omega) _ st0.out.p).mono ?_
  rintro e wx ⟨rfl, rfl⟩
  obtain ⟨c1, hc1⟩ : ∃ c, (g32 z 0 == 827216465) = c := ⟨_, rfl⟩
  have hn1 : (g32 z 0 != 827216465) = !c1 := by rw [← hc1]; rfl
  cases c1 with
  | false =>
    have HE : Hid (readE z = 60) := by show _ = _; unfold readE readA; rw [hc1]; rfl
    have hr := st0.out.r
    go_wp2_with (first | (refine wp_storeAt rfl 47 (.tmp 2) (.tmp 18) rfl (w.heap.size + 1) (scells 0 0 0 0 0) (scells 0 0 0 0 0) rfl rfl hr info_super rfl (all_s _ _ _ _ _) ?_))
    intro w9 hR9 ho9
    go_wp2_with fail
    exact bodyPost_ret (results_sup2 rfl _ _ (w.heap.size + 1) _ _ _ _ _ rfl hR9) rfl ⟨by rw [readV_no (by rw [HE.out]; decide), HE.out]; rfl, st0.out.bel.trans (ho9.below (by omega))⟩
  | true =>
  have HC1 := Lib.hid hc1
  clear hc1
  go_wp2_with fail
  clear hn1
  refine (pageGet_any g z hzb 2 4 rfl (by omega) _ st0.out.p).mono ?_
  rintro e wx ⟨rfl, rfl⟩
  obtain ⟨c2, hc2⟩ : ∃ c, (hd z 2 == 1) = c := ⟨_, rfl⟩
  have hn2 : (hd z 2 != 1) = !c2 := by rw [← hc2]; rfl
  cases c2 with
  | false =>
    have HE : Hid (readE z = 60) := by show _ = _; unfold readE readA; rw [HC1.out, hc2]; rfl
    have hr := st0.out.r
    go_wp2_with (first | (refine wp_storeAt rfl 47 (.tmp 2) (.tmp 18) rfl (w.heap.size + 1) (scells 0 0 0 0 0) (scells 0 0 0 0 0) rfl rfl hr info_super rfl (all_s _ _ _ _ _) ?_))
    intro w9 hR9 ho9
    go_wp2_with fail
    exact bodyPost_ret (results_sup2 rfl _ _ (w.heap.size + 1) _ _ _ _ _ rfl hR9) rfl ⟨by rw [readV_no (by rw [HE.out]; decide), HE.out]; rfl, st0.out.bel.trans (ho9.below (by omega))⟩
  | true =>
  have HC2 := Lib.hid hc2
  clear hc2
  go_wp2_with fail
  clear hn2
  refine (pageGet_any g z hzb 3 6 rfl (by omega) _ st0.out.p).mono ?_
  rintro e wx ⟨rfl, rfl⟩
  obtain ⟨c3, hc3⟩ : ∃ c, (hd z 3 == 256) = c := ⟨_, rfl⟩
  have hn3 : (hd z 3 != 256) = !c3 := by rw [← hc3]; rfl
  cases c3 with
  | false =>
    have HE : Hid (readE z = 60) := by show _ = _; unfold readE readA; rw [HC1.out, HC2.out, hc3]; rfl
    have hr := st0.out.r
    go_wp2_with (first | (refine wp_storeAt rfl 47 (.tmp 2) (.tmp 18) rfl (w.heap.size + 1) (scells 0 0 0 0 0) (scells 0 0 0 0 0) rfl rfl hr info_super rfl (all_s _ _ _ _ _) ?_))
    intro w9 hR9 ho9
    go_wp2_with fail
    exact bodyPost_ret (results_sup2 rfl _ _ (w.heap.size + 1) _ _ _ _ _ rfl hR9) rfl ⟨by rw [readV_no (by rw [HE.out]; decide), HE.out]; rfl, st0.out.bel.trans (ho9.below (by omega))⟩
  | true =>
  have HC3 := Lib.hid hc3
  clear hc3
  go_wp2_with fail
  clear hn3
  refine (pageSealed_any g z hzb _ st0.out.p st0.out.t).mono ?_
  rintro e w2 ⟨rfl, hb2⟩
  have st2 := Lib.hid (st0.out.below hb2)
  clear st0 hb2
  cases hc4 : sumB z with
  | false =>
    have HE : Hid (readE z = 60) := by show _ = _; unfold readE readA; rw [HC1.out, HC2.out, HC3.out, hc4]; rfl
    have hr := st2.out.r
    go_wp2_with (first | (refine wp_storeAt rfl 47 (.tmp 2) (.tmp 25) rfl (w.heap.size + 1) (scells 0 0 0 0 0) (scells 0 0 0 0 0) rfl rfl hr info_super rfl (all_s _ _ _ _ _) ?_))
    intro w9 hR9 ho9
    go_wp2_with fail
    exact bodyPost_ret (results_sup2 rfl _ _ (w.heap.size + 1) _ _ _ _ _ rfl hR9) rfl ⟨by rw [readV_no (by rw [HE.out]; decide), HE.out]; rfl, st2.out.bel.trans (ho9.below (by omega))⟩
  | true =>
  have HC4 := Lib.hid hc4
  clear hc4
  go_wp2_with fail
  refine (pageNoughts_any g z 20 252 20 252 rfl rfl (by omega) (by omega) (by omega) _ st2.out.p).mono ?_
  rintro e wx ⟨rfl, rfl⟩
  rw [show 252 - 20 = 232 from rfl]
  cases hc5 : allZ (fun i => z (20 + i)) 232 with
  | false =>
    have HE : Hid (readE z = 60) := by show _ = _; unfold readE readA; rw [HC1.out, HC2.out, HC3.out, HC4.out, hc5]; rfl
    have hr := st2.out.r
    go_wp2_with (first | (refine wp_storeAt rfl 47 (.tmp 2) (.tmp 25) rfl (w.heap.size + 1) (scells 0 0 0 0 0) (scells 0 0 0 0 0) rfl rfl hr info_super rfl (all_s _ _ _ _ _) ?_))
    intro w9 hR9 ho9
    go_wp2_with fail
    exact bodyPost_ret (results_sup2 rfl _ _ (w.heap.size + 1) _ _ _ _ _ rfl hR9) rfl ⟨by rw [readV_no (by rw [HE.out]; decide), HE.out]; rfl, st2.out.bel.trans (ho9.below (by omega))⟩
  | true =>
  have HRA : Hid (readA z = true) := by show _ = _; unfold readA; rw [HC1.out, HC2.out, HC3.out, HC4.out, hc5]; rfl
  clear hc5 HC1 HC2 HC3 HC4
  go_wp2_with fail
  refine (getGeo_any g z hzb _ st2.out.p).mono ?_
  rintro e w3 ⟨rfl, hb3⟩
  have st3 := Lib.hid (st2.out.below hb3)
  clear st2 hb3
  go_wp2_with fail
  refine (pageGet4_any g z hzb 16 16 rfl (by omega) _ st3.out.p).mono ?_
  rintro e wx ⟨rfl, rfl⟩
  have hbs := fun W => build_super (hd z 4) (hd z 5) (hd z 6) (hd z 7) (g32 z 16) W
  have ho := g32_bd hzb 16
  have HDEF : Hid (readE z = if mayG (hd z 4) (hd z 5) (hd z 6) (hd z 7) then (if g32 z 16 ≤ nIn (hd z 4) (hd z 5) (hd z 6) (hd z 7) then 0 else 60) else 50) := by show _ = _; unfold readE; rw [HRA.out]; rfl
  have HDV : Hid (readE z = 0 → readV z = sval (hd z 4) (hd z 5) (hd z 6) (hd z 7) (g32 z 16)) := fun h => by unfold readV; rw [if_pos h]
  generalize hd z 4 = G at *
  generalize hd z 5 = S at *
  generalize hd z 6 = I at *
  generalize hd z 7 = J at *
  generalize g32 z 16 = O at *
  have hS4 := At.new w3 47 (scells G S I J O)
  have st4 := Lib.hid (st3.out.below ((Below.refl _ _).alloc (Nat.le_refl _) (.cells (scells G S I J O) 47)))
  have hgeo := hS4.geo
  have hgl3 : w.heap.size + 2 ≤ w3.heap.size := by have := st3.out.r.lt; omega
  clear st3
  go_wp2_with (first | (refine wp_loadRange rfl 23 _ rfl w3.heap.size 0 (gcells G S I J).toList _ rfl hgeo Tryz.underlying23 rfl (by kernel_rfl) ?_))
  clear hgeo hbs
  refine (geoMay_any G S I J _).mono ?_
  rintro e w5 ⟨rfl, hb5⟩
  have st5 := Lib.hid (st4.out.below hb5)
  have hS5 := hS4.below hb5 hS4.lt
  clear st4 hS4 hb5
  cases hm : mayG G S I J with
  | false =>
    have HE : Hid (readE z = 50) := by show _ = _; rw [HDEF.out, hm]; rfl
    have hr := st5.out.r
    go_wp2_with (first | (refine wp_storeAt rfl 47 (.tmp 2) (.tmp 34) rfl (w.heap.size + 1) (scells 0 0 0 0 0) (scells 0 0 0 0 0) rfl rfl hr info_super rfl (all_s _ _ _ _ _) ?_))
    intro w9 hR9 ho9
    go_wp2_with fail
    exact bodyPost_ret (results_sup2 rfl _ _ (w.heap.size + 1) _ _ _ _ _ rfl hR9) rfl ⟨by rw [readV_no (by rw [HE.out]; decide), HE.out]; rfl, st5.out.bel.trans (ho9.below (by omega))⟩
  | true =>
  have HM := Lib.hid hm
  clear hm
  go_wp2_with (first | (refine wp_loadAtG rfl 47 _ rfl _ _ _ rfl hS5 Tryz.underlying47 rfl (by kernel_rfl) ?_))
  refine (orphaned_any G S I J O ho _).mono ?_
  rintro e w6 ⟨rfl, hb6⟩
  have st6 := Lib.hid (st5.out.below hb6)
  have hS6 := hS5.below hb6 hS5.lt
  clear st5 hS5 hb6
  cases hor : decide (O ≤ nIn G S I J) with
  | false =>
    have HE : Hid (readE z = 60) := by show _ = _; rw [HDEF.out, HM.out, if_pos rfl, if_neg (by simpa using hor)]
    have hr := st6.out.r
    go_wp2_with (first | (refine wp_storeAt rfl 47 (.tmp 2) (.tmp 38) rfl (w.heap.size + 1) (scells 0 0 0 0 0) (scells 0 0 0 0 0) rfl rfl hr info_super rfl (all_s _ _ _ _ _) ?_))
    intro w9 hR9 ho9
    go_wp2_with fail
    exact bodyPost_ret (results_sup2 rfl _ _ (w.heap.size + 1) _ _ _ _ _ rfl hR9) rfl ⟨by rw [readV_no (by rw [HE.out]; decide), HE.out]; rfl, st6.out.bel.trans (ho9.below (by omega))⟩
  | true =>
  have HE : Hid (readE z = 0) := by show _ = _; rw [HDEF.out, HM.out, if_pos rfl, if_pos (by simpa using hor)]
  clear hor
  have hr := st6.out.r
  go_wp2_with (first | (refine wp_loadAtG rfl 47 (.tmp 5) rfl _ _ _ rfl hS6 Tryz.underlying47 rfl (by kernel_rfl) ?_) | (refine wp_storeAt rfl 47 (.tmp 2) (.tmp 39) rfl (w.heap.size + 1) (scells G S I J O) (scells 0 0 0 0 0) rfl rfl hr info_super rfl (all_s _ _ _ _ _) ?_))
  intro w9 hR9 ho9
  go_wp2_with fail
  exact bodyPost_ret (results_sup2 rfl _ _ (w.heap.size + 1) _ _ _ _ _ rfl hR9) rfl ⟨by rw [HDV.out HE.out, HE.out]; rfl, st6.out.bel.trans (ho9.below (by omega))⟩
end Go.Proofs.YtnbmmhoofilmfaaGreatDoor
