/- Texts of this claim, merged by a program (a claim may have 60 files): U6c. -/
import Derived.Test.YtopakpmepioomaaDoorK08
/- super.Write, super.Read. -/
namespace Go.Proofs.YtopakpmepioomaaDoor
open Go.RowKit
set_option linter.unusedVariables false

/-- the superblock's halves, ahead of the sum -/
def supH (G S I J O : Int) : Nat → Int := upd2 (geoH (upd (upd (upd2 (fun _ => 0) 0 827216465) 2 1) 3 256) G S I J) 8 O
def supOk (G S I J O : Int) : Bool := mayG G S I J && decide (O ≤ nIn G S I J)
def supE (G S I J O : Int) : Int := if mayG G S I J then (if O ≤ nIn G S I J then 0 else 2) else 50
def supZ (G S I J O : Int) : Nat → Int := if supOk G S I J O then sealZ (hz (supH G S I J O)) else fun _ => 0

structure WS (w : World) (G S I J O : Int) (g : Nat) (z : Nat → Int) (W : World) : Prop where
  s : At W w.heap.size 42 (scells G S I J O)
  r : Blk W (w.heap.size + 1) 32 256 (fun _ => 0)
  p : Blk W g 87 256 z
  t : Tab W
  bel : Below w.heap.size w W
theorem WS.step {w : World} {G S I J O : Int} {g : Nat} {z z' : Nat → Int} {W W' : World} (h : WS w G S I J O g z W) (hT : 0 < w.heap.size) (hg : w.heap.size + 2 ≤ g) (hb : W.grownBy W' (some g)) (hp : Blk W' g 87 256 z') : WS w G S I J O g z' W' :=
  ⟨h.s.grown hb (fun e => by cases e; omega), h.r.grown hb (fun e => by cases e; omega), hp, h.t.grown hb (fun e => by cases e; omega), h.bel.grown hb h.bel.size (fun k e => by cases e; omega)⟩
theorem WS.geo {w : World} {G S I J O : Int} {g : Nat} {z : Nat → Int} {W : World} (h : WS w G S I J O g z W) : W.rangeAt w.heap.size 0 (gcells G S I J).toList := fun j v hj => by
  have hj4 : j < 4 := (List.getElem?_eq_some_iff.1 hj).1
  refine h.s.cell (i := 0 + j) ?_
  rw [Nat.zero_add, ← hj]
  obtain rfl | rfl | rfl | rfl : j = 0 ∨ j = 1 ∨ j = 2 ∨ j = 3 := by omega
  all_goals rfl
theorem At.geo {w : World} {g : Nat} {T : TypeId} {G S I J O : Int} (h : At w g T (scells G S I J O)) : w.rangeAt g 0 (gcells G S I J).toList := fun j v hj => by
  have hj4 : j < 4 := (List.getElem?_eq_some_iff.1 hj).1
  refine h.cell (i := 0 + j) ?_
  rw [Nat.zero_add, ← hj]
  obtain rfl | rfl | rfl | rfl : j = 0 ∨ j = 1 ∨ j = 2 ∨ j = 3 := by omega
  all_goals rfl
theorem wp_loadRange {P : Program} {w : World} {ops : Array Oper} {rest : List Oper} {o : Oper} {a : Act} {Q : Exit → Act → World → Prop} (hw : Region.wanted o (yielded ops a.tmps) = true) (T : TypeId) (p : Operand) (ho : o.op = .load T p)
    (g off : Nat) (cs : List Value) (d : TypeDesc) (hx : a.eval p = .pointer (some ⟨g, off, none⟩)) (hI : w.rangeAt g off cs) (hu : P.underlying T = some d) (hd : d.isRow = true) (hi : (P.info? T).map (·.size) = some cs.length)
    (h : wpList P ops Q rest (a.put o.dst (.agg cs.toArray)) w) : wpList P ops Q (o :: rest) a w :=
  BigFrame.wpList_want hw fun _ hK => wp_load_mid T p ho g off hx cs d hI hu hd hi (hK _ _ h)
/-- a page's bytes, read as a block -/
theorem wp_loadPage {w : World} {ops : Array Oper} {rest : List Oper} {o : Oper} {a : Act} {Q : Exit → Act → World → Prop} (hw : Region.wanted o (yielded ops a.tmps) = true) (p : Operand) (ho : o.op = .load 32 p)
    (g : Nat) (z : Nat → Int) {T : TypeId} (hx : a.eval p = .pointer (some ⟨g, 0, none⟩)) (hB : Blk w g T 256 z)
    (h : wpList Tryd.prog ops Q rest (a.put o.dst (bval z)) w) : wpList Tryd.prog ops Q (o :: rest) a w :=
  wp_loadRange hw 32 p ho g 0 (Ks .u8 256 z) _ hx hB.range Tryd.underlying32 rfl (by rw [Ks_length]; exact info_block) h

set_option maxRecDepth 100000 in
set_option maxHeartbeats 4000000 in
theorem superWrite_any (G S I J O : Int) (hO : 0 ≤ O ∧ O < 4294967296) (w : World) (hT : Tab w) :
    Calls Tryd.prog 30 #[sval G S I J O] w fun e w' => e = .returned (.tuple #[bval (supZ G S I J O), .int .i64 (supE G S I J O)]) ∧ Below w.heap.size w w' := by
  have hal := zero_block
  have halp := zero_page
  have hTl := hT.lt
  obtain ⟨W, hW⟩ : ∃ W, W = (w.alloc (.cells (scells G S I J O) 42)).alloc (.cells (Ks .u8 256 (fun _ => 0)).toArray 32) := ⟨_, rfl⟩
  have hS : At W w.heap.size 42 (scells G S I J O) := by rw [hW]; exact (At.new w _ _).alloc _
  have hR : Blk W (w.heap.size + 1) 32 256 (fun _ => 0) := by
    rw [hW]
    have := Blk.new (w.alloc (.cells (scells G S I J O) 42)) 32 256 (fun _ => 0)
    simp only [World.size_alloc] at this
    exact this
  have hL : Below w.heap.size w W := by rw [hW]; exact ((Below.refl _ _).alloc (Nat.le_refl _) _).alloc (by simp) _
  have hTW : Tab W := hT.below hL (Nat.le_refl _)
  have HW := Lib.hid hW
  clear hW hT
  go_enter Tryd.func30, Tryd.ntmps30
  go_wp2_with fail
  rw [← HW.out]
  clear HW
  go_wp2_with (first | (refine wp_loadRange rfl 23 _ rfl w.heap.size 0 (gcells G S I J).toList _ rfl hS.geo Tryd.underlying23 rfl (by kernel_rfl) ?_))
  refine (geoMay_any G S I J W).mono ?_
  rintro e w1 ⟨rfl, hb1⟩
  have hS1 := hS.below hb1 hS.lt
  have hR1 := hR.below hb1 hR.lt
  have hL1 : Below w.heap.size w w1 := hL.trans (hb1.mono hL.size)
  have hT1 := hTW.below hb1 (Nat.le_refl _)
  clear hS hR hL hTW hb1
  cases hm : mayG G S I J with
  | false =>
    have HO : Hid (supOk G S I J O = false ∧ supE G S I J O = 50) := by show _ ∧ _; unfold supOk supE; rw [hm]; exact ⟨rfl, rfl⟩
    clear hm
    go_wp2_with (first | (refine wp_storeBlk rfl (.tmp 2) (.tmp 9) rfl (w.heap.size + 1) (fun _ => 0) _ rfl rfl hR1 ?_))
    intro w2 hR2 ho2
    go_wp2_with fail
    exact bodyPost_ret (results_blk2 rfl _ _ (w.heap.size + 1) _ rfl hR2) rfl ⟨by rw [supZ, HO.out.1, HO.out.2]; rfl, hL1.trans (ho2.below (by omega))⟩
  | true =>
  have HM := Lib.hid hm
  clear hm
  go_wp2_with (first | (refine wp_loadAtG rfl 42 _ rfl _ _ _ rfl hS1 Tryd.underlying42 rfl (by kernel_rfl) ?_))
  refine (orphaned_any G S I J O hO w1).mono ?_
  rintro e w2 ⟨rfl, hb2⟩
  have hS2 := hS1.below hb2 hS1.lt
  have hR2 := hR1.below hb2 hR1.lt
  have hL2 : Below w.heap.size w w2 := hL1.trans (hb2.mono hL1.size)
  have hT2 := hT1.below hb2 (Nat.le_refl _)
  have hsz := hR2.lt
  clear hS1 hR1 hL1 hT1 hb2
  cases ho : decide (O ≤ nIn G S I J) with
  | false =>
    have HO : Hid (supOk G S I J O = false ∧ supE G S I J O = 2) := by
      show _ ∧ _
      unfold supOk supE; rw [HM.out, ho, if_pos rfl, if_neg (by simpa using ho)]; exact ⟨rfl, rfl⟩
    clear ho
    go_wp2_with (first | (refine wp_storeBlk rfl (.tmp 2) (.tmp 13) rfl (w.heap.size + 1) (fun _ => 0) _ rfl rfl hR2 ?_))
    intro w3 hR3 ho3
    go_wp2_with fail
    exact bodyPost_ret (results_blk2 rfl _ _ (w.heap.size + 1) _ rfl hR3) rfl ⟨by rw [supZ, HO.out.1, HO.out.2]; rfl, hL2.trans (ho3.below (by omega))⟩
  | true =>
  have HO : Hid (supOk G S I J O = true ∧ supE G S I J O = 0) := by
    show _ ∧ _
    unfold supOk supE; rw [HM.out, ho, if_pos rfl, if_pos (by simpa using ho)]; exact ⟨rfl, rfl⟩
  clear ho
  obtain ⟨g, hg⟩ : ∃ g, g = w2.heap.size := ⟨_, rfl⟩
  have hg2 : w.heap.size + 2 ≤ g := by omega
  have st0 : Hid (WS w G S I J O g (hz (fun _ => 0)) (w2.alloc (.cells (Ks .u8 256 (fun _ => 0)).toArray 87))) :=
    ⟨hS2.alloc _, hR2.alloc _, by rw [hg]; exact (Blk.new w2 _ _ _).congr fun i _ => (hz_zero i).symm, hT2.alloc _, hL2.alloc hL2.size _⟩
  clear hS2 hR2 hL2 hT2 hsz
  go_wp2_with fail
  rw [← hg]
  clear hg
  refine (pagePut4_any g _ 0 0 827216465 rfl (by omega) (by omega) _ st0.out.p).mono ?_
  rintro e w3 ⟨⟨u, rfl⟩, hp, hgo⟩
  have st1 := Lib.hid (st0.out.step hTl hg2 (grown_only hgo) hp)
  clear st0 hp hgo
  go_wp2_with fail
  refine (pagePut_any g _ 2 4 1 rfl (by omega) (by omega) (by omega) _ st1.out.p).mono ?_
  rintro e w4 ⟨⟨u, rfl⟩, hp, hgo⟩
  have st2 := Lib.hid (st1.out.step hTl hg2 (grown_only hgo) hp)
  clear st1 hp hgo
  go_wp2_with fail
  refine (pagePut_any g _ 3 6 256 rfl (by omega) (by omega) (by omega) _ st2.out.p).mono ?_
  rintro e w5 ⟨⟨u, rfl⟩, hp, hgo⟩
  have st3 := Lib.hid (st2.out.step hTl hg2 (grown_only hgo) hp)
  clear st2 hp hgo
  have hr3 := st3.out.s.geo
  go_wp2_with (first | (refine wp_loadRange rfl 23 _ rfl w.heap.size 0 (gcells G S I J).toList _ rfl hr3 Tryd.underlying23 rfl (by kernel_rfl) ?_))
  clear hr3
  refine (putGeo_any g _ G S I J HM.out _ st3.out.p).mono ?_
  rintro e w6 ⟨⟨u, rfl⟩, hp, hgo⟩
  have st4 := Lib.hid (st3.out.step hTl hg2 hgo hp)
  clear st3 hp hgo
  have hc : w6.cell? ⟨w.heap.size, 4, none⟩ = some (.int .u32 O) := st4.out.s.cell (i := 4) rfl
  go_wp2_with fail
  clear hc
  refine (pagePut4_any g _ 8 16 O rfl (by omega) hO.1 _ st4.out.p).mono ?_
  rintro e w7 ⟨⟨u, rfl⟩, hp, hgo⟩
  have st5 := Lib.hid (st4.out.step hTl hg2 (grown_only hgo) hp)
  clear st4 hp hgo
  go_wp2_with fail
  refine (pageSeal_any g _ (hz_byt _) _ st5.out.p st5.out.t).mono ?_
  rintro e w8 ⟨⟨u, rfl⟩, hp, hgo⟩
  have st6 := Lib.hid (st5.out.step hTl hg2 hgo hp)
  clear st5 hp hgo
  have hp6 := st6.out.p
  have hr6 := st6.out.r
  go_wp2_with (first | (refine wp_loadPage rfl _ rfl g _ rfl hp6 ?_) | (refine wp_storeBlk rfl (.tmp 2) (.tmp 26) rfl (w.heap.size + 1) (sealZ (hz (supH G S I J O))) _ rfl rfl hr6 ?_))
  intro w9 hR9 ho9
  go_wp2_with fail
  exact bodyPost_ret (results_blk2 rfl _ _ (w.heap.size + 1) _ rfl hR9) rfl ⟨by rw [supZ, HO.out.1, HO.out.2]; rfl, st6.out.bel.trans (ho9.below (by omega))⟩
end Go.Proofs.YtopakpmepioomaaDoor
