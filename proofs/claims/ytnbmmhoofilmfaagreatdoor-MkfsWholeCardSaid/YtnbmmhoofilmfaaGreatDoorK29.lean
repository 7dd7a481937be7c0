/- Texts of this claim, merged by a program (a claim may have 60 files): InoGet. -/
import Derived.Test.YtnbmmhoofilmfaaGreatDoorK06
import Derived.Test.YtnbmmhoofilmfaaGreatDoorK28
/- The contract of inode.Get. -/
namespace Go.Proofs.YtnbmmhoofilmfaaGreatDoor
open Go.RowKit Go.Shelf
set_option linter.unusedVariables false
attribute [local go_sem] Oper.semAt_some

/-- what stands when the parameters are boxed -/
structure GetFr (w : World) (z : Nat → Int) (W : World) : Prop where
  b : Blk W w.heap.size 32 256 z
  i : InoAt W (w.heap.size + 1) 63 .nil
  bel : Below w.heap.size w W
theorem getFr_start (w : World) (z : Nat → Int) : GetFr w z ((w.alloc (.cells (Ks .u8 256 z).toArray 32)).alloc (.cells Ino.nil.arr 63)) := by
  refine ⟨(Blk.new _ _ _ _).alloc _, ?_, ((Below.refl _ _).alloc (Nat.le_refl _) _).alloc (by simp) _⟩
  have := InoAt.new (w.alloc (.cells (Ks .u8 256 z).toArray 32)) .nil
  simp only [World.size_alloc] at this; exact this

theorem g16_shift (z : Nat → Int) (i k : Nat) : g16 (fun j => z (i + j)) k = g16 z (i + k) := by unfold g16; simp only [Nat.add_assoc]
theorem g32_shift (z : Nat → Int) (i k : Nat) : g32 (fun j => z (i + j)) k = g32 z (i + k) := by unfold g32; simp only [Nat.add_assoc]
theorem own16 (g i : Nat) (z : Nat → Int) (hz : Byt z) (k : Nat) (K : Int) (w : World) (hK : K = (k : Int)) (hk : k + 2 ≤ 64) (hi : i ≤ 192) {T : TypeId} (hB : Blk w g T 256 z) :
    Calls Tryz.prog 58 #[.slice (some ⟨g, i, none⟩) 64 (256 - i), .int .i64 K] w fun e w' => e = .returned (.tuple #[.int .u32 (g16 z (i + k)), .bool true]) ∧ w = w' := by
  subst hK
  have hseg : Seg w g i 64 (fun j => z (i + j)) := by have := hB.seg.sub i 64 (by omega); rwa [Nat.zero_add] at this
  have := get16_yes g i 64 (256 - i) k _ w (by omega) (by omega) (by omega) hseg (fun j => hz _)
  rwa [Int.toNat_natCast, g16_shift] at this
theorem own32 (g i : Nat) (z : Nat → Int) (hz : Byt z) (k : Nat) (K : Int) (w : World) (hK : K = (k : Int)) (hk : k + 4 ≤ 64) (hi : i ≤ 192) {T : TypeId} (hB : Blk w g T 256 z) :
    Calls Tryz.prog 59 #[.slice (some ⟨g, i, none⟩) 64 (256 - i), .int .i64 K] w fun e w' => e = .returned (.tuple #[.int .u32 (g32 z (i + k)), .bool true]) ∧ w = w' := by
  subst hK
  have hseg : Seg w g i 64 (fun j => z (i + j)) := by have := hB.seg.sub i 64 (by omega); rwa [Nat.zero_add] at this
  have := get32_yes g i 64 (256 - i) k _ w (by omega) (by omega) (by omega) hseg (fun j => hz _)
  rwa [Int.toNat_natCast, g32_shift] at this
/-- what stands while the fields are laid: the bytes, the result, the inode -/
structure GetSt (w : World) (z : Nat → Int) (X : Nat) (x : Ino) (W : World) : Prop where
  b : Blk W w.heap.size 32 256 z
  r : InoAt W (w.heap.size + 1) 63 .nil
  x : InoAt W X 63 x
  bel : Below w.heap.size w W
theorem GetSt.set {w W : World} {z : Nat → Int} {X : Nat} {x y : Ino} (h : GetSt w z X x W) (j : Nat) (v : Value) (hX : w.heap.size + 1 < X) (hy : x.arr.setIfInBounds j v = y.arr) : GetSt w z X y (W.setCell ⟨X, j, none⟩ v) := by
  have ho := Only.setCell W ⟨X, j, none⟩ v
  exact ⟨h.b.only ho (by simp; omega), h.r.only ho (by simp; omega), h.x.set j v hy, h.bel.trans (ho.below (by simp; omega))⟩

theorem GetSt.below {w W W' : World} {z : Nat → Int} {X : Nat} {x : Ino} (h : GetSt w z X x W) (hb : Below W.heap.size W W') : GetSt w z X x W' :=
  ⟨h.b.below hb h.b.lt, h.r.below hb h.r.lt, h.x.below hb h.x.lt, h.bel.trans (hb.mono h.bel.size)⟩
theorem GetSt.local {w : World} {z : Nat → Int} {X B : Nat} {x : Ino} (h1 : w.heap.size + 1 < B) (hX : X < B) : LocalP B (GetSt w z X x) := fun A C hs hg =>
  ⟨LocalP.heap _ (by omega) A C hs.b hg, LocalP.heap _ h1 A C hs.r hg, LocalP.heap _ hX A C hs.x hg, LocalP.below w (by omega) (Nat.le_refl _) A C hs.bel hg⟩

set_option maxRecDepth 100000 in
set_option maxHeartbeats 4000000 in
theorem inoGet_any (z : Nat → Int) (hz : Byt z) (a : Int) (w : World) (h0 : -9223372036854775808 ≤ a) (h1 : a ≤ 9223372036854775807) :
    Calls Tryz.prog 24 #[bval z, .int .i64 a] w fun e w' => e = .returned (.tuple #[(getIno z a).val, .int .i64 (getErr z a)]) ∧ Below w.heap.size w w' := by
  refine (callsIn_wide (n := 5)).1 (callsIn_of_wp_marks Tryz.func24 rfl trivial ?_ rfl)
  refine wpIn_wide.2 ?_
  simp only [Tryz.ntmps24, List.size_toArray, List.length_cons, List.length_nil, Nat.reduceAdd, Nat.reduceSub, Array.replicate_succ, Array.replicate_zero, List.push_toArray, List.append_toArray, List.nil_append, List.cons_append]
  have hal := zero_ino
  go_wp2_with fail
  refine ((place_any a _ h0 h1).mono (R' := fun e w' => e = .returned (.bool (placeB a)) ∧ GetFr w z w') (fun e w' h => ⟨h.1, h.2 ▸ getFr_start w z⟩)).mono ?_
  rintro e w1 ⟨rfl, hf⟩
  clear hal
  by_cases hp : placeB a = true
  rotate_left
  · rw [Bool.not_eq_true] at hp
    have HP := Lib.hid hp
    rw [hp]
    clear hp
    go_wp2_with (first | (refine wp_storeIno rfl (.tmp 4) (.tmp 17) rfl (w.heap.size + 1) .nil .nil rfl rfl hf.i ?_))
    intro w2 hi2 ho2
    go_wp2_with fail
    refine bodyPostM_early (results_ino rfl _ _ (w.heap.size + 1) .nil rfl hi2) ⟨?_, hf.bel.trans (ho2.below (by omega))⟩
    rw [getIno, getErr, HP.out]; rfl
  have HP := Lib.hid hp
  have hpl := (placeB_iff a).1 hp
  rw [hp]
  have ha0 : 0 ≤ a := by omega
  have ha1 : a ≤ 192 := by omega
  clear hp hpl
  obtain ⟨i, rfl⟩ := Int.eq_ofNat_of_zero_le ha0
  have hsl := fun W => run_sliceBlk w.heap.size 0 i (i + 64) (i : Int) ((i : Int) + 64) rfl (by omega) (by omega) (by omega) (by omega) W
  simp only [Nat.zero_add, Nat.add_sub_cancel_left] at hsl
  have hs2 := fun W => run_sl_low (some ⟨w.heap.size, i, none⟩) 64 (256 - i) 60 60 rfl (by omega) W
  have c1 : w1.cell? ⟨w.heap.size, i + 1, none⟩ = some (.int .u8 (z (i + 1))) := by have := hf.b.seg (i + 1) (by omega); rwa [Nat.zero_add] at this
  by_cases hv : z (i + 1) = 0
  rotate_left
  · have q1 : (z (i + 1) != 0) = true := by simpa using hv
    have hg : Hid (getOkB z i = false) := by show _ = _; unfold getOkB; simp [hv]
    clear hv hs2
    have hf' := hf.i
    go_wp2_with (first | (refine wp_storeIno rfl (.tmp 4) (.tmp 32) rfl (w.heap.size + 1) .nil .nil rfl rfl hf' ?_))
    intro w2 hi2 ho2
    go_wp2_with fail
    refine bodyPostM_early (results_ino rfl _ _ (w.heap.size + 1) .nil rfl hi2) ⟨?_, hf.bel.trans (ho2.below (by omega))⟩
    rw [getIno, getErr, HP.out, Int.toNat_natCast, hg.out]; rfl
  have q1 : (z (i + 1) != 0) = false := by simpa using hv
  have HV := Lib.hid hv
  clear hv
  have hseg : Seg w1 w.heap.size i 64 (fun j => z (i + j)) := by have := hf.b.seg.sub i 64 (by omega); rwa [Nat.zero_add] at this
  have hrow : Row w1 (slAt (some ⟨w.heap.size, i, none⟩) 60 (256 - i)) (64 - 60) (fun j => (fun j => z (i + j)) (60 + j)) := Row.slice (.inr ⟨_, _, rfl, hseg⟩) (by omega) (by omega)
  have HR := Lib.hid hrow
  clear hrow
  generalize slAt (some ⟨w.heap.size, i, none⟩) 60 (256 - i) = sa60 at hs2 HR
  go_wp2_with fail
  refine (zero_any sa60 _ _ _ _ (by omega) (by exact HR.out)).mono ?_
  rintro e w2 ⟨rfl, rfl⟩
  clear HR hs2
  by_cases hzz : allZ (fun j => z (i + (60 + j))) (64 - 60) = true
  rotate_left
  · rw [Bool.not_eq_true] at hzz
    have hg : Hid (getOkB z i = false) := by
      show _ = _; unfold getOkB
      have : allZ (fun k => z (i + 60 + k)) 4 = false := by rw [← hzz]; congr 1; funext k; rw [Nat.add_assoc]
      rw [this]; simp
    dsimp only
    rw [hzz]
    clear hzz
    have hf' := hf.i
    go_wp2_with (first | (refine wp_storeIno rfl (.tmp 4) (.tmp 32) rfl (w.heap.size + 1) .nil .nil rfl rfl hf' ?_))
    intro w2 hi2 ho2
    go_wp2_with fail
    refine bodyPostM_early (results_ino rfl _ _ (w.heap.size + 1) .nil rfl hi2) ⟨?_, hf.bel.trans (ho2.below (by omega))⟩
    rw [getIno, getErr, HP.out, Int.toNat_natCast, hg.out]; rfl
  have HZZ : Hid (allZ (fun k => z (i + 60 + k)) 4 = true) := by show _ = _; rw [← hzz]; congr 1; funext k; rw [Nat.add_assoc]
  dsimp only
  rw [hzz]
  clear hzz
  have c0 : w1.cell? ⟨w.heap.size, i, none⟩ = some (.int .u8 (z i)) := by have := hf.b.seg i (by omega); rwa [Nat.zero_add] at this
  have hs1 : w.heap.size + 1 < w1.heap.size := hf.i.lt
  have hnew := (InoAt.new w1 .nil)
  have hal := zero_ino
  go_wp2_with (first | (refine wp_storeIno rfl (.tmp 7) (.tmp 36) rfl w1.heap.size ⟨z i, 0, 0, 0, fun _ => 0, 0⟩ .nil rfl rfl hnew ?_))
  intro w2 hi2 ho2
  have hX : w1.heap.size < w2.heap.size := hi2.lt
  have st2 : GetSt w z w1.heap.size ⟨z i, 0, 0, 0, fun _ => 0, 0⟩ w2 := ⟨(hf.b.alloc _).only ho2 (by omega), (hf.i.alloc _).only ho2 (by omega), hi2, (hf.bel.alloc (by omega) _).trans (ho2.below (by omega))⟩
  clear hal hnew hf ho2 c0 c1 q1 hseg hi2
  generalize w1.heap.size = X at *
  clear w1
  have g2 := g16_bd hz (i + 2)
  have g8 := g32_bd hz (i + 8)
  have g20 := g2.1
  have g21 := g2.2
  have g80 := g8.1
  have g81 := g8.2
  clear g2 g8
  have c1 : w2.cell? ⟨X, 1, none⟩ = some (.int .i64 0) := st2.x.cell (i := 1) rfl
  have f1 : w2.frozen? ⟨X, 1, none⟩ = false := soft_of_heap st2.x 1
  have st3 := st2.set (y := ⟨z i, g16 z (i + 2), 0, 0, fun _ => 0, 0⟩) 1 (.int .i64 (g16 z (i + 2))) hs1 rfl
  go_wp2_with fail
  refine (own16 w.heap.size i z hz 2 2 w2 rfl (by omega) (by omega) st2.b).mono ?_
  rintro e w3 ⟨rfl, rfl⟩
  go_wp2_with fail
  clear c1 f1 st2
  generalize w2.setCell ⟨X, 1, none⟩ (.int .i64 (g16 z (i + 2))) = w3 at st3 ⊢
  have c1 : w3.cell? ⟨X, 2, none⟩ = some (.int .u32 0) := st3.x.cell (i := 2) rfl
  have f1 : w3.frozen? ⟨X, 2, none⟩ = false := soft_of_heap st3.x 2
  have st4 := st3.set (y := ⟨z i, g16 z (i + 2), g32 z (i + 4), 0, fun _ => 0, 0⟩) 2 (.int .u32 (g32 z (i + 4))) hs1 rfl
  refine (own32 w.heap.size i z hz 4 4 w3 rfl (by omega) (by omega) st3.b).mono ?_
  rintro e w4 ⟨rfl, rfl⟩
  go_wp2_with fail
  clear c1 f1 st3
  generalize w3.setCell ⟨X, 2, none⟩ (.int .u32 (g32 z (i + 4))) = w4 at st4 ⊢
  have c1 : w4.cell? ⟨X, 3, none⟩ = some (.int .i64 0) := st4.x.cell (i := 3) rfl
  have f1 : w4.frozen? ⟨X, 3, none⟩ = false := soft_of_heap st4.x 3
  have st5 : GetSt w z X (inoAt' z i 0) _ := st4.set (y := inoAt' z i 0) 3 (.int .i64 (g32 z (i + 8))) hs1 rfl
  refine (own32 w.heap.size i z hz 8 8 w4 rfl (by omega) (by omega) st4.b).mono ?_
  rintro e w5 ⟨rfl, rfl⟩
  go_wp2_with fail
  clear c1 f1 st4
  generalize w4.setCell ⟨X, 3, none⟩ (.int .i64 (g32 z (i + 8))) = w5 at st5 ⊢
  have hseg : Seg w5 w.heap.size (i + 12) 44 (fun j => z (i + 12 + j)) := by have := st5.b.seg.sub (i + 12) 44 (by omega); rwa [Nat.zero_add] at this
  refine (tell_any (some ⟨w.heap.size, i + 12, none⟩) 44 _ _ _ (.inr ⟨_, _, rfl, hseg⟩) (fun h => by cases h) (by omega)).mono ?_
  rintro e w6 ⟨B, sa, cap', rfl, hnd, hb6, hB1, hB2, hsa⟩
  have hX5 := st5.x.lt
  have st6 := st5.below hb6
  have hX6 := st6.x.lt
  have hr6 := st6.r.lt
  clear st5 hseg
  go_wp2_with fail
  apply wp_rangeIx2 (gf := 113) (lb := #[.pointer (some ⟨B, 0, none⟩)]) rfl (enters_of Tryz.func113 (by kernel_rfl) rfl)
    (tell_iter 4 (by decide) B sa 44 cap' (fun j => z (i + 12 + j)) (fun j => hz _) (by omega)) (fun k => rfl)
    (fun k W => GetSt w z X (inoAt' z i k) W) (fun _ _ _ => False)
    (fun k => GetSt.local hr6 hX6)
    (fun c k => LocalP.pure _ _)
    (fun k => (LocalP.cell _ _ hB2).and (LocalP.row _ _ (fun x hx => (hsa x hx).2)))
    st6 hnd
  case assign =>
    intro l k W K hk hK
    dsimp only [tellEnc]
    gi_wp2
    exact hK
  case body =>
    rintro l k W hk hst hN
    have hk' : k < 11 := by omega
    have c1 : W.cell? ⟨X, 4 + k, none⟩ = some (.int .u32 ((inoAt' z i k).p k)) := hst.x.ptr k hk'
    have f1 : W.frozen? ⟨X, 4 + k, none⟩ = false := soft_of_heap hst.x (4 + k)
    have hq : (4 * (k : Int)).tdiv 4 = (k : Int) := Int.mul_tdiv_cancel_left _ (by decide)
    have hg : g32 (fun j => z (i + 12 + j)) (4 * k) = g32 z (i + 12 + 4 * k) := g32_shift z (i + 12) (4 * k)
    have st' := hst.set (y := inoAt' z i (k + 1)) (4 + k) (.int .u32 (g32 z (i + 12 + 4 * k))) hs1 (arr_ptr z i k hk')
    have ho := Only.setCell W ⟨X, 4 + k, none⟩ (.int .u32 (g32 z (i + 12 + 4 * k)))
    rw [hg]
    clear hg
    gi_wp2
    exact ⟨ho.keeps c1, st', (ho.cell (p := ⟨B, 0, none⟩) (by simp; omega)).trans hN.1, ho.row (fun x hx => by have := hsa x hx; simp; omega) hN.2⟩
  case done =>
    rintro D W hD hst hK
    have hX7 := hst.x.lt
    go_wp2_with fail
    refine (own32 w.heap.size i z hz 56 56 W rfl (by omega) (by omega) hst.b).mono ?_
    rintro e w7 ⟨rfl, rfl⟩
    have c1 : W.cell? ⟨X, 15, none⟩ = some (.int .u32 0) := hst.x.cell (i := 15) rfl
    have f1 : W.frozen? ⟨X, 15, none⟩ = false := soft_of_heap hst.x 15
    have st8 : GetSt w z X (inoOf z i) _ := hst.set (y := inoOf z i) 15 (.int .u32 (g32 z (i + 56))) hs1 rfl
    have hK8 : (W.setCell ⟨X, 15, none⟩ (.int .u32 (g32 z (i + 56)))).heap[D]? = some (.deferred (some [])) := by rw [Below.heap_setCell _ _ _ D (by simp; omega)]; exact hK
    have hio := inoOf_ok hz i
    go_wp2_with (first | (refine wp_loadIno rfl (.tmp 7) rfl X (inoOf z i) rfl st8.x ?_))
    clear c1 f1 hst hK
    generalize W.setCell ⟨X, 15, none⟩ (.int .u32 (g32 z (i + 56))) = w8 at st8 hK8 ⊢
    refine (may_any (inoOf z i) hio w8).mono ?_
    rintro e w9 ⟨rfl, hb9⟩
    have st9 := st8.below hb9
    have hD8 : D < w8.heap.size := (Array.getElem?_eq_some_iff.1 hK8).1
    have hK9 : w9.heap[D]? = some (.deferred (some [])) := (hb9.block D hD8).trans hK8
    have hDw : w.heap.size + 1 < D := by omega
    clear hK8 st8 hb9
    by_cases hm : decide (inoOf z i).May = true
    · have hg : Hid (getOkB z i = true) := by show _ = _; unfold getOkB; rw [HV.out, HZZ.out, hm]; rfl
      rw [hm]
      clear hm
      have hx9 := st9.x
      have hr9 := st9.r
      go_wp2_with (first | (refine wp_loadIno rfl (.tmp 7) rfl X (inoOf z i) rfl hx9 ?_) | (refine wp_storeIno rfl (.tmp 4) (.tmp 79) rfl (w.heap.size + 1) (inoOf z i) .nil rfl rfl hr9 ?_))
      intro w10 hi10 ho10
      go_wp2_with fail
      have hK10 := (ho10.block D (by omega)).trans hK9
      refine bodyPostM_done (D := D) hK10 (results_ino rfl _ _ (w.heap.size + 1) (inoOf z i) rfl ((World.putObj_heap_other (by omega)).trans hi10)) ⟨?_, below_putObj (st9.bel.trans (ho10.below (by omega))) _ (Nat.le_refl _) (by omega)⟩
      rw [getIno, getErr, HP.out, Int.toNat_natCast, hg.out]; rfl
    · rw [Bool.not_eq_true] at hm
      have hg : Hid (getOkB z i = false) := by show _ = _; unfold getOkB; rw [hm]; simp
      rw [hm]
      clear hm
      have hr9 := st9.r
      go_wp2_with (first | (refine wp_storeIno rfl (.tmp 4) (.tmp 78) rfl (w.heap.size + 1) .nil .nil rfl rfl hr9 ?_))
      intro w10 hi10 ho10
      go_wp2_with fail
      have hK10 := (ho10.block D (by omega)).trans hK9
      refine bodyPostM_done (D := D) hK10 (results_ino rfl _ _ (w.heap.size + 1) .nil rfl ((World.putObj_heap_other (by omega)).trans hi10)) ⟨?_, below_putObj (st9.bel.trans (ho10.below (by omega))) _ (Nat.le_refl _) (by omega)⟩
      rw [getIno, getErr, HP.out, Int.toNat_natCast, hg.out]; rfl
  case stop =>
    rintro D c k W hD hk h hK
    exact h.elim
end Go.Proofs.YtnbmmhoofilmfaaGreatDoor
