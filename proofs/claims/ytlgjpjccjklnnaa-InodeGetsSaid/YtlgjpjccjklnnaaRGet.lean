/- The contract of quernref07.Get, and the walk of the law InodeGets. -/
import Derived.Test.YtlgjpjccjklnnaaInoGet
import Derived.Test.YtlgjpjccjklnnaaRMay
import Derived.Test.YtlgjpjccjklnnaaInoLaw
namespace Go.Proofs.Ytlgjpjccjklnnaa
open Go.RowKit Go.Shelf
set_option linter.unusedVariables false

theorem GetSt.drewN {w W : World} {z : Nat → Int} {X : Nat} {x : Ino} (h : GetSt w z X x W) (m : Nat) : GetSt w z X x (W.drewN m) := ⟨h.b, h.r, h.x, bel_drewN h.bel m⟩
theorem rown16 {w W : World} {z : Nat → Int} (hz : Byt z) {X : Nat} {x : Ino} (i k : Nat) (K : Int) (hK : K = (i : Int) + (k : Int)) (h : i + k + 2 ≤ 256) (st : GetSt w z X x W) :
    Calls Try.prog 28 #[.slice (some ⟨w.heap.size, 0, none⟩) 256 256, .int .i64 K] W fun e w' => e = .returned (.tuple #[.int .u32 (g16 z (i + k)), .bool true]) ∧ GetSt w z X x w' := by
  have := rget16_yes w.heap.size 0 256 256 K z W (by omega) (by omega) (by omega) st.b.seg hz
  rw [show K.toNat = i + k by omega] at this
  exact this.mono fun e w' ⟨he, m, hw⟩ => ⟨he, hw ▸ st.drewN m⟩
theorem rown32 {w W : World} {z : Nat → Int} (hz : Byt z) {X : Nat} {x : Ino} (i k : Nat) (K : Int) (hK : K = (i : Int) + (k : Int)) (h : i + k + 4 ≤ 256) (st : GetSt w z X x W) :
    Calls Try.prog 29 #[.slice (some ⟨w.heap.size, 0, none⟩) 256 256, .int .i64 K] W fun e w' => e = .returned (.tuple #[.int .u32 (g32 z (i + k)), .bool true]) ∧ GetSt w z X x w' := by
  have := rget32_yes w.heap.size 0 256 256 K z W (by omega) (by omega) (by omega) st.b.seg hz
  rw [show K.toNat = i + k by omega] at this
  exact this.mono fun e w' ⟨he, m, hw⟩ => ⟨he, hw ▸ st.drewN m⟩

set_option maxRecDepth 100000 in
set_option maxHeartbeats 4000000 in
theorem rGet_any (z : Nat → Int) (hz : Byt z) (a : Int) (w : World) (h0 : -9223372036854775808 ≤ a) (h1 : a ≤ 9223372036854775807) :
    Calls Try.prog 15 #[bval z, .int .i64 a] w fun e w' => e = .returned (.tuple #[(getIno z a).val, .int .i64 (getErr z a)]) ∧ Below w.heap.size w w' := by
  have hal := zero_ino
  go_enter Try.func15, Try.ntmps15
  go_wp2_with fail
  refine ((rplace_any a _).mono (R' := fun e w' => e = .returned (.bool (placeB a)) ∧ GetFr w z w') (fun e w' h => ⟨h.1, h.2 ▸ getFr_start w z⟩)).mono ?_
  rintro e w1 ⟨rfl, hf⟩
  clear hal
  by_cases hp : placeB a = true
  rotate_left
  · rw [Bool.not_eq_true] at hp
    have HP := Lib.hid hp
    rw [hp]
    clear hp
    go_wp2_with (first | (refine wp_storeIno rfl (.tmp 4) (.tmp 15) rfl (w.heap.size + 1) .nil .nil rfl rfl hf.i ?_))
    intro w2 hi2 ho2
    go_wp2_with fail
    refine bodyPost_ret (results_ino rfl _ _ (w.heap.size + 1) .nil rfl hi2) rfl ⟨?_, hf.bel.trans (ho2.below (by omega))⟩
    rw [getIno, getErr, HP.out]; rfl
  have HP := Lib.hid hp
  have hpl := (placeB_iff a).1 hp
  rw [hp]
  have ha0 : 0 ≤ a := by omega
  have ha1 : a ≤ 192 := by omega
  clear hp hpl
  obtain ⟨i, rfl⟩ := Int.eq_ofNat_of_zero_le ha0
  have hsa := fun W => run_sliceBlkAll w.heap.size 0 W
  have hsl := fun W => run_sliceBlk w.heap.size 0 (i + 60) (i + 64) ((i : Int) + 60) ((i : Int) + 64) rfl (by omega) (by omega) (by omega) (by omega) W
  simp only [Nat.zero_add, show i + 64 - (i + 60) = 4 by omega] at hsl
  have HSL := Lib.hid hsl
  clear hsl
  have st1 : GetSt w z (w.heap.size + 1) .nil w1 := ⟨hf.b, hf.i, hf.i, hf.bel⟩
  clear hf
  go_wp2_with fail
  refine (rown16 hz i 2 _ rfl (by omega) st1).mono ?_
  rintro e w2 ⟨rfl, st2⟩
  clear st1
  go_wp2_with fail
  refine (rown32 hz i 8 _ rfl (by omega) st2).mono ?_
  rintro e w3 ⟨rfl, st3⟩
  clear st2
  have c0 : w3.cell? ⟨w.heap.size, i, none⟩ = some (.int .u8 (z i)) := by have := st3.b.seg i (by omega); rwa [Nat.zero_add] at this
  have g2 := g16_bd hz (i + 2)
  have g8 := g32_bd hz (i + 8)
  obtain ⟨g20, g21⟩ := g2
  obtain ⟨g80, g81⟩ := g8
  have hs1 : w.heap.size + 1 < w3.heap.size := st3.r.lt
  have hnew := InoAt.new w3 .nil
  have hal := zero_ino
  go_wp2_with (first | (refine wp_storeIno rfl (.tmp 10) (.tmp 37) rfl w3.heap.size ⟨z i, g16 z (i + 2), 0, g32 z (i + 8), fun _ => 0, 0⟩ .nil rfl rfl hnew ?_))
  intro w4 hi4 ho4
  have st4 : GetSt w z w3.heap.size ⟨z i, g16 z (i + 2), 0, g32 z (i + 8), fun _ => 0, 0⟩ w4 := ⟨(st3.b.alloc _).only ho4 (by omega), (st3.r.alloc _).only ho4 (by omega), hi4, (st3.bel.alloc (by omega) _).trans (ho4.below (by omega))⟩
  clear hal hnew ho4 c0 hi4 st3
  generalize w3.heap.size = X at *
  clear w3
  go_wp2_with fail
  refine (rown32 hz i 4 _ rfl (by omega) st4).mono ?_
  rintro e w5 ⟨rfl, st5⟩
  clear st4
  have c1 : w5.cell? ⟨X, 2, none⟩ = some (.int .u32 0) := st5.x.cell (i := 2) rfl
  have f1 : w5.frozen? ⟨X, 2, none⟩ = false := soft_of_heap st5.x 2
  have st6 : GetSt w z X (inoAt' z i 0) _ := st5.set (y := inoAt' z i 0) 2 (.int .u32 (g32 z (i + 4))) hs1 rfl
  go_wp2_with fail
  clear c1 f1 st5
  generalize w5.setCell ⟨X, 2, none⟩ (.int .u32 (g32 z (i + 4))) = w6 at st6 ⊢
  go_loopw [11] (fun u wr => ∃ k : Nat, k ≤ 11 ∧ u = .int .i64 (k : Int) ∧ GetSt w z X (inoAt' z i k) wr) (fun u _ => 11 - (intOf u).toNat)
  case atStart => exact ⟨0, by omega, rfl, st6⟩
  case round =>
    clear st6
    obtain ⟨k, hk, rfl, st⟩ := hrel
    by_cases hlt : k < 11
    · have l0 : (0 : Int) ≤ (k : Int) := by omega
      have l1 : (k : Int) < 11 := by omega
      go_wp2_with fail
      refine (rown32 hz (i + 12) (4 * k) _ (by omega) (by omega) st).mono ?_
      rintro e w7 ⟨rfl, st7⟩
      have c1 : w7.cell? ⟨X, 4 + k, none⟩ = some (.int .u32 ((inoAt' z i k).p k)) := st7.x.ptr k hlt
      have f1 : w7.frozen? ⟨X, 4 + k, none⟩ = false := soft_of_heap st7.x (4 + k)
      have st8 := st7.set (y := inoAt' z i (k + 1)) (4 + k) (.int .u32 (g32 z (i + 12 + 4 * k))) hs1 (arr_ptr z i k hlt)
      go_wp2_with fail
      go_roundw
      case rel => exact ⟨k + 1, by omega, by go_num, st8⟩
      case measure => simp [intOf]; omega
    · obtain rfl : k = 11 := by omega
      go_wp2_with fail
      refine (rown32 hz i 56 _ rfl (by omega) st).mono ?_
      rintro e w7 ⟨rfl, st7⟩
      have c1 : w7.cell? ⟨X, 15, none⟩ = some (.int .u32 0) := st7.x.cell (i := 15) rfl
      have f1 : w7.frozen? ⟨X, 15, none⟩ = false := soft_of_heap st7.x 15
      have st8 : GetSt w z X (inoOf z i) _ := st7.set (y := inoOf z i) 15 (.int .u32 (g32 z (i + 56))) hs1 rfl
      have b1 : (w7.setCell ⟨X, 15, none⟩ (.int .u32 (g32 z (i + 56)))).cell? ⟨w.heap.size, i + 1, none⟩ = some (.int .u8 (z (i + 1))) := by have := st8.b.seg (i + 1) (by omega); rwa [Nat.zero_add] at this
      have hsl := HSL.out
      clear HSL
      by_cases hv : z (i + 1) = 0
      rotate_left
      · have q1 : (z (i + 1) != 0) = true := by simpa using hv
        have hg : Hid (getOkB z i = false) := by show _ = _; unfold getOkB; simp [hv]
        have hr8 := st8.r
        clear hv hsl
        go_wp2_with (first | (refine wp_storeIno rfl (.tmp 4) (.tmp 90) rfl (w.heap.size + 1) .nil .nil rfl rfl hr8 ?_))
        intro w9 hi9 ho9
        go_wp2_with fail
        refine bodyPost_ret (results_ino rfl _ _ (w.heap.size + 1) .nil rfl hi9) rfl ⟨?_, st8.bel.trans (ho9.below (by omega))⟩
        rw [getIno, getErr, HP.out, Int.toNat_natCast, hg.out]; rfl
      have q1 : (z (i + 1) != 0) = false := by simpa using hv
      have HV := Lib.hid hv
      clear hv
      have hrow : Hid (Row (w7.setCell ⟨X, 15, none⟩ (.int .u32 (g32 z (i + 56)))) (some ⟨w.heap.size, i + 60, none⟩) 4 (fun j => z (i + 60 + j))) := .inr ⟨_, _, rfl, by have := st8.b.seg.sub (i + 60) 4 (by omega); rwa [Nat.zero_add] at this⟩
      go_wp2_with fail
      refine (rzero_any _ _ _ _ _ (by omega) (by exact hrow.out)).mono ?_
      rintro e w8 ⟨rfl, rfl⟩
      clear hsl hrow b1 q1 c1 f1
      generalize w7.setCell ⟨X, 15, none⟩ (.int .u32 (g32 z (i + 56))) = w8 at st8 ⊢
      by_cases hzz : allZ (fun j => z (i + 60 + j)) 4 = true
      rotate_left
      · rw [Bool.not_eq_true] at hzz
        have hg : Hid (getOkB z i = false) := by show _ = _; unfold getOkB; rw [hzz]; simp
        rw [hzz]
        clear hzz
        have hr8 := st8.r
        go_wp2_with (first | (refine wp_storeIno rfl (.tmp 4) (.tmp 90) rfl (w.heap.size + 1) .nil .nil rfl rfl hr8 ?_))
        intro w9 hi9 ho9
        go_wp2_with fail
        refine bodyPost_ret (results_ino rfl _ _ (w.heap.size + 1) .nil rfl hi9) rfl ⟨?_, st8.bel.trans (ho9.below (by omega))⟩
        rw [getIno, getErr, HP.out, Int.toNat_natCast, hg.out]; rfl
      have HZZ := Lib.hid hzz
      rw [hzz]
      clear hzz
      have hio := inoOf_ok hz i
      have hx8 := st8.x
      go_wp2_with (first | (refine wp_loadInoG rfl (.tmp 10) rfl X (inoOf z i) rfl hx8 ?_))
      refine (rmay_any _ hio _).mono ?_
      rintro e w9 ⟨rfl, hb9⟩
      have st9 := st8.below hb9
      clear st8 hb9 hx8
      by_cases hm : (inoOf z i).May
      · have hg : Hid (getOkB z i = true) := by show _ = _; unfold getOkB; rw [HZZ.out, HV.out, decide_eq_true hm]; rfl
        rw [decide_eq_true hm]
        clear hm
        have hr9 := st9.r
        have hx9 := st9.x
        go_wp2_with (first | (refine wp_loadIno rfl (.tmp 10) rfl X (inoOf z i) rfl hx9 ?_) | (refine wp_storeIno rfl (.tmp 4) (.tmp 91) rfl (w.heap.size + 1) (inoOf z i) .nil rfl rfl hr9 ?_))
        intro w10 hi10 ho10
        go_wp2_with fail
        refine bodyPost_ret (results_ino rfl _ _ (w.heap.size + 1) (inoOf z i) rfl hi10) rfl ⟨?_, st9.bel.trans (ho10.below (by omega))⟩
        rw [getIno, getErr, HP.out, Int.toNat_natCast, hg.out]; rfl
      · have hg : Hid (getOkB z i = false) := by show _ = _; unfold getOkB; rw [decide_eq_false hm]; simp
        rw [decide_eq_false hm]
        clear hm
        have hr9 := st9.r
        go_wp2_with (first | (refine wp_storeIno rfl (.tmp 4) (.tmp 90) rfl (w.heap.size + 1) .nil .nil rfl rfl hr9 ?_))
        intro w10 hi10 ho10
        go_wp2_with fail
        refine bodyPost_ret (results_ino rfl _ _ (w.heap.size + 1) .nil rfl hi10) rfl ⟨?_, st9.bel.trans (ho10.below (by omega))⟩
        rw [getIno, getErr, HP.out, Int.toNat_natCast, hg.out]; rfl

theorem inoEq_refl (x : Ino) : inoEq x x = true := (inoEq_iff x x).2 ⟨rfl, rfl, rfl, rfl, fun _ _ => rfl, rfl⟩
set_option maxRecDepth 100000 in
set_option maxHeartbeats 4000000 in
theorem inodeGets_walk (z : Nat → Int) (hz : Byt z) (a : Int) (w : World) (h0 : -9223372036854775808 ≤ a) (h1 : a ≤ 9223372036854775807) :
    Calls Try.prog 4 #[bval z, .int .i64 a] w fun e w' => e = .returned (.bool true) ∧ Below w.heap.size w w' := by
  have G := fun W => inoGet_any z hz a W h0 h1
  have R := fun W => rGet_any z hz a W h0 h1
  generalize getIno z a = x at G R
  generalize getErr z a = er at G R
  have HG := Lib.hid G
  have HR := Lib.hid R
  clear G R
  have hB := Blk.new w 23 256 z
  have hbl : Below w.heap.size w (w.alloc (.cells (Ks .u8 256 z).toArray 23)) := (Below.refl _ _).alloc (Nat.le_refl _) _
  have hal := zero_ino
  go_enter Try.func4, Try.ntmps4
  go_wp2_with (first | (refine wp_loadBlk rfl (.tmp 2) rfl w.heap.size z rfl hB ?_))
  refine (HG.out _).mono ?_
  rintro e w1 ⟨rfl, hb1⟩
  have hB1 := hB.below hb1 hB.lt
  have hbl1 : Below w.heap.size w w1 := hbl.trans (hb1.mono hbl.size)
  clear hB hbl hb1 HG
  have hlt1 := hB1.lt
  have hn1 := InoAt.new w1 .nil
  go_wp2_with (first | (refine wp_storeIno rfl (.tmp 5) (.tmp 13) rfl w1.heap.size x .nil rfl rfl hn1 ?_))
  intro w2 hi2 ho2
  have hB2 : Blk w2 w.heap.size 23 256 z := (hB1.alloc _).only ho2 (by omega)
  have hbl2 : Below w.heap.size w w2 := (hbl1.alloc hbl1.size _).trans (ho2.below hbl1.size)
  have hlt2 := hi2.lt
  clear hB1 hbl1 hn1 ho2
  go_wp2_with (first | (refine wp_loadBlk rfl (.tmp 2) rfl w.heap.size z rfl hB2 ?_))
  refine (HR.out _).mono ?_
  rintro e w3 ⟨rfl, hb3⟩
  have hi3 := hi2.below hb3 hlt2
  have hbl3 : Below w.heap.size w w3 := hbl2.trans (hb3.mono hbl2.size)
  have hs3 := hb3.size
  clear hB2 hi2 hbl2 hb3 HR
  have hn3 := InoAt.new w3 .nil
  go_wp2_with (first | (refine wp_storeIno rfl (.tmp 7) (.tmp 19) rfl w3.heap.size x .nil rfl rfl hn3 ?_))
  intro w4 hi4 ho4
  have hi5 : InoAt w4 w1.heap.size 27 x := (hi3.alloc _).only ho4 (by omega)
  have hbl4 : Below w.heap.size w w4 := (hbl3.alloc hbl3.size _).trans (ho4.below hbl3.size)
  clear hi3 hbl3 hn3 ho4 hal
  have q1 : ∀ W, (binOp .eql 27 x.val x.val).run Try.prog W = .ok (.bool true) W := fun W => by rw [run_eql_ino, inoEq_refl]
  have q2 : (er == er) = true := by simp
  go_wp2_with (first | (refine wp_loadIno rfl (.tmp 5) rfl w1.heap.size x rfl hi5 ?_) | (refine wp_loadIno rfl (.tmp 7) rfl w3.heap.size x rfl hi4 ?_))
  go_ret
  exact ⟨rfl, hbl4⟩
end Go.Proofs.Ytlgjpjccjklnnaa
