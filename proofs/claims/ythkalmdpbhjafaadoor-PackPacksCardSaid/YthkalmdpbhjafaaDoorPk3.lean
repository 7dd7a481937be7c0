/- pack.withCommit. -/
import Derived.Test.YthkalmdpbhjafaaDoorPk2
namespace Go.Proofs.YthkalmdpbhjafaaDoor
open Go.RowKit
set_option linter.unusedVariables false

theorem crcB_bd (B : Nat → Nat → Int) (k : Nat) : 0 ≤ crcB B k ∧ crcB B k < 4294967296 := by unfold crcB; omega
theorem Tab.kept {w w' : World} (h : Tab w) {row : Option Nat} (hb : w.grownBy w' row) (hg : row ≠ some 0) : Tab w' := fun i hi => (World.cell?_of_block (w := w) (hb.block _ h.lt (fun e => hg e.symm))).trans (h i hi)
theorem run_pieces (n : Nat) (hn : n ≤ 2048) (W : World) : (Instr.makeSlice 102 (.int .i64 (n : Int)) (.int .i64 (n : Int))).run Tryd.prog W = .ok (.slice (some ⟨W.heap.size, 0, none⟩) n n) (W.alloc (.cells (madeCells #[.slice none 0 0] n) 72)) := by
  have := run_mkrow (P := Tryd.prog) 102 72 (.slice none 0 0) 1 24 Tryd.underlying102 (by kernel_rfl) .i64 .i64 n (by omega) (by omega) W
  rwa [Nat.mul_one] at this
def mixP (q k i : Nat) : List Value := if i < k then [.slice (some ⟨q, i * 256, none⟩) 256 256] else [.slice none 0 0]
theorem mixP_len (q k i : Nat) : (mixP q k i).length = 1 := by unfold mixP; split <;> rfl
structure WcS (w : World) (q N cap : Nat) (B : Nat → Nat → Int) (p : Nat) (k : Nat) (W : World) : Prop where
  b : BOwn W q N cap B
  a : RArr W p 72 1 N (mixP q k)
  t : Tab W
  bel : Below w.heap.size w W

set_option maxRecDepth 100000 in
set_option maxHeartbeats 4000000 in
theorem packCommit_any (q N cap : Nat) (B : Nat → Nat → Int) (hBb : ∀ i, Byt (B i)) (s : Int) (hs : 0 ≤ s ∧ s < 4294967296) (hN : N ≤ 2048) (hroom : N + 1 ≤ cap)
    (w : World) (hB : BOwn w q N cap B) (hT : Tab w) :
    Calls Tryd.prog 36 #[.slice (some ⟨q, 0, none⟩) N cap, .int .u32 s] w fun e w' =>
      e = .returned (.tuple #[.slice (some ⟨q, 0, none⟩) (N + 1) cap, .int .i64 (errOf (commitOk s N) 2)]) ∧ BOwn w' q (N + 1) cap (snocB B N (commitZ s N (crcB B N))) ∧ w.grownBy w' (some q) := by
  have hal := zero_block
  have hmk := fun W => run_pieces N hN W
  have hA0 := RArr.made (m := 1) w #[.slice none 0 0] rfl (by omega) N 72
  rw [Nat.mul_one] at hA0
  have hL0 : Below w.heap.size w (w.alloc (.cells (madeCells #[.slice none 0 0] N) 72)) := (Below.refl _ _).alloc (Nat.le_refl _) _
  have st0 : Hid (WcS w q N cap B w.heap.size 0 (w.alloc (.cells (madeCells #[.slice none 0 0] N) 72))) := ⟨hB.below hL0, hA0.congr fun i _ => rfl, hT.below hL0 (Nat.le_refl _), hL0⟩
  have hqw := hB.lt
  have hTl := hT.lt
  clear hA0 hL0 hB hT
  go_enter Tryd.func36, Tryd.ntmps36
  go_wp2_with fail
  go_loopw [7, 15] (fun _ u wr => ∃ k : Nat, k ≤ N ∧ u = .int .i64 (k : Int) ∧ WcS w q N cap B w.heap.size k wr) (fun _ u _ => N - (intOf u).toNat)
  case atStart => exact ⟨0, by omega, rfl, st0.out⟩
  case round =>
    clear st0
    obtain ⟨k, hk, rfl, st⟩ := hrel
    by_cases hlt : k < N
    · have hlt' : (k : Int) < (N : Int) := by omega
      have k0 : (0 : Int) ≤ (k : Int) := by omega
      have hsl := fun W => run_sliceBlkAll q (k * 256) W
      have hth := st.a.there hlt
      have hcp : ∃ u, wr.cell? ⟨w.heap.size, k, none⟩ = some u := by
        have := (hth 0 (by omega)).1
        rw [Nat.mul_one, Nat.add_zero] at this
        exact Option.isSome_iff_exists.1 this
      obtain ⟨u0, hcp⟩ := hcp
      have hfr : wr.frozen? ⟨w.heap.size, k, none⟩ = false := by have := (hth 0 (by omega)).2; rwa [Nat.mul_one, Nat.add_zero] at this
      have ha2 := st.a.cellset hlt (j := 0) (by omega) (mixP_len q k) (.slice (some ⟨q, k * 256, none⟩) 256 256)
      rw [Nat.mul_one, Nat.add_zero] at ha2
      have ho := Only.setCell wr ⟨w.heap.size, k, none⟩ (.slice (some ⟨q, k * 256, none⟩) 256 256)
      have st1 : Hid (WcS w q N cap B w.heap.size (k + 1) (wr.setCell ⟨w.heap.size, k, none⟩ (.slice (some ⟨q, k * 256, none⟩) 256 256))) :=
        ⟨st.b.kept ho.grown (by intro e; injection e with e; simp at e; omega), ha2.congr fun i hi => by
          unfold mixP
          by_cases e : i = k
          · subst e; rw [if_pos rfl, if_neg (by omega), if_pos (by omega)]; rfl
          · rw [if_neg e]
            by_cases e2 : i < k
            · rw [if_pos e2, if_pos (by omega)]
            · rw [if_neg e2, if_neg (by omega)], st.t.kept ho.grown (by intro e; injection e with e; change w.heap.size = _ at e; omega), st.bel.trans (ho.below (Nat.le_refl _))⟩
      clear st hth ha2 ho
      go_wp2_with fail
      go_roundw
      case rel => first | exact ⟨k + 1, by omega, by go_num, st1.out⟩ | exact ⟨k + 1, by omega, rfl, st1.out⟩
      case measure => simp [intOf]; omega
    · obtain rfl : k = N := by omega
      have hp : Pieces wr (some ⟨w.heap.size, 0, none⟩) k (fun _ => 256) B := ⟨fun i hi => ⟨_, _, rfl, some ⟨q, i * 256, none⟩, 256, by
        have := st.a.seg i hi 0 (.slice (some ⟨q, i * 256, none⟩) 256 256) (by unfold mixP; rw [if_pos hi]; rfl)
        rwa [Nat.mul_one, Nat.add_zero] at this, .inr ⟨q, i * 256, rfl, fun j hj => by
          have := st.b.seg i hi j _ (Ks_get .u8 256 (B i) j hj)
          rwa [Nat.zero_add] at this⟩, by decide⟩⟩
      have HP := Lib.hid hp
      have HT := Lib.hid st.t
      have hB := st.b
      have hL := st.bel
      have HC : Hid (((4294967295 - foldP 4294967295 (fun _ => 256) B k : Nat) : Int) = crcB B k) := rfl
      obtain ⟨i0, hi0, hz0⟩ := info_blkS
      have hcb := crcB_bd B k
      clear st hp
      go_wp2_with fail
      refine (crcSum_any _ k k _ _ _ (by omega) HP.out hBb HT.out).mono ?_
      rintro e wx ⟨rfl, rfl⟩
      rw [HC.out]
      obtain ⟨cc, hcc⟩ : ∃ cc, cc = crcB B k := ⟨_, rfl⟩
      rw [← hcc]
      rw [← hcc] at hcb
      have HCC := Lib.hid hcc
      clear HP HT HC hcc
      go_wp2_with fail
      refine (writeCommit_any s k cc _ hs (by omega) hcb).mono ?_
      rintro e w1 ⟨rfl, hb1⟩
      have hB1 := hB.below hb1
      have hL1 := hL.trans (hb1.mono hL.size)
      have hlt1 := hB1.lt
      have hn1 := Blk.new w1 40 256 (fun _ => 0)
      have hB1' := hB1.below ((Below.refl _ _).alloc (Nat.le_refl _) (.cells (Ks .u8 256 (fun _ => 0)).toArray 40))
      have hL1' := hL1.alloc hL1.size (.cells (Ks .u8 256 (fun _ => 0)).toArray 40)
      clear hB hL hb1 hB1
      go_wp2_with (first | (refine wp_storeBlk rfl (.tmp 8) (.tmp 33) rfl w1.heap.size (commitZ s k cc) _ rfl rfl hn1 ?_))
      intro w2 hZ2 ho2
      have hB2 := hB1'.kept ho2.grown (by intro e; injection e with e; omega)
      have hL2 := hL1'.trans (ho2.below hL1.size)
      have hB3 := hB2.below ((Below.refl _ _).alloc (Nat.le_refl _) (.cells (Ks .u8 256 (commitZ s k cc)).toArray 40))
      have hL3 := hL2.alloc hL2.size (.cells (Ks .u8 256 (commitZ s k cc)).toArray 40)
      have HG := Lib.hid (grown_below (row := some q) hL3)
      clear hn1 hB1' hL1' ho2 hB2 hL2 hL3 hL1
      go_wp2_with (first | (refine wp_loadBlkG rfl (.tmp 8) rfl w1.heap.size (commitZ s k cc) rfl hZ2 ?_) | (refine wpList_slice1 rfl 31 1 0 (.tmp 36) rfl (bval (commitZ s k cc)) rfl _ _ (run_block1 (commitZ s k cc) _) ?_) | (refine wpList_append_own_spare _ rfl (.tmp 35) (.tmp 37) 31 rfl 0 40 i0 256 Tryd.underlying31 hi0 hz0 q k cap (Cs (bkF B) k) rfl hB3 ⟨w2.heap.size, 0, none⟩ 1 1 (Ks .u8 256 (commitZ s k cc)) rfl (by simp [Ks]) news_block (Ks_oneL _ _ _) hroom ?_))
      intro w4 ho4 hg4
      go_wp2_with fail
      go_ret2
      exact ⟨rfl, by have := BOwn.snoc ho4; rw [HCC.out] at this; exact this, grown_trans HG.out hg4⟩
end Go.Proofs.YthkalmdpbhjafaaDoor
