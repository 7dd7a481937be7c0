/- Texts of this claim, merged by a program (a claim may have 60 files): Pk3, Pk6, Pk8. -/
import Derived.Test.YtnbmmhoofilmfaaDoorK18
import Derived.Test.YtnbmmhoofilmfaaDoorK14
import Derived.Test.YtnbmmhoofilmfaaDoorK19
/- pack.withCommit. -/
namespace Go.Proofs.YtnbmmhoofilmfaaDoor
open Go.RowKit
set_option linter.unusedVariables false

theorem crcB_bd (B : Nat → Nat → Int) (k : Nat) : 0 ≤ crcB B k ∧ crcB B k < 4294967296 := by unfold crcB; omega
theorem Tab.kept {w w' : World} (h : Tab w) {row : Option Nat} (hb : w.grownBy w' row) (hg : row ≠ some 0) : Tab w' := fun i hi => (World.cell?_of_block (w := w) (hb.block _ h.lt (fun e => hg e.symm))).trans (h i hi)
theorem run_pieces (n : Nat) (hn : n ≤ 2048) (W : World) : (Instr.makeSlice 173 (.int .i64 (n : Int)) (.int .i64 (n : Int))).run Tryd.prog W = .ok (.slice (some ⟨W.heap.size, 0, none⟩) n n) (W.alloc (.cells (madeCells #[.slice none 0 0] n) 142)) := by
  have := run_mkrow (P := Tryd.prog) 173 142 (.slice none 0 0) 1 24 Tryd.underlying173 (by kernel_rfl) .i64 .i64 n (by omega) (by omega) W
  rwa [Nat.mul_one] at this
def mixP (q k i : Nat) : List Value := if i < k then [.slice (some ⟨q, i * 256, none⟩) 256 256] else [.slice none 0 0]
theorem mixP_len (q k i : Nat) : (mixP q k i).length = 1 := by unfold mixP; split <;> rfl
structure WcS (w : World) (q N cap : Nat) (B : Nat → Nat → Int) (p : Nat) (k : Nat) (W : World) : Prop where
  b : BOwn W q N cap B
  a : RArr W p 142 1 N (mixP q k)
  t : Tab W
  bel : Below w.heap.size w W

set_option maxRecDepth 100000 in
set_option maxHeartbeats 4000000 in
theorem packCommit_any (q N cap : Nat) (B : Nat → Nat → Int) (hBb : ∀ i, Byt (B i)) (s : Int) (hs : 0 ≤ s ∧ s < 4294967296) (hN : N ≤ 2048) (hroom : N + 1 ≤ cap)
    (w : World) (hB : BOwn w q N cap B) (hT : Tab w) :
    Calls Tryd.prog 51 #[.slice (some ⟨q, 0, none⟩) N cap, .int .u32 s] w fun e w' =>
      e = .returned (.tuple #[.slice (some ⟨q, 0, none⟩) (N + 1) cap, .int .i64 (errOf (commitOk s N) 2)]) ∧ BOwn w' q (N + 1) cap (snocB B N (commitZ s N (crcB B N))) ∧ w.grownBy w' (some q) := by
  have hal := zero_block
  have hmk := fun W => run_pieces N hN W
  have hA0 := RArr.made (m := 1) w #[.slice none 0 0] rfl (by omega) N 142
  rw [Nat.mul_one] at hA0
  have hL0 : Below w.heap.size w (w.alloc (.cells (madeCells #[.slice none 0 0] N) 142)) := (Below.refl _ _).alloc (Nat.le_refl _) _
  have st0 : Hid (WcS w q N cap B w.heap.size 0 (w.alloc (.cells (madeCells #[.slice none 0 0] N) 142))) := ⟨hB.below hL0, hA0.congr fun i _ => rfl, hT.below hL0 (Nat.le_refl _), hL0⟩
  have hqw := hB.lt
  have hTl := hT.lt
  clear hA0 hL0 hB hT
  go_enter Tryd.func51, Tryd.ntmps51
  go_wp2_with fail
  go_loopw [7, 15] (fun _ u wr => ∃ k : Nat, k ≤ N ∧ u = .int .i64 (k : Int) ∧ WcS w q N cap B w.heap.size k wr) (fun _ u _ => N - (intOf u).toNat)
  case atStart => exact ⟨0, by omega, rfl, st0.out⟩
  case round =>
    clear st0
    obtain ⟨k, hk, rfl, st⟩ := hrel
    by_cases hlt : k < N
    · have hlt' : (k : Int) < (N : Int) := by omega
      have k0 : (0 : Int) ≤ (k : Int) := by omega
      have hsl := fun W => run_sliceBlkAll q (k * 256) W
      have hth := st.a.there hlt
      have hcp : ∃ u, wr.cell? ⟨w.heap.size, k, none⟩ = some u := by
        have := (hth 0 (by omega)).1
        rw [Nat.mul_one, Nat.add_zero] at this
        exact Option.isSome_iff_exists.1 this
      obtain ⟨u0, hcp⟩ := hcp
      have hfr : wr.frozen? ⟨w.heap.size, k, none⟩ = false := by have := (hth 0 (by omega)).2; rwa [Nat.mul_one, Nat.add_zero] at this
      have ha2 := st.a.cellset hlt (j := 0) (by omega) (mixP_len q k) (.slice (some ⟨q, k * 256, none⟩) 256 256)
      rw [Nat.mul_one, Nat.add_zero] at ha2
      have ho := Only.setCell wr ⟨w.heap.size, k, none⟩ (.slice (some ⟨q, k * 256, none⟩) 256 256)
      have st1 : Hid (WcS w q N cap B w.heap.size (k + 1) (wr.setCell ⟨w.heap.size, k, none⟩ (.slice (some ⟨q, k * 256, none⟩) 256 256))) :=
        ⟨st.b.kept ho.grown (by intro e; injection e with e; simp at e; omega), ha2.congr fun i hi => by
          unfold mixP
          by_cases e : i = k
          · subst e; rw [if_pos rfl, if_neg (by omega), if_pos (by omega)]; rfl
          · rw [if_neg e]
            by_cases e2 : i < k
            · rw [if_pos e2, if_pos (by omega)]
            · rw [if_neg e2, if_neg (by omega)], st.t.kept ho.grown (by intro e; injection e with e; change w.heap.size = _ at e; omega), st.bel.trans (ho.below (Nat.le_refl _))⟩
      clear st hth ha2 ho
      go_wp2_with fail
      go_roundw
      case rel => first | exact ⟨k + 1, by omega, by go_num, st1.out⟩ | exact ⟨k + 1, by omega, rfl, st1.out⟩
      case measure => simp [intOf]; omega
    · obtain rfl : k = N := by omega
      have hp : Pieces wr (some ⟨w.heap.size, 0, none⟩) k (fun _ => 256) B := ⟨fun i hi => ⟨_, _, rfl, some ⟨q, i * 256, none⟩, 256, by
        have := st.a.seg i hi 0 (.slice (some ⟨q, i * 256, none⟩) 256 256) (by unfold mixP; rw [if_pos hi]; rfl)
        rwa [Nat.mul_one, Nat.add_zero] at this, .inr ⟨q, i * 256, rfl, fun j hj => by
          have := st.b.seg i hi j _ (Ks_get .u8 256 (B i) j hj)
          rwa [Nat.zero_add] at this⟩, by decide⟩⟩
      have HP := Lib.hid hp
      have HT := Lib.hid st.t
      have hB := st.b
      have hL := st.bel
      have HC : Hid (((4294967295 - foldP 4294967295 (fun _ => 256) B k : Nat) : Int) = crcB B k) := rfl
      obtain ⟨i0, hi0, hz0⟩ := info_blkS
      have hcb := crcB_bd B k
      clear st hp
      go_wp2_with fail
      refine (crcSum_any _ k k _ _ _ (by omega) HP.out hBb HT.out).mono ?_
      rintro e wx ⟨rfl, rfl⟩
      rw [HC.out]
      obtain ⟨cc, hcc⟩ : ∃ cc, cc = crcB B k := ⟨_, rfl⟩
      rw [← hcc]
      rw [← hcc] at hcb
      have HCC := Lib.hid hcc
      clear HP HT HC hcc
      go_wp2_with fail
      refine (writeCommit_any s k cc _ hs (by omega) hcb).mono ?_
      rintro e w1 ⟨rfl, hb1⟩
      have hB1 := hB.below hb1
      have hL1 := hL.trans (hb1.mono hL.size)
      have hlt1 := hB1.lt
      have hn1 := Blk.new w1 32 256 (fun _ => 0)
      have hB1' := hB1.below ((Below.refl _ _).alloc (Nat.le_refl _) (.cells (Ks .u8 256 (fun _ => 0)).toArray 32))
      have hL1' := hL1.alloc hL1.size (.cells (Ks .u8 256 (fun _ => 0)).toArray 32)
      clear hB hL hb1 hB1
      go_wp2_with (first | (refine wp_storeBlk rfl (.tmp 8) (.tmp 33) rfl w1.heap.size (commitZ s k cc) _ rfl rfl hn1 ?_))
      intro w2 hZ2 ho2
      have hB2 := hB1'.kept ho2.grown (by intro e; injection e with e; omega)
      have hL2 := hL1'.trans (ho2.below hL1.size)
      have hB3 := hB2.below ((Below.refl _ _).alloc (Nat.le_refl _) (.cells (Ks .u8 256 (commitZ s k cc)).toArray 32))
      have hL3 := hL2.alloc hL2.size (.cells (Ks .u8 256 (commitZ s k cc)).toArray 32)
      have HG := Lib.hid (grown_below (row := some q) hL3)
      clear hn1 hB1' hL1' ho2 hB2 hL2 hL3 hL1
      go_wp2_with (first | (refine wp_loadBlkG rfl (.tmp 8) rfl w1.heap.size (commitZ s k cc) rfl hZ2 ?_) | (refine wpList_slice1 rfl 24 1 0 (.tmp 36) rfl (bval (commitZ s k cc)) rfl _ _ (run_block1 (commitZ s k cc) _) ?_) | (refine wpList_append_own_spare _ rfl (.tmp 35) (.tmp 37) 24 rfl 0 32 i0 256 Tryd.underlying24 hi0 hz0 q k cap (Cs (bkF B) k) rfl hB3 ⟨w2.heap.size, 0, none⟩ 1 1 (Ks .u8 256 (commitZ s k cc)) rfl (by simp [Ks]) news_block (Ks_oneL _ _ _) hroom ?_))
      intro w4 ho4 hg4
      go_wp2_with fail
      go_ret2
      exact ⟨rfl, by have := BOwn.snoc ho4; rw [HCC.out] at this; exact this, grown_trans HG.out hg4⟩
end Go.Proofs.YtnbmmhoofilmfaaDoor

/- Transactions' blocks: row by row. No walk. -/
namespace Go.Proofs.YtnbmmhoofilmfaaDoor
open Go.RowKit
set_option linter.unusedVariables false

theorem RSeg.sub {w : World} {b off m n : Nat} {f : Nat → List Value} (h : RSeg w b off m n f) (r k : Nat) (hk : r + k ≤ n) : RSeg w b (off + r * m) m k (fun i => f (r + i)) := fun i hi j v hj => by
  have := h (r + i) (by omega) j v hj
  rw [show off + r * m + i * m + j = off + (r + i) * m + j by rw [Nat.add_mul]; omega]
  exact this
theorem zero_bytJ : Byt (fun _ => 0) := fun _ => ⟨Int.le_refl 0, (by decide : (0 : Int) < 256)⟩
theorem pk0_byt (t : Tr) (ht : t.Ok) (i : Nat) : Byt (pk0 t i) := by
  unfold pk0
  split
  · split
    · unfold jdZ; split
      · exact wz_byt _
      · exact zero_bytJ
    · unfold escZ; split
      · exact byt_over (ht.cd _) (byt_byteOf _) _ _
      · exact ht.cd _
  · unfold revZ; split
    · exact wz_byt _
    · exact zero_bytJ
theorem commitZ_byt (s n v : Int) : Byt (commitZ s n v) := by
  unfold commitZ; split
  · exact wz_byt _
  · exact zero_bytJ
theorem pkB_byt (t : Tr) (ht : t.Ok) (i : Nat) : Byt (pkB t i) := by
  unfold pkB; split
  · exact pk0_byt t ht i
  · exact commitZ_byt _ _ _
theorem wds_of {b : Nat → Int} {n : Nat} (h : riseT b n = true) (h0 : ∀ i, n ≤ i → b i = 0) : Wds b := fun i => by
  by_cases hi : i < n
  · have := riseT_bd h i hi; omega
  · rw [h0 i (by omega)]; omega
theorem rise_sub {b : Nat → Int} {n r k : Nat} (h : riseT b n = true) (hk : r + k ≤ n) : riseB (fun j => b (r + j)) k = true := by
  rw [riseB_iff]
  intro i h0 hi
  have := ((riseT_iff b n).1 h (r + i) (by omega)).1
  rw [if_neg (by omega)] at this
  rw [show r + (i - 1) = r + i - 1 by omega]
  exact this
/-- a row of copies lays its blocks -/
theorem pk0_desc {t : Tr} {r : Nat} (hr : r < (t.n + 29) / 30) {i : Nat} (hi : i < 31 * r + 1 + min 30 (t.n - 30 * r)) :
    (if i < 31 * r then pk0 t i else if i = 31 * r then jdZ t.s (min 30 (t.n - 30 * r)) (fun k => t.cb (30 * r + k)) (fun j => escB (t.cd (30 * r + j))) else escZ (t.cd (30 * r + (i - 31 * r - 1)))) = pk0 t i := by
  have hd : i < dN t.n := by unfold dN; omega
  by_cases h : i < 31 * r
  · rw [if_pos h]
  rw [if_neg h]
  unfold pk0
  rw [if_pos hd]
  by_cases h0 : i = 31 * r
  · rw [if_pos h0, if_pos (by omega), show i / 31 = r by omega]
  · rw [if_neg h0, if_neg (by omega), show i / 31 = r by omega, show i % 31 - 1 = i - 31 * r - 1 by omega]
theorem pk0_rev {t : Tr} {r : Nat} {i : Nat} (hi : i < dN t.n + r + 1) :
    (if i < dN t.n + r then pk0 t i else revZ t.s (min 60 (t.m - 60 * r)) (fun k => t.rv (60 * r + k))) = pk0 t i := by
  by_cases h : i < dN t.n + r
  · rw [if_pos h]
  rw [if_neg h]
  obtain rfl : i = dN t.n + r := by omega
  unfold pk0
  rw [if_neg (by omega), show dN t.n + r - dN t.n = r by omega]
theorem jdOk_row {t : Tr} (h : t.may = true) {r : Nat} (hr : r < (t.n + 29) / 30) : jdOk t.s (min 30 (t.n - 30 * r)) (fun k => t.cb (30 * r + k)) = true := by
  obtain ⟨h1, _, h2, _⟩ := t.may_iff.1 h
  unfold jdOk
  rw [h1, rise_sub h2 (by omega), decide_eq_true (by omega)]; rfl
theorem revOk_row {t : Tr} (h : t.may = true) {r : Nat} (hr : r < rN t.m) : revOk t.s (min 60 (t.m - 60 * r)) (fun k => t.rv (60 * r + k)) = true := by
  unfold rN at hr
  obtain ⟨h1, _, _, h2⟩ := t.may_iff.1 h
  unfold revOk
  rw [h1, rise_sub h2 (by omega), decide_eq_true (by omega)]; rfl
theorem commitOk_c {t : Tr} (h : t.may = true) (hs : t.size ≤ 255) : commitOk t.s t.c = true := by
  obtain ⟨h1, h0, _, _⟩ := t.may_iff.1 h
  have := size_c h
  unfold commitOk
  have hc : 0 < t.c := by unfold Tr.c dN rN; omega
  rw [h1, decide_eq_true (by omega)]; rfl
/-- how many blocks stand when so many rows of copies are laid -/
def cntC (n r : Nat) : Nat := if r < (n + 29) / 30 then 31 * r else dN n
theorem cntC_row {n r : Nat} (hr : r < (n + 29) / 30) : cntC n r = 31 * r ∧ cntC n (r + 1) = 31 * r + 1 + min 30 (n - 30 * r) := by
  unfold cntC dN
  rw [if_pos hr]
  refine ⟨rfl, ?_⟩
  split <;> omega
theorem cntC_end (n : Nat) : cntC n ((n + 29) / 30) = dN n := by unfold cntC; rw [if_neg (by omega)]
theorem cntC_zero (n : Nat) : cntC n 0 = 0 := by unfold cntC dN; split <;> omega
theorem cntC_le (n r : Nat) (hr : r ≤ (n + 29) / 30) : cntC n r ≤ dN n := by unfold cntC dN; split <;> omega
theorem BOwn.none {W : World} {q cap : Nat} {B : Nat → Nat → Int} {cs : Array Value} (h : W.heap[q]? = some (.cells cs 32 (0, 0))) (hs : cs.size = cap * 256) (hc : cap ≤ maxLen) : BOwn W q 0 cap B :=
  ⟨by simp [Cs], .inr ⟨q, cap, cs, rfl, Nat.zero_le _, h, Nat.zero_le _, hc, hs, by simp [Cs]⟩⟩
theorem run_blocks0 (n : Nat) (hn : n ≤ 2048) (W : World) : (Instr.makeSlice 24 (.int .i64 0) (.int .i64 (n : Int))).run Tryd.prog W = .ok (.slice (some ⟨W.heap.size, 0, none⟩) 0 n) (W.alloc (.cells (madeCells (bval fun _ => 0).cells (n * 256)) 32)) := by
  obtain ⟨i, hi, hzz⟩ := Option.map_eq_some_iff.1 info_blk3
  simp only [Prod.mk.injEq] at hzz
  obtain ⟨hz, hs, hb⟩ := hzz
  have hr := run_make (P := Tryd.prog) W 24 32 i (bval fun _ => 0) Tryd.underlying24 hi hz .i64 .i64 0 (n : Int) (by omega) (by omega) (by rw [hb]; omega) (by omega)
  simp only [Int.toNat_natCast, hs] at hr
  exact hr
end Go.Proofs.YtnbmmhoofilmfaaDoor

/- Two rows of blocks: are they the same? slices.Equal, quernref15.SameBlocks. Printed by gen_pksame.py. -/
namespace Go.Proofs.YtnbmmhoofilmfaaDoor
open Go.RowKit
set_option linter.unusedVariables false

/-- the first so many blocks are the same -/
def eqBs (B C : Nat → Nat → Int) : Nat → Bool
  | 0 => true
  | k + 1 => eqBs B C k && eqB (B k) (C k) 256
theorem eqBs_succ (B C : Nat → Nat → Int) (k : Nat) : eqBs B C (k + 1) = (eqBs B C k && eqB (B k) (C k) 256) := rfl
theorem eqBs_iff (B C : Nat → Nat → Int) (n : Nat) : eqBs B C n = true ↔ ∀ i, i < n → ∀ j, j < 256 → B i j = C i j := by
  induction n with
  | zero => simp [eqBs]
  | succ n ih =>
    rw [eqBs_succ, Bool.and_eq_true, ih, eqB_iff]
    constructor
    · rintro ⟨h, g⟩ i hi
      by_cases e : i = n
      · rw [e]; exact g
      · exact h i (by omega)
    · intro h; exact ⟨fun i hi => h i (by omega), h n (by omega)⟩
theorem eqBs_no {B C : Nat → Nat → Int} {n k : Nat} (hk : k < n) (h : eqB (B k) (C k) 256 = false) : eqBs B C n = false := by
  cases e : eqBs B C n with
  | false => rfl
  | true =>
    have := (eqB_iff (B k) (C k) 256).2 ((eqBs_iff B C n).1 e k hk)
    rw [h] at this; cases this
def sameB (B C : Nat → Nat → Int) (n m : Nat) : Bool := (n == m) && eqBs B C n

set_option maxRecDepth 100000 in
set_option maxHeartbeats 4000000 in
theorem slicesEqual_any (a c : Option Addr) (n m cap cap' : Nat) (B C : Nat → Nat → Int) (hn : (n : Int) ≤ 9223372036854775807) (hm : (m : Int) ≤ 9223372036854775807) (w : World) (ha : RRow w a 256 n (bkF B)) (hc : RRow w c 256 m (bkF C)) :
    Calls Tryd.prog 137 #[.slice a n cap, .slice c m cap'] w fun e w' => e = .returned (.bool (sameB B C n m)) ∧ ∃ d, w' = w.drewN d := by
  by_cases hnm : n = m
  rotate_left
  · have hq : ((n : Int) == (m : Int)) = false := by rw [beq_eq_false_iff_ne]; omega
    have hq' : ((n : Int) != (m : Int)) = true := by rw [bne, hq]; rfl
    have HO : Hid (sameB B C n m = false) := by show _ = _; unfold sameB; rw [show (n == m) = false by rw [beq_eq_false_iff_ne]; exact hnm]; rfl
    clear hnm ha hc
    go_enter Tryd.func137, Tryd.ntmps137
    go_wp2_with fail
    go_ret
    exact ⟨by rw [HO.out]; rfl, 0, rfl⟩
  subst hnm
  have HA := Lib.hid ha
  have HC := Lib.hid hc
  have HS : Hid (∀ b, eqBs B C n = b → sameB B C n n = b) := fun b hb => by unfold sameB; rw [hb, beq_self_eq_true]; rfl
  clear ha hc
  go_enter Tryd.func137, Tryd.ntmps137
  go_wp2_with fail
  go_loopw [5, 13] (fun _ u wr => ∃ k : Nat, k ≤ n ∧ u = .int .i64 (k : Int) ∧ Hid (eqBs B C k = true) ∧ ∃ d, wr = w.drewN d) (fun _ u _ => n - (intOf u).toNat)
  case atStart => exact ⟨0, by omega, rfl, rfl, 0, rfl⟩
  case round =>
    obtain ⟨k, hk, rfl, HK, d, hd⟩ := hrel
    have hS : (∃ d, wr = w.drewN d) := ⟨d, hd⟩
    clear hd
    by_cases hlt : k < n
    · have hlt' : (k : Int) < (n : Int) := by omega
      have k0 : (0 : Int) ≤ (k : Int) := by omega
      obtain ⟨b, off, rfl, h1⟩ : ∃ b off, a = some ⟨b, off, none⟩ ∧ RSeg w b off 256 n (bkF B) := by
        rcases HA.out with h | h
        · omega
        · exact h
      obtain ⟨b2, off2, rfl, h2⟩ : ∃ b off, c = some ⟨b, off, none⟩ ∧ RSeg w b off 256 n (bkF C) := by
        rcases HC.out with h | h
        · omega
        · exact h
      have r1 := h1.range k hlt
      have r2 := h2.range k hlt
      clear h1 h2
      go_wp2_with fail
      refine wp_region_S (fun W => ∃ d, W = w.drewN d) (by kernel_rfl) (by kernel_rfl) (by obtain ⟨d, rfl⟩ := hS; exact ⟨d + 1, rfl⟩) ?_
      clear hS
      intro hne
      first | go_big_quiet_skip | (go_big_quiet_want; go_big_quiet_op; go_big_quiet_on)
      first | go_big_quiet_skip | (go_big_quiet_want; go_big_quiet_op; go_big_quiet_on)
      first | go_big_quiet_skip | (go_big_quiet_want; go_big_quiet_op; go_big_quiet_on)
      refine q_load rfl 32 (.tmp 18) rfl b (off + k * 256) rfl (bkF B k) _ (fun W h => by obtain ⟨d, rfl⟩ := h; exact r1) Tryd.underlying32 rfl (by rw [bkF_len]; exact info_block) ?_
      refine wpQuiet_frame (by simp only [Act.put, List.setIfInBounds_toArray, List.set_cons_succ, List.set_cons_zero]; exact rfl) ?_
      first | go_big_quiet_skip | (go_big_quiet_want; go_big_quiet_op; go_big_quiet_on)
      first | go_big_quiet_skip | (go_big_quiet_want; go_big_quiet_op; go_big_quiet_on)
      first | go_big_quiet_skip | (go_big_quiet_want; go_big_quiet_op; go_big_quiet_on)
      refine q_load rfl 32 (.tmp 22) rfl b2 (off2 + k * 256) rfl (bkF C k) _ (fun W h => by obtain ⟨d, rfl⟩ := h; exact r2) Tryd.underlying32 rfl (by rw [bkF_len]; exact info_block) ?_
      refine wpQuiet_frame (by simp only [Act.put, List.setIfInBounds_toArray, List.set_cons_succ, List.set_cons_zero]; exact rfl) ?_
      refine q_val rfl (.bool (!eqB (B k) (C k) 256)) (fun W => by
        refine Eq.trans (b := ((do pure (.value (← binOp .neq 32 (bval (B k)) (bval (C k))))) : Sem Next).run Tryd.prog W) (by kernel_rfl) ?_
        rw [Sem.run_bind, run_neq_block]; rfl) ?_
      refine wpQuiet_frame (by simp only [Act.put, List.setIfInBounds_toArray, List.set_cons_succ, List.set_cons_zero]; exact rfl) ?_
      refine wpQuiet_nil ?_
      intro w9 h9
      have hd9 := h9.out
      clear h9 hne r1 r2
      cases he : eqB (B k) (C k) 256 with
      | false =>
        have HO := Lib.hid (HS.out false (eqBs_no hlt he))
        clear he
        go_wp2_with fail
        go_ret
        exact ⟨by rw [HO.out]; rfl, hd9⟩
      | true =>
        have HK1 : Hid (eqBs B C (k + 1) = true) := by show _ = _; rw [eqBs_succ, HK.out, he]; rfl
        have HD9 := Lib.hid hd9
        clear he hd9
        go_wp2_with fail
        go_roundw
        case rel => first | exact ⟨k + 1, by omega, by go_num, HK1, HD9.out⟩ | exact ⟨k + 1, by omega, rfl, HK1, HD9.out⟩
        case measure => simp [intOf]; omega
    · obtain rfl : k = n := by omega
      have HO := Lib.hid (HS.out true HK.out)
      have HSS := Lib.hid hS
      clear hS
      go_wp2_with fail
      go_ret
      exact ⟨by rw [HO.out]; rfl, HSS.out⟩

set_option maxRecDepth 100000 in
set_option maxHeartbeats 4000000 in
theorem sameBlocks_any (a c : Option Addr) (n m cap cap' : Nat) (B C : Nat → Nat → Int) (hn : (n : Int) ≤ 9223372036854775807) (hm : (m : Int) ≤ 9223372036854775807) (w : World) (ha : RRow w a 256 n (bkF B)) (hc : RRow w c 256 m (bkF C)) :
    Calls Tryd.prog 9 #[.slice a n cap, .slice c m cap'] w fun e w' => e = .returned (.bool (sameB B C n m)) ∧ ∃ d, w' = w.drewN d := by
  by_cases hnm : n = m
  rotate_left
  · have hq : ((n : Int) == (m : Int)) = false := by rw [beq_eq_false_iff_ne]; omega
    have hq' : ((n : Int) != (m : Int)) = true := by rw [bne, hq]; rfl
    have HO : Hid (sameB B C n m = false) := by show _ = _; unfold sameB; rw [show (n == m) = false by rw [beq_eq_false_iff_ne]; exact hnm]; rfl
    clear hnm ha hc
    go_enter Tryd.func9, Tryd.ntmps9
    go_wp2_with fail
    go_ret
    exact ⟨by rw [HO.out]; rfl, 0, rfl⟩
  subst hnm
  have HA := Lib.hid ha
  have HC := Lib.hid hc
  have HS : Hid (∀ b, eqBs B C n = b → sameB B C n n = b) := fun b hb => by unfold sameB; rw [hb, beq_self_eq_true]; rfl
  clear ha hc
  go_enter Tryd.func9, Tryd.ntmps9
  go_wp2_with fail
  go_loopw [5] (fun  u wr => ∃ k : Nat, k ≤ n ∧ u = .int .i64 (k : Int) ∧ Hid (eqBs B C k = true) ∧ ∃ d, wr = w.drewN d) (fun  u _ => n - (intOf u).toNat)
  case atStart => exact ⟨0, by omega, rfl, rfl, 0, rfl⟩
  case round =>
    obtain ⟨k, hk, rfl, HK, d, hd⟩ := hrel
    have hS : (∃ d, wr = w.drewN d) := ⟨d, hd⟩
    clear hd
    by_cases hlt : k < n
    · have hlt' : (k : Int) < (n : Int) := by omega
      have k0 : (0 : Int) ≤ (k : Int) := by omega
      obtain ⟨b, off, rfl, h1⟩ : ∃ b off, a = some ⟨b, off, none⟩ ∧ RSeg w b off 256 n (bkF B) := by
        rcases HA.out with h | h
        · omega
        · exact h
      obtain ⟨b2, off2, rfl, h2⟩ : ∃ b off, c = some ⟨b, off, none⟩ ∧ RSeg w b off 256 n (bkF C) := by
        rcases HC.out with h | h
        · omega
        · exact h
      have r1 := h1.range k hlt
      have r2 := h2.range k hlt
      clear h1 h2
      go_wp2_with fail
      refine wp_region_S (fun W => ∃ d, W = w.drewN d) (by kernel_rfl) (by kernel_rfl) (by obtain ⟨d, rfl⟩ := hS; exact ⟨d + 1, rfl⟩) ?_
      clear hS
      intro hne
      first | go_big_quiet_skip | (go_big_quiet_want; go_big_quiet_op; go_big_quiet_on)
      first | go_big_quiet_skip | (go_big_quiet_want; go_big_quiet_op; go_big_quiet_on)
      first | go_big_quiet_skip | (go_big_quiet_want; go_big_quiet_op; go_big_quiet_on)
      refine q_load rfl 32 (.tmp 19) rfl b (off + k * 256) rfl (bkF B k) _ (fun W h => by obtain ⟨d, rfl⟩ := h; exact r1) Tryd.underlying32 rfl (by rw [bkF_len]; exact info_block) ?_
      refine wpQuiet_frame (by simp only [Act.put, List.setIfInBounds_toArray, List.set_cons_succ, List.set_cons_zero]; exact rfl) ?_
      first | go_big_quiet_skip | (go_big_quiet_want; go_big_quiet_op; go_big_quiet_on)
      first | go_big_quiet_skip | (go_big_quiet_want; go_big_quiet_op; go_big_quiet_on)
      first | go_big_quiet_skip | (go_big_quiet_want; go_big_quiet_op; go_big_quiet_on)
      refine q_load rfl 32 (.tmp 23) rfl b2 (off2 + k * 256) rfl (bkF C k) _ (fun W h => by obtain ⟨d, rfl⟩ := h; exact r2) Tryd.underlying32 rfl (by rw [bkF_len]; exact info_block) ?_
      refine wpQuiet_frame (by simp only [Act.put, List.setIfInBounds_toArray, List.set_cons_succ, List.set_cons_zero]; exact rfl) ?_
      refine q_val rfl (.bool (!eqB (B k) (C k) 256)) (fun W => by
        refine Eq.trans (b := ((do pure (.value (← binOp .neq 32 (bval (B k)) (bval (C k))))) : Sem Next).run Tryd.prog W) (by kernel_rfl) ?_
        rw [Sem.run_bind, run_neq_block]; rfl) ?_
      refine wpQuiet_frame (by simp only [Act.put, List.setIfInBounds_toArray, List.set_cons_succ, List.set_cons_zero]; exact rfl) ?_
      refine wpQuiet_nil ?_
      intro w9 h9
      have hd9 := h9.out
      clear h9 hne r1 r2
      cases he : eqB (B k) (C k) 256 with
      | false =>
        have HO := Lib.hid (HS.out false (eqBs_no hlt he))
        clear he
        go_wp2_with fail
        go_ret
        exact ⟨by rw [HO.out]; rfl, hd9⟩
      | true =>
        have HK1 : Hid (eqBs B C (k + 1) = true) := by show _ = _; rw [eqBs_succ, HK.out, he]; rfl
        have HD9 := Lib.hid hd9
        clear he hd9
        go_wp2_with fail
        go_roundw
        case rel => first | exact ⟨k + 1, by omega, by go_num, HK1, HD9.out⟩ | exact ⟨k + 1, by omega, rfl, HK1, HD9.out⟩
        case measure => simp [intOf]; omega
    · obtain rfl : k = n := by omega
      have HO := Lib.hid (HS.out true HK.out)
      have HSS := Lib.hid hS
      clear hS
      go_wp2_with fail
      go_ret
      exact ⟨by rw [HO.out]; rfl, HSS.out⟩
end Go.Proofs.YtnbmmhoofilmfaaDoor
