/- pack.withRevokes, pack.withCommit. -/
import Derived.Test.YthkalmdpbhjafaaDoorPk0
import Derived.Test.YthkalmdpbhjafaaDoorAtN
import Derived.Deep.DeepAppendRoom
namespace Go.Proofs.YthkalmdpbhjafaaDoor
open Go.RowKit
set_option linter.unusedVariables false

/-- a slice of blocks in an array of one's own, with room -/
def BOwn (W : World) (q N cap : Nat) (B : Nat → Nat → Int) : Prop := W.ownsRow 0 40 256 (.slice (some ⟨q, 0, none⟩) N cap) N (Cs (bkF B) N)
theorem BOwn.kept {W W' : World} {q N cap : Nat} {B : Nat → Nat → Int} {row : Option Nat} (h : BOwn W q N cap B) (hg : W.grownBy W' row) (hne : row ≠ some q) : BOwn W' q N cap B :=
  World.ownsRow.kept h hg (.inr (fun e => hne e.symm))
theorem BOwn.lt {W : World} {q N cap : Nat} {B : Nat → Nat → Int} (h : BOwn W q N cap B) : q < W.heap.size := by
  rcases h.2 with ⟨hv, _⟩ | ⟨g, cap', cur, hv, _, hg, _⟩
  · cases hv
  · cases hv; exact (Array.getElem?_eq_some_iff.1 hg).1
theorem BOwn.below {W W' : World} {q N cap : Nat} {B : Nat → Nat → Int} (h : BOwn W q N cap B) (hb : Below W.heap.size W W') : BOwn W' q N cap B :=
  h.kept (grown_below (row := none) hb) (fun e => by cases e)
theorem BOwn.congr {W : World} {q N cap : Nat} {B B' : Nat → Nat → Int} (h : BOwn W q N cap B) (e : ∀ i, i < N → ∀ k, k < 256 → B i k = B' i k) : BOwn W q N cap B' := by
  unfold BOwn
  rw [← Cs_congr (f := bkF B) (g := bkF B') (n := N) fun i hi => Ks_congr fun k hk => e i hi k hk]
  exact h
theorem BOwn.seg {W : World} {q N cap : Nat} {B : Nat → Nat → Int} (h : BOwn W q N cap B) : RSeg W q 0 256 N (bkF B) := RMine.seg (base := 0) (e := 40) (m := 256) (cap := cap) h (bkF_len B)
theorem BOwn.le {W : World} {q N cap : Nat} {B : Nat → Nat → Int} (h : BOwn W q N cap B) : N ≤ cap ∧ cap ≤ maxLen := by
  rcases h.2 with ⟨hv, _⟩ | ⟨g, cap', cur, hv, _, hg, h1, h2, _⟩
  · cases hv
  · cases hv; exact ⟨h1, h2⟩
theorem BOwn.snoc {W : World} {q N cap : Nat} {B : Nat → Nat → Int} {z : Nat → Int} (h : W.ownsRow 0 40 256 (.slice (some ⟨q, 0, none⟩) (N + 1) cap) (N + 1) (Cs (bkF B) N ++ Ks .u8 256 z)) : BOwn W q (N + 1) cap (fun i => if i < N then B i else z) := by
  unfold BOwn
  rw [Cs_succ, Cs_congr (f := bkF fun i => if i < N then B i else z) (g := bkF B) (n := N) (fun i hi => by show Ks _ _ (if i < N then B i else z) = _; rw [if_pos hi]; rfl)]
  rw [show bkF (fun i => if i < N then B i else z) N = Ks .u8 256 z by show Ks _ _ (if N < N then B N else z) = _; rw [if_neg (Nat.lt_irrefl _)]]
  exact h
theorem news_block {W : World} {z : Nat → Int} : ∀ (j : Nat) (u : Value), (Ks .u8 256 z)[j]? = some u → (W.alloc (.cells (Ks .u8 256 z).toArray 40)).cell? ((⟨W.heap.size, 0, none⟩ : Addr).add j) = some u := fun j u hj => by
  rw [addr_add, Nat.zero_add]
  exact cell_of_heap (heap_alloc_new W _) (by simpa using hj)
/-- blocks and one more -/
def snocB (B : Nat → Nat → Int) (N : Nat) (z : Nat → Int) (i : Nat) : Nat → Int := if i < N then B i else z
theorem run_block1 (z : Nat → Int) (W : World) : (Instr.buildSlice 31 1 #[(0, bval z)]).run Tryd.prog W = .ok (.slice (some ⟨W.heap.size, 0, none⟩) 1 1) (W.alloc (.cells (Ks .u8 256 z).toArray 40)) := by kernel_rfl
theorem info_blk3 : (Tryd.prog.info? 40).map (fun i => (i.zero, i.size, i.bytes)) = some (some (bval fun _ => 0), 256, 256) := by kernel_rfl
theorem info_blkS : ∃ i, Tryd.prog.info? 40 = some i ∧ i.size = 256 := by
  obtain ⟨i, hi, hz⟩ := Option.map_eq_some_iff.1 info_blk3
  simp only [Prod.mk.injEq] at hz
  exact ⟨i, hi, hz.2.1⟩
theorem run_num32 (n : Nat) (hn : n ≤ 2048) (W : World) : (Instr.makeSlice 70 (.int .i64 (n : Int)) (.int .i64 (n : Int))).run Tryd.prog W = .ok (.slice (some ⟨W.heap.size, 0, none⟩) n n) (W.alloc (.cells (madeCells #[.int .u32 0] n) 22)) := by
  have := run_mkrow (P := Tryd.prog) 70 22 (.int .u32 0) 1 4 Tryd.underlying70 info_u32 .i64 .i64 n (by omega) (by omega) W
  rwa [Nat.mul_one] at this
/-- rows made so far -/
def mixN (rv : Nat → Int) (k i : Nat) : List Value := if i < k then [.int .u32 (rv i)] else [.int .u32 0]
theorem mixN_len (rv : Nat → Int) (k i : Nat) : (mixN rv k i).length = 1 := by unfold mixN; split <;> rfl
structure WrS (w : World) (q N cap : Nat) (B : Nat → Nat → Int) (ra : Option Addr) (m : Nat) (rv : Nat → Int) (p : Nat) (k : Nat) (W : World) : Prop where
  b : BOwn W q N cap B
  r : RRow W ra 1 m (inF rv)
  a : RArr W p 22 1 m (mixN rv k)
  bel : Below w.heap.size w W

set_option maxRecDepth 100000 in
set_option maxHeartbeats 4000000 in
theorem packRevokes_any (q N cap : Nat) (B : Nat → Nat → Int) (s : Int) (ra : Option Addr) (m rc : Nat) (rv : Nat → Int) (hs : 0 ≤ s ∧ s < 4294967296) (hm : m ≤ 2048) (hrv : Wds rv) (hroom : N + 1 ≤ cap)
    (w : World) (hB : BOwn w q N cap B) (hr : RRow w ra 1 m (inF rv)) (hrl : ∀ b off, ra = some ⟨b, off, none⟩ → b < w.heap.size) :
    Calls Tryd.prog 35 #[.slice (some ⟨q, 0, none⟩) N cap, .int .u32 s, .slice ra m rc] w fun e w' =>
      e = .returned (.tuple #[.slice (some ⟨q, 0, none⟩) (N + 1) cap, .int .i64 (errOf (revOk s m rv) 2)]) ∧ BOwn w' q (N + 1) cap (snocB B N (revZ s m rv)) ∧ w.grownBy w' (some q) := by
  have hal := zero_block
  have hmk := fun W => run_num32 m hm W
  have hA0 := RArr.made (m := 1) w #[.int .u32 0] rfl (by omega) m 22
  rw [Nat.mul_one] at hA0
  have hL0 : Below w.heap.size w (w.alloc (.cells (madeCells #[.int .u32 0] m) 22)) := (Below.refl _ _).alloc (Nat.le_refl _) _
  have st0 : Hid (WrS w q N cap B ra m rv w.heap.size 0 (w.alloc (.cells (madeCells #[.int .u32 0] m) 22))) := ⟨hB.below hL0, hr.alloc _, hA0.congr fun i _ => rfl, hL0⟩
  have hqw := hB.lt
  have HRL : Hid (∀ b off, ra = some ⟨b, off, none⟩ → b < w.heap.size) := hrl
  clear hA0 hL0 hB hr hrl
  go_enter Tryd.func35, Tryd.ntmps35
  go_wp2_with fail
  go_loopw [9, 10, 18] (fun _ _ u wr => ∃ k : Nat, k ≤ m ∧ u = .int .i64 (k : Int) ∧ WrS w q N cap B ra m rv w.heap.size k wr) (fun _ _ u _ => m - (intOf u).toNat)
  case atStart => exact ⟨0, by omega, rfl, st0.out⟩
  case round =>
    clear st0
    obtain ⟨k, hk, rfl, st⟩ := hrel
    by_cases hlt : k < m
    · have hlt' : (k : Int) < (m : Int) := by omega
      have k0 : (0 : Int) ≤ (k : Int) := by omega
      obtain ⟨b, off, rfl, hsg⟩ : ∃ b off, ra = some ⟨b, off, none⟩ ∧ RSeg wr b off 1 m (inF rv) := by
        rcases st.r with h | h
        · omega
        · exact h
      have hcell : wr.cell? ⟨b, off + k, none⟩ = some (.int .i64 (rv k)) := by have := hsg k hlt 0 _ rfl; rwa [Nat.mul_one, Nat.add_zero] at this
      have hw : IntKind.u32.wrap (rv k) = rv k := IntWalk.u32_in _ (by have := hrv k; omega)
      have hth := st.a.there hlt
      have hcp : ∃ u, wr.cell? ⟨w.heap.size, k, none⟩ = some u := by
        have := (hth 0 (by omega)).1
        rw [Nat.mul_one, Nat.add_zero] at this
        exact Option.isSome_iff_exists.1 this
      obtain ⟨u0, hcp⟩ := hcp
      have hfr : wr.frozen? ⟨w.heap.size, k, none⟩ = false := by have := (hth 0 (by omega)).2; rwa [Nat.mul_one, Nat.add_zero] at this
      have ha2 := st.a.cellset hlt (j := 0) (by omega) (mixN_len rv k) (.int .u32 (rv k))
      rw [Nat.mul_one, Nat.add_zero] at ha2
      have ho := Only.setCell wr ⟨w.heap.size, k, none⟩ (.int .u32 (rv k))
      have st1 : Hid (WrS w q N cap B (some ⟨b, off, none⟩) m rv w.heap.size (k + 1) (wr.setCell ⟨w.heap.size, k, none⟩ (.int .u32 (rv k)))) :=
        ⟨st.b.kept (row := some w.heap.size) ⟨rfl, rfl, rfl, by simp [World.setCell], fun x hx hne => ho.block x (fun e => hne (by rw [e]))⟩ (by intro e; injection e with e; omega), .inr ⟨b, off, rfl, fun i hi j v hj => by
          have hbl : b < w.heap.size := HRL.out b off rfl
          exact (ho.cell (p := ⟨b, off + i * 1 + j, none⟩) (by show b ≠ w.heap.size; omega)).trans (hsg i hi j v hj)⟩, ha2.congr fun i hi => by
          unfold mixN
          by_cases e : i = k
          · subst e; rw [if_pos rfl, if_neg (by omega), if_pos (by omega)]; rfl
          · rw [if_neg e]
            by_cases e2 : i < k
            · rw [if_pos e2, if_pos (by omega)]
            · rw [if_neg e2, if_neg (by omega)], st.bel.trans (ho.below (Nat.le_refl _))⟩
      clear st hsg hth ha2 ho
      go_wp2_with fail
      go_roundw
      case rel => first | exact ⟨k + 1, by omega, by go_num, st1.out⟩ | exact ⟨k + 1, by omega, rfl, st1.out⟩
      case measure => simp [intOf]; omega
    · obtain rfl : k = m := by omega
      have hnum : NumRow wr (some ⟨w.heap.size, 0, none⟩) k rv := .inr ⟨_, _, rfl, fun i hi => by
        have := st.a.seg i hi 0 (.int .u32 (rv i)) (by unfold mixN; rw [if_pos hi]; rfl)
        rwa [Nat.mul_one, Nat.add_zero] at this⟩
      have hB := st.b
      have hL := st.bel
      obtain ⟨i0, hi0, hz0⟩ := info_blkS
      clear st
      go_wp2_with fail
      refine (writeRevoke_any s _ k k rv hs hrv (by omega) _ hnum).mono ?_
      rintro e w1 ⟨rfl, hb1⟩
      have hB1 := hB.below hb1
      have hL1 := hL.trans (hb1.mono hL.size)
      have hlt1 := hB1.lt
      have hn1 := Blk.new w1 40 256 (fun _ => 0)
      have hB1' := hB1.below ((Below.refl _ _).alloc (Nat.le_refl _) (.cells (Ks .u8 256 (fun _ => 0)).toArray 40))
      have hL1' := hL1.alloc hL1.size (.cells (Ks .u8 256 (fun _ => 0)).toArray 40)
      clear hB hL hnum hb1 hB1
      go_wp2_with (first | (refine wp_storeBlk rfl (.tmp 11) (.tmp 33) rfl w1.heap.size (revZ s k rv) _ rfl rfl hn1 ?_))
      intro w2 hZ2 ho2
      have hB2 := hB1'.kept ho2.grown (by intro e; injection e with e; omega)
      have hL2 := hL1'.trans (ho2.below hL1.size)
      have hB3 := hB2.below ((Below.refl _ _).alloc (Nat.le_refl _) (.cells (Ks .u8 256 (revZ s k rv)).toArray 40))
      have hL3 := hL2.alloc hL2.size (.cells (Ks .u8 256 (revZ s k rv)).toArray 40)
      have HG := Lib.hid (grown_below (row := some q) hL3)
      clear hn1 hB1' hL1' ho2 hB2 hL2 hL3 hL1
      go_wp2_with (first | (refine wp_loadBlkG rfl (.tmp 11) rfl w1.heap.size (revZ s k rv) rfl hZ2 ?_) | (refine wpList_slice1 rfl 31 1 0 (.tmp 36) rfl (bval (revZ s k rv)) rfl _ _ (run_block1 (revZ s k rv) _) ?_) | (refine wpList_append_own_spare _ rfl (.tmp 35) (.tmp 37) 31 rfl 0 40 i0 256 Tryd.underlying31 hi0 hz0 q N cap (Cs (bkF B) N) rfl hB3 ⟨w2.heap.size, 0, none⟩ 1 1 (Ks .u8 256 (revZ s k rv)) rfl (by simp [Ks]) news_block (Ks_oneL _ _ _) hroom ?_))
      intro w4 ho4 hg4
      go_wp2_with fail
      go_ret2
      exact ⟨rfl, BOwn.snoc ho4, grown_trans HG.out hg4⟩
end Go.Proofs.YthkalmdpbhjafaaDoor
