/- Texts of this claim, merged by a program (a claim may have 60 files): Pk2, Pk4. -/
import Derived.Test.YtnbmmhoofilmfaaDoorK14
import Derived.Test.YtnbmmhoofilmfaaDoorK13
import Derived.Deep.DeepAppendRoom
/- pack.withRevokes, pack.withCommit. -/
namespace Go.Proofs.YtnbmmhoofilmfaaDoor
open Go.RowKit
set_option linter.unusedVariables false

/-- a slice of blocks in an array of one's own, with room -/
def BOwn (W : World) (q N cap : Nat) (B : Nat → Nat → Int) : Prop := W.ownsRow 0 32 256 (.slice (some ⟨q, 0, none⟩) N cap) N (Cs (bkF B) N)
theorem BOwn.kept {W W' : World} {q N cap : Nat} {B : Nat → Nat → Int} {row : Option Nat} (h : BOwn W q N cap B) (hg : W.grownBy W' row) (hne : row ≠ some q) : BOwn W' q N cap B :=
  World.ownsRow.kept h hg (.inr (fun e => hne e.symm))
theorem BOwn.lt {W : World} {q N cap : Nat} {B : Nat → Nat → Int} (h : BOwn W q N cap B) : q < W.heap.size := by
  rcases h.2 with ⟨hv, _⟩ | ⟨g, cap', cur, hv, _, hg, _⟩
  · cases hv
  · cases hv; exact (Array.getElem?_eq_some_iff.1 hg).1
theorem BOwn.below {W W' : World} {q N cap : Nat} {B : Nat → Nat → Int} (h : BOwn W q N cap B) (hb : Below W.heap.size W W') : BOwn W' q N cap B :=
  h.kept (grown_below (row := none) hb) (fun e => by cases e)
theorem BOwn.congr {W : World} {q N cap : Nat} {B B' : Nat → Nat → Int} (h : BOwn W q N cap B) (e : ∀ i, i < N → ∀ k, k < 256 → B i k = B' i k) : BOwn W q N cap B' := by
  unfold BOwn
  rw [← Cs_congr (f := bkF B) (g := bkF B') (n := N) fun i hi => Ks_congr fun k hk => e i hi k hk]
  exact h
theorem BOwn.seg {W : World} {q N cap : Nat} {B : Nat → Nat → Int} (h : BOwn W q N cap B) : RSeg W q 0 256 N (bkF B) := RMine.seg (base := 0) (e := 32) (m := 256) (cap := cap) h (bkF_len B)
theorem BOwn.le {W : World} {q N cap : Nat} {B : Nat → Nat → Int} (h : BOwn W q N cap B) : N ≤ cap ∧ cap ≤ maxLen := by
  rcases h.2 with ⟨hv, _⟩ | ⟨g, cap', cur, hv, _, hg, h1, h2, _⟩
  · cases hv
  · cases hv; exact ⟨h1, h2⟩
theorem BOwn.snoc {W : World} {q N cap : Nat} {B : Nat → Nat → Int} {z : Nat → Int} (h : W.ownsRow 0 32 256 (.slice (some ⟨q, 0, none⟩) (N + 1) cap) (N + 1) (Cs (bkF B) N ++ Ks .u8 256 z)) : BOwn W q (N + 1) cap (fun i => if i < N then B i else z) := by
  unfold BOwn
  rw [Cs_succ, Cs_congr (f := bkF fun i => if i < N then B i else z) (g := bkF B) (n := N) (fun i hi => by show Ks _ _ (if i < N then B i else z) = _; rw [if_pos hi]; rfl)]
  rw [show bkF (fun i => if i < N then B i else z) N = Ks .u8 256 z by show Ks _ _ (if N < N then B N else z) = _; rw [if_neg (Nat.lt_irrefl _)]]
  exact h
theorem news_block {W : World} {z : Nat → Int} : ∀ (j : Nat) (u : Value), (Ks .u8 256 z)[j]? = some u → (W.alloc (.cells (Ks .u8 256 z).toArray 32)).cell? ((⟨W.heap.size, 0, none⟩ : Addr).add j) = some u := fun j u hj => by
  rw [addr_add, Nat.zero_add]
  exact cell_of_heap (heap_alloc_new W _) (by simpa using hj)
/-- blocks and one more -/
def snocB (B : Nat → Nat → Int) (N : Nat) (z : Nat → Int) (i : Nat) : Nat → Int := if i < N then B i else z
theorem run_block1 (z : Nat → Int) (W : World) : (Instr.buildSlice 24 1 #[(0, bval z)]).run Tryd.prog W = .ok (.slice (some ⟨W.heap.size, 0, none⟩) 1 1) (W.alloc (.cells (Ks .u8 256 z).toArray 32)) := by kernel_rfl
theorem info_blk3 : (Tryd.prog.info? 32).map (fun i => (i.zero, i.size, i.bytes)) = some (some (bval fun _ => 0), 256, 256) := by kernel_rfl
theorem info_blkS : ∃ i, Tryd.prog.info? 32 = some i ∧ i.size = 256 := by
  obtain ⟨i, hi, hz⟩ := Option.map_eq_some_iff.1 info_blk3
  simp only [Prod.mk.injEq] at hz
  exact ⟨i, hi, hz.2.1⟩
theorem run_num32 (n : Nat) (hn : n ≤ 2048) (W : World) : (Instr.makeSlice 149 (.int .i64 (n : Int)) (.int .i64 (n : Int))).run Tryd.prog W = .ok (.slice (some ⟨W.heap.size, 0, none⟩) n n) (W.alloc (.cells (madeCells #[.int .u32 0] n) 34)) := by
  have := run_mkrow (P := Tryd.prog) 149 34 (.int .u32 0) 1 4 Tryd.underlying149 info_u32 .i64 .i64 n (by omega) (by omega) W
  rwa [Nat.mul_one] at this
/-- rows made so far -/
def mixN (rv : Nat → Int) (k i : Nat) : List Value := if i < k then [.int .u32 (rv i)] else [.int .u32 0]
theorem mixN_len (rv : Nat → Int) (k i : Nat) : (mixN rv k i).length = 1 := by unfold mixN; split <;> rfl
structure WrS (w : World) (q N cap : Nat) (B : Nat → Nat → Int) (ra : Option Addr) (m : Nat) (rv : Nat → Int) (p : Nat) (k : Nat) (W : World) : Prop where
  b : BOwn W q N cap B
  r : RRow W ra 1 m (inF rv)
  a : RArr W p 34 1 m (mixN rv k)
  bel : Below w.heap.size w W

set_option maxRecDepth 100000 in
set_option maxHeartbeats 4000000 in
theorem packRevokes_any (q N cap : Nat) (B : Nat → Nat → Int) (s : Int) (ra : Option Addr) (m rc : Nat) (rv : Nat → Int) (hs : 0 ≤ s ∧ s < 4294967296) (hm : m ≤ 2048) (hrv : Wds rv) (hroom : N + 1 ≤ cap)
    (w : World) (hB : BOwn w q N cap B) (hr : RRow w ra 1 m (inF rv)) (hrl : ∀ b off, ra = some ⟨b, off, none⟩ → b < w.heap.size) :
    Calls Tryd.prog 50 #[.slice (some ⟨q, 0, none⟩) N cap, .int .u32 s, .slice ra m rc] w fun e w' =>
      e = .returned (.tuple #[.slice (some ⟨q, 0, none⟩) (N + 1) cap, .int .i64 (errOf (revOk s m rv) 2)]) ∧ BOwn w' q (N + 1) cap (snocB B N (revZ s m rv)) ∧ w.grownBy w' (some q) := by
  have hal := zero_block
  have hmk := fun W => run_num32 m hm W
  have hA0 := RArr.made (m := 1) w #[.int .u32 0] rfl (by omega) m 34
  rw [Nat.mul_one] at hA0
  have hL0 : Below w.heap.size w (w.alloc (.cells (madeCells #[.int .u32 0] m) 34)) := (Below.refl _ _).alloc (Nat.le_refl _) _
  have st0 : Hid (WrS w q N cap B ra m rv w.heap.size 0 (w.alloc (.cells (madeCells #[.int .u32 0] m) 34))) := ⟨hB.below hL0, hr.alloc _, hA0.congr fun i _ => rfl, hL0⟩
  have hqw := hB.lt
  have HRL : Hid (∀ b off, ra = some ⟨b, off, none⟩ → b < w.heap.size) := hrl
  clear hA0 hL0 hB hr hrl
  go_enter Tryd.func50, Tryd.ntmps50
  go_wp2_with fail
  go_loopw [9, 10, 18] (fun _ _ u wr => ∃ k : Nat, k ≤ m ∧ u = .int .i64 (k : Int) ∧ WrS w q N cap B ra m rv w.heap.size k wr) (fun _ _ u _ => m - (intOf u).toNat)
  case atStart => exact ⟨0, by omega, rfl, st0.out⟩
  case round =>
    clear st0
    obtain ⟨k, hk, rfl, st⟩ := hrel
    by_cases hlt : k < m
    · have hlt' : (k : Int) < (m : Int) := by omega
      have k0 : (0 : Int) ≤ (k : Int) := by omega
      obtain ⟨b, off, rfl, hsg⟩ : ∃ b off, ra = some ⟨b, off, none⟩ ∧ RSeg wr b off 1 m (inF rv) := by
        rcases st.r with h | h
        · omega
        · exact h
      have hcell : wr.cell? ⟨b, off + k, none⟩ = some (.int .i64 (rv k)) := by have := hsg k hlt 0 _ rfl; rwa [Nat.mul_one, Nat.add_zero] at this
      have hw : IntKind.u32.wrap (rv k) = rv k := IntWalk.u32_in _ (by have := hrv k; omega)
      have hth := st.a.there hlt
      have hcp : ∃ u, wr.cell? ⟨w.heap.size, k, none⟩ = some u := by
        have := (hth 0 (by omega)).1
        rw [Nat.mul_one, Nat.add_zero] at this
        exact Option.isSome_iff_exists.1 this
      obtain ⟨u0, hcp⟩ := hcp
      have hfr : wr.frozen? ⟨w.heap.size, k, none⟩ = false := by have := (hth 0 (by omega)).2; rwa [Nat.mul_one, Nat.add_zero] at this
      have ha2 := st.a.cellset hlt (j := 0) (by omega) (mixN_len rv k) (.int .u32 (rv k))
      rw [Nat.mul_one, Nat.add_zero] at ha2
      have ho := Only.setCell wr ⟨w.heap.size, k, none⟩ (.int .u32 (rv k))
      have st1 : Hid (WrS w q N cap B (some ⟨b, off, none⟩) m rv w.heap.size (k + 1) (wr.setCell ⟨w.heap.size, k, none⟩ (.int .u32 (rv k)))) :=
        ⟨st.b.kept (row := some w.heap.size) ⟨rfl, rfl, rfl, by simp [World.setCell], fun x hx hne => ho.block x (fun e => hne (by rw [e]))⟩ (by intro e; injection e with e; omega), .inr ⟨b, off, rfl, fun i hi j v hj => by
          have hbl : b < w.heap.size := HRL.out b off rfl
          exact (ho.cell (p := ⟨b, off + i * 1 + j, none⟩) (by show b ≠ w.heap.size; omega)).trans (hsg i hi j v hj)⟩, ha2.congr fun i hi => by
          unfold mixN
          by_cases e : i = k
          · subst e; rw [if_pos rfl, if_neg (by omega), if_pos (by omega)]; rfl
          · rw [if_neg e]
            by_cases e2 : i < k
            · rw [if_pos e2, if_pos (by omega)]
            · rw [if_neg e2, if_neg (by omega)], st.bel.trans (ho.below (Nat.le_refl _))⟩
      clear st hsg hth ha2 ho
      go_wp2_with fail
      go_roundw
      case rel => first | exact ⟨k + 1, by omega, by go_num, st1.out⟩ | exact ⟨k + 1, by omega, rfl, st1.out⟩
      case measure => simp [intOf]; omega
    · obtain rfl : k = m := by omega
      have hnum : NumRow wr (some ⟨w.heap.size, 0, none⟩) k rv := .inr ⟨_, _, rfl, fun i hi => by
        have := st.a.seg i hi 0 (.int .u32 (rv i)) (by unfold mixN; rw [if_pos hi]; rfl)
        rwa [Nat.mul_one, Nat.add_zero] at this⟩
      have hB := st.b
      have hL := st.bel
      obtain ⟨i0, hi0, hz0⟩ := info_blkS
      clear st
      go_wp2_with fail
      refine (writeRevoke_any s _ k k rv hs hrv (by omega) _ hnum).mono ?_
      rintro e w1 ⟨rfl, hb1⟩
      have hB1 := hB.below hb1
      have hL1 := hL.trans (hb1.mono hL.size)
      have hlt1 := hB1.lt
      have hn1 := Blk.new w1 32 256 (fun _ => 0)
      have hB1' := hB1.below ((Below.refl _ _).alloc (Nat.le_refl _) (.cells (Ks .u8 256 (fun _ => 0)).toArray 32))
      have hL1' := hL1.alloc hL1.size (.cells (Ks .u8 256 (fun _ => 0)).toArray 32)
      clear hB hL hnum hb1 hB1
      go_wp2_with (first | (refine wp_storeBlk rfl (.tmp 11) (.tmp 33) rfl w1.heap.size (revZ s k rv) _ rfl rfl hn1 ?_))
      intro w2 hZ2 ho2
      have hB2 := hB1'.kept ho2.grown (by intro e; injection e with e; omega)
      have hL2 := hL1'.trans (ho2.below hL1.size)
      have hB3 := hB2.below ((Below.refl _ _).alloc (Nat.le_refl _) (.cells (Ks .u8 256 (revZ s k rv)).toArray 32))
      have hL3 := hL2.alloc hL2.size (.cells (Ks .u8 256 (revZ s k rv)).toArray 32)
      have HG := Lib.hid (grown_below (row := some q) hL3)
      clear hn1 hB1' hL1' ho2 hB2 hL2 hL3 hL1
      go_wp2_with (first | (refine wp_loadBlkG rfl (.tmp 11) rfl w1.heap.size (revZ s k rv) rfl hZ2 ?_) | (refine wpList_slice1 rfl 24 1 0 (.tmp 36) rfl (bval (revZ s k rv)) rfl _ _ (run_block1 (revZ s k rv) _) ?_) | (refine wpList_append_own_spare _ rfl (.tmp 35) (.tmp 37) 24 rfl 0 32 i0 256 Tryd.underlying24 hi0 hz0 q N cap (Cs (bkF B) N) rfl hB3 ⟨w2.heap.size, 0, none⟩ 1 1 (Ks .u8 256 (revZ s k rv)) rfl (by simp [Ks]) news_block (Ks_oneL _ _ _) hroom ?_))
      intro w4 ho4 hg4
      go_wp2_with fail
      go_ret2
      exact ⟨rfl, BOwn.snoc ho4, grown_trans HG.out hg4⟩
end Go.Proofs.YtnbmmhoofilmfaaDoor

/- pack.withCopies. -/
namespace Go.Proofs.YtnbmmhoofilmfaaDoor
open Go.RowKit
set_option linter.unusedVariables false

abbrev ccells (b : Int) (z : Nat → Int) : Array Value := (cpc b z).toArray
theorem zero_copy (W : World) : (zeroValue 101).run Tryd.prog W = .ok (.agg (ccells 0 fun _ => 0)) W := by kernel_rfl
theorem info_copy : (Tryd.prog.info? 101).map (·.size) = some 257 := by kernel_rfl
theorem ccells_size (b : Int) (z : Nat → Int) : (ccells b z).size = 257 := by simp [ccells, Ks]
theorem info_copy' (b : Int) (z : Nat → Int) : (Tryd.prog.info? 101).map (·.size) = some (ccells b z).size := by rw [ccells_size]; exact info_copy
theorem ccells_one (b : Int) (z : Nat → Int) : (ccells b z).all (·.oneCell') = true := by
  rw [Array.all_eq_true]
  intro i hi
  exact cpF_one (fun _ => b) (fun _ => z) 0 _ (by show (ccells b z)[i] ∈ cpc b z; exact List.getElem_mem _)
theorem At.copyData {W : World} {p : Nat} {b : Int} {z : Nat → Int} (h : At W p 101 (ccells b z)) : W.rangeAt p 1 (Ks .u8 256 z) := fun j v hj => by
  refine h.cell (i := 1 + j) ?_
  rw [Nat.add_comm]
  simpa [ccells] using hj
theorem run_tags (n : Nat) (hn : n ≤ 2048) (W : World) : (Instr.makeSlice 165 (.int .i64 (n : Int)) (.int .i64 (n : Int))).run Tryd.prog W = .ok (.slice (some ⟨W.heap.size, 0, none⟩) n n) (W.alloc (.cells (madeCells #[.int .u32 0, .bool false] (n * 2)) 169)) :=
  run_mkrow (P := Tryd.prog) 165 169 (.agg #[.int .u32 0, .bool false]) 2 8 Tryd.underlying165 (by kernel_rfl) .i64 .i64 n (by omega) (by omega) W
theorem run_datas (n : Nat) (hn : n ≤ 2048) (W : World) : (Instr.makeSlice 24 (.int .i64 (n : Int)) (.int .i64 (n : Int))).run Tryd.prog W = .ok (.slice (some ⟨W.heap.size, 0, none⟩) n n) (W.alloc (.cells (madeCells (bval fun _ => 0).cells (n * 256)) 32)) :=
  run_mkrow (P := Tryd.prog) 24 32 (bval fun _ => 0) 256 256 Tryd.underlying24 info_blk3 .i64 .i64 n (by omega) (by omega) W
def tgL (b : Int) (x : Bool) : List Value := [.int .u32 b, .bool x]
theorem tgL_one (b : Int) (x : Bool) : ∀ v ∈ tgL b x, v.oneCell' = true := by intro v hv; simp [tgL] at hv; rcases hv with rfl | rfl <;> rfl
def mixT (cb : Nat → Int) (cd : Nat → Nat → Int) (k i : Nat) : List Value := if i < k then tgL (cb i) (escB (cd i)) else tgL 0 false
def mixC (cd : Nat → Nat → Int) (k i : Nat) : List Value := Ks .u8 256 (if i < k then escZ (cd i) else fun _ => 0)
theorem mixT_len (cb : Nat → Int) (cd : Nat → Nat → Int) (k i : Nat) : (mixT cb cd k i).length = 2 := by unfold mixT; split <;> rfl
theorem mixC_len (cd : Nat → Nat → Int) (k i : Nat) : (mixC cd k i).length = 256 := by simp [mixC, Ks]
structure CwS (w : World) (q N cap : Nat) (B : Nat → Nat → Int) (ca : Option Addr) (m : Nat) (cb : Nat → Int) (cd : Nat → Nat → Int) (k : Nat) (W : World) : Prop where
  b : BOwn W q N cap B
  r : RRow W ca 257 m (cpF cb cd)
  a : RArr W w.heap.size 169 2 m (mixT cb cd k)
  d : RArr W (w.heap.size + 1) 32 256 m (mixC cd k)
  bel : Below w.heap.size w W
theorem CwS.below {w : World} {q N cap : Nat} {B : Nat → Nat → Int} {ca : Option Addr} {m : Nat} {cb : Nat → Int} {cd : Nat → Nat → Int} {k : Nat} {W W' : World} (h : CwS w q N cap B ca m cb cd k W) (hb : Below W.heap.size W W') : CwS w q N cap B ca m cb cd k W' :=
  ⟨h.b.below hb, h.r.below (by intro e; cases e) hb, h.a.below hb, h.d.below hb, h.bel.trans (hb.mono h.bel.size)⟩
theorem RRow.only {W W' : World} {a : Option Addr} {m n p : Nat} {f : Nat → List Value} (h : RRow W a m n f) (ho : Only p W W') (hne : ∀ b off, a = some ⟨b, off, none⟩ → b ≠ p) : RRow W' a m n f := by
  rcases h with h | ⟨b, off, rfl, h⟩
  · exact .inl h
  · exact .inr ⟨b, off, rfl, fun i hi j v hj => (ho.cell (p := ⟨b, off + i * m + j, none⟩) (hne b off rfl)).trans (h i hi j v hj)⟩
/-- a block that is not among those of the state is turned -/
theorem CwS.only {w : World} {q N cap : Nat} {B : Nat → Nat → Int} {ca : Option Addr} {m : Nat} {cb : Nat → Int} {cd : Nat → Nat → Int} {k : Nat} {W W' : World} {p : Nat} (h : CwS w q N cap B ca m cb cd k W) (ho : Only p W W') (hp : w.heap.size + 1 < p) (hq : q < w.heap.size)
    (hca : ∀ b off, ca = some ⟨b, off, none⟩ → b < w.heap.size) : CwS w q N cap B ca m cb cd k W' :=
  ⟨h.b.kept ho.grown (by intro e; injection e with e; omega), h.r.only ho (fun b off e => by have := hca b off e; omega), h.a.only ho (by omega), h.d.only ho (by omega), h.bel.trans (ho.below (by omega))⟩

set_option maxRecDepth 100000 in
set_option maxHeartbeats 8000000 in
theorem packCopies_any (q N cap : Nat) (B : Nat → Nat → Int) (s : Int) (ca : Option Addr) (m cc : Nat) (cb : Nat → Int) (cd : Nat → Nat → Int) (hs : 0 ≤ s ∧ s < 4294967296) (hm : m ≤ 2048) (hcb : Wds cb) (hcd : ∀ i, Byt (cd i)) (hroom : N + 1 + m ≤ cap)
    (w : World) (hB : BOwn w q N cap B) (hr : RRow w ca 257 m (cpF cb cd)) (hrl : ∀ b off, ca = some ⟨b, off, none⟩ → b < w.heap.size) :
    Calls Tryd.prog 48 #[.slice (some ⟨q, 0, none⟩) N cap, .int .u32 s, .slice ca m cc] w fun e w' =>
      e = .returned (.tuple #[.slice (some ⟨q, 0, none⟩) (N + 1 + m) cap, .int .i64 (errOf (jdOk s m cb) 2)]) ∧
        BOwn w' q (N + 1 + m) cap (fun i => if i < N then B i else if i = N then jdZ s m cb (fun j => escB (cd j)) else escZ (cd (i - N - 1))) ∧ w.grownBy w' (some q) := by
  have hal := zero_block
  have halc := zero_copy
  have hmk := fun W => run_tags m hm W
  have hmd := fun W => run_datas m hm W
  obtain ⟨W0, hW0⟩ : ∃ W0, W0 = (w.alloc (.cells (madeCells #[.int .u32 0, .bool false] (m * 2)) 169)).alloc (.cells (madeCells (bval fun _ => 0).cells (m * 256)) 32) := ⟨_, rfl⟩
  have hL0 : Below w.heap.size w W0 := by rw [hW0]; exact ((Below.refl _ _).alloc (Nat.le_refl _) _).alloc (by simp) _
  have st0 : Hid (CwS w q N cap B ca m cb cd 0 W0) := by
    have hA0 := RArr.made (m := 2) w #[.int .u32 0, .bool false] rfl (by omega) m 169
    have hD0 := RArr.made (m := 256) (w.alloc (.cells (madeCells #[.int .u32 0, .bool false] (m * 2)) 169)) (Ks .u8 256 (fun _ => 0)).toArray (by simp [Ks]) (by omega) m 32
    simp only [World.size_alloc] at hD0
    refine ⟨hB.below hL0, ?_, ?_, ?_, hL0⟩
    · rw [hW0]; exact (hr.alloc _).alloc _
    · rw [hW0]; exact (hA0.alloc _).congr fun i _ => rfl
    · rw [hW0]; exact hD0.congr fun i _ => rfl
  have hqw := hB.lt
  have HRL : Hid (∀ b off, ca = some ⟨b, off, none⟩ → b < w.heap.size) := hrl
  have HW0 := Lib.hid hW0
  clear hL0 hB hr hrl hW0
  go_enter Tryd.func48, Tryd.ntmps48
  go_wp2_with fail
  rw [show (madeCells (Ks .u8 256 fun _ => 0).toArray (m * 256)) = madeCells (bval fun _ => 0).cells (m * 256) from rfl, ← HW0.out]
  clear HW0
  go_loopw [10, 11, 12, 13, 24] (fun _ _ _ _ u wr => ∃ k : Nat, k ≤ m ∧ u = .int .i64 (k : Int) ∧ CwS w q N cap B ca m cb cd k wr) (fun _ _ _ _ u _ => m - (intOf u).toNat)
  case atStart => exact ⟨0, by omega, rfl, st0.out⟩
  case round =>
    clear st0 hmk hmd
    obtain ⟨k, hk, rfl, st⟩ := hrel
    by_cases hlt : k < m
    · have hlt' : (k : Int) < (m : Int) := by omega
      have k0 : (0 : Int) ≤ (k : Int) := by omega
      obtain ⟨b, off, rfl, hsg⟩ : ∃ b off, ca = some ⟨b, off, none⟩ ∧ RSeg wr b off 257 m (cpF cb cd) := by
        rcases st.r with h | h
        · omega
        · exact h
      have hrg : wr.rangeAt b (off + k * 257) (cpc (cb k) (cd k)) := hsg.range k hlt
      have hrg' := rangeAt_below hrg ((Below.refl wr.heap.size wr).alloc (Nat.le_refl _) (.cells (ccells 0 fun _ => 0) 101)) (World.block_lt_of_cell? wr _ (hrg 0 _ rfl))
      have hw : IntKind.u32.wrap (cb k) = cb k := IntWalk.u32_in _ (by have := hcb k; omega)
      have hA := At.new wr 101 (ccells 0 fun _ => 0)
      have hpw : w.heap.size + 1 < wr.heap.size := st.d.lt
      have st1 := st.below ((Below.refl _ _).alloc (Nat.le_refl _) (.cells (ccells 0 fun _ => 0) 101))
      clear st hsg
      go_wp2_with (first | (refine wp_loadMid rfl 101 _ rfl b (off + k * 257) (cpc (cb k) (cd k)) _ rfl hrg Tryd.underlying101 rfl (by rw [cpc_len]; exact info_copy) ?_) | (refine wp_loadMid rfl 101 _ rfl b (off + k * 257) (cpc (cb k) (cd k)) _ rfl hrg' Tryd.underlying101 rfl (by rw [cpc_len]; exact info_copy) ?_) | (refine wp_storeAt rfl 101 (.tmp 11) (.tmp 28) rfl wr.heap.size (ccells (cb k) (cd k)) _ rfl rfl hA (info_copy' _ _) (by rw [ccells_size, ccells_size]) (ccells_one _ _) ?_))
      intro w1 hC1 ho1
      have st2 := st1.only ho1 hpw hqw HRL.out
      have hdat := hC1.copyData
      obtain ⟨p, hp⟩ : ∃ p, p = wr.heap.size := ⟨_, rfl⟩
      rw [← hp] at hC1 hdat hpw ⊢
      have hpl := hC1.lt
      clear hrg hrg' hA st1 ho1 hp
      go_wp2_with (first | (refine wp_loadMid rfl 32 (.tmp 30) rfl p 1 (Ks .u8 256 (cd k)) _ rfl hdat Tryd.underlying32 rfl (by rw [Ks_length]; exact info_block) ?_))
      refine (escape_any (cd k) (hcd k) w1).mono ?_
      rintro e w2 ⟨rfl, hb2⟩
      have st3 := st2.below (hb2.trans ((Below.refl w2.heap.size w2).alloc (Nat.le_refl _) (.cells (Ks .u8 256 (fun _ => 0)).toArray 32) |>.mono hb2.size))
      have hC2 := (hC1.below hb2 hpl).alloc (.cells (Ks .u8 256 (fun _ => 0)).toArray 32)
      have hn2 := Blk.new w2 32 256 (fun _ => 0)
      have hpw2 : p < w2.heap.size := Nat.lt_of_lt_of_le hpl hb2.size
      clear st2 hdat hC1 hb2 hpl
      go_wp2_with (first | (refine wp_storeBlk rfl (.tmp 12) (.tmp 33) rfl w2.heap.size (escZ (cd k)) _ rfl rfl hn2 ?_))
      intro w3 hX3 ho3
      obtain ⟨px, hpx⟩ : ∃ px, px = w2.heap.size := ⟨_, rfl⟩
      rw [← hpx] at hX3 ho3 hpw2 ⊢
      have st4 := st3.only ho3 (by omega) hqw HRL.out
      have hC3 := hC2.only ho3 (by omega)
      have c0 : w3.cell? ⟨p, 0, none⟩ = some (.int .i64 (cb k)) := hC3.cell (i := 0) rfl
      have hthT := st4.a.there hlt
      have hsT := st4.a.set hlt (vs := tgL (cb k) (escB (cd k))) rfl (mixT_len cb cd k)
      clear st3 hn2 hC2 ho3 hpx hC3
      go_wp2_with (first | (refine wp_storeMid rfl 169 (.tmp 42) (.tmp 41) rfl w.heap.size (k * 2) [.int .u32 (cb k), .bool (escB (cd k))] rfl rfl hthT (info_tag (cb k) (escB (cd k))) (tgL_one (cb k) (escB (cd k))) ?_))
      intro w5 hw5'
      have hw5 : w5 = w3.setCells w.heap.size (k * 2) (tgL (cb k) (escB (cd k))) := hw5'.out
      have hX4 : Blk w5 px 32 256 (escZ (cd k)) := by rw [hw5]; exact hX3.only hsT.2 (by omega)
      have hB5 := st4.b.kept hsT.2.grown (by intro e; injection e with e; omega)
      have hr5 := st4.r.only hsT.2 (fun b' off' e => by have := HRL.out b' off' e; omega)
      have hd5 := st4.d.only hsT.2 (by omega)
      have hL5 := st4.bel.trans (hsT.2.below (Nat.le_refl _))
      have ha5 := hsT.1
      rw [← hw5] at hB5 hr5 hd5 hL5 ha5
      have hthD := hd5.there hlt
      have hsD := hd5.set hlt (vs := Ks .u8 256 (escZ (cd k))) (by simp [Ks]) (mixC_len cd k)
      have st6 : Hid (CwS w q N cap B (some ⟨b, off, none⟩) m cb cd (k + 1) (w5.setCells (w.heap.size + 1) (k * 256) (Ks .u8 256 (escZ (cd k))))) :=
        ⟨hB5.kept hsD.2.grown (by intro e; injection e with e; omega), hr5.only hsD.2 (fun b' off' e => by have := HRL.out b' off' e; omega), (ha5.only hsD.2 (by omega)).congr fun i hi => by
          unfold mixT
          by_cases e : i = k
          · subst e; rw [if_pos rfl, if_pos (by omega)]
          · rw [if_neg e]
            by_cases e2 : i < k
            · rw [if_pos e2, if_pos (by omega)]
            · rw [if_neg e2, if_neg (by omega)], hsD.1.congr fun i hi => by
          unfold mixC
          by_cases e : i = k
          · subst e; rw [if_pos rfl, if_pos (by omega)]
          · rw [if_neg e]
            by_cases e2 : i < k
            · rw [if_pos e2, if_pos (by omega)]
            · rw [if_neg e2, if_neg (by omega)], hL5.trans (hsD.2.below (by omega))⟩
      have hthD' : w5.there (w.heap.size + 1) (k * 256) (Ks .u8 256 (escZ (cd k))).length := by rw [Ks_length]; exact hthD
      clear st4 hX3 c0 hthT hsT hB5 hr5 hd5 hL5 ha5 hsD hthD hw5 hw5'
      go_wp2_with (first | (refine wp_loadBlkG rfl (.tmp 12) rfl px (escZ (cd k)) rfl hX4 ?_) | (refine wp_storeMid rfl 32 (.tmp 46) (.tmp 45) rfl (w.heap.size + 1) (k * 256) (Ks .u8 256 (escZ (cd k))) rfl rfl hthD' (by rw [Ks_length]; exact info_block) (Ks_oneL _ _ _) ?_))
      intro w6 hw6
      have HST := Lib.hid (show CwS w q N cap B (some ⟨b, off, none⟩) m cb cd (k + 1) w6 from by rw [hw6.out]; exact st6.out)
      clear st6 hX4 hthD' hw6
      go_wp2_with fail
      go_roundw
      case rel => first | exact ⟨k + 1, by omega, by go_num, HST.out⟩ | exact ⟨k + 1, by omega, rfl, HST.out⟩
      case measure => simp [intOf]; omega
    · obtain rfl : k = m := by omega
      have hT : TagRow wr (some ⟨w.heap.size, 0, none⟩) k cb (fun j => escB (cd j)) := .inr ⟨_, _, rfl, fun i hi => by
        have h0 := st.a.seg i hi 0 (.int .u32 (cb i)) (by unfold mixT; rw [if_pos hi]; rfl)
        have h1 := st.a.seg i hi 1 (.bool (escB (cd i))) (by unfold mixT; rw [if_pos hi]; rfl)
        exact ⟨h0, h1⟩⟩
      have hB := st.b
      have hL := st.bel
      have hD := st.d
      obtain ⟨i0, hi0, hz0⟩ := info_blkS
      clear st
      go_wp2_with fail
      refine (writeDesc_any s _ k k cb (fun j => escB (cd j)) hs hcb (by omega) _ hT).mono ?_
      rintro e w1 ⟨rfl, hb1⟩
      obtain ⟨z, hz⟩ : ∃ z, z = jdZ s k cb (fun j => escB (cd j)) := ⟨_, rfl⟩
      have HZ := Lib.hid hz
      rw [← hz]
      have hB1 := hB.below hb1
      have hL1 := hL.trans (hb1.mono hL.size)
      have hD1 := hD.below hb1
      have hlt1 := hB1.lt
      have hltD := hD1.lt
      have hn1 := Blk.new w1 32 256 (fun _ => 0)
      have hB1' := hB1.below ((Below.refl _ _).alloc (Nat.le_refl _) (.cells (Ks .u8 256 (fun _ => 0)).toArray 32))
      have hD1' := hD1.alloc (.cells (Ks .u8 256 (fun _ => 0)).toArray 32)
      have hL1' := hL1.alloc hL1.size (.cells (Ks .u8 256 (fun _ => 0)).toArray 32)
      clear hB hL hD hT hb1 hB1 hD1 hz
      go_wp2_with (first | (refine wp_storeBlk rfl (.tmp 14) (.tmp 52) rfl w1.heap.size z _ rfl rfl hn1 ?_))
      intro w2 hZ2 ho2
      have hB2 := hB1'.kept ho2.grown (by intro e; injection e with e; omega)
      have hL2 := hL1'.trans (ho2.below hL1.size)
      have hD2 := hD1'.only ho2 (by omega)
      have hB3 := hB2.below ((Below.refl _ _).alloc (Nat.le_refl _) (.cells (Ks .u8 256 z).toArray 32))
      have hD3 := hD2.alloc (.cells (Ks .u8 256 z).toArray 32)
      have hL3 := hL2.alloc hL2.size (.cells (Ks .u8 256 z).toArray 32)
      have HG := Lib.hid (grown_below (row := some q) hL3)
      clear hn1 hB1' hL1' hD1' ho2 hB2 hL2 hD2 hL3 hL1
      go_wp2_with (first | (refine wp_loadBlkG rfl (.tmp 14) rfl w1.heap.size z rfl hZ2 ?_) | (refine wpList_slice1 rfl 24 1 0 (.tmp 55) rfl (bval z) rfl _ _ (run_block1 z _) ?_) | (refine wpList_append_own_spare _ rfl (.tmp 54) (.tmp 56) 24 rfl 0 32 i0 256 Tryd.underlying24 hi0 hz0 q N cap (Cs (bkF B) N) rfl hB3 ⟨w2.heap.size, 0, none⟩ 1 1 (Ks .u8 256 z) rfl (by simp [Ks]) news_block (Ks_oneL _ _ _) (by omega) ?_))
      intro w4 ho4 hg4
      have hD4 := hD3.grown hg4 (by intro e; injection e with e; omega)
      have hnews : ∀ (j : Nat) (u : Value), (Cs (bkF fun i => escZ (cd i)) k)[j]? = some u → w4.cell? ((⟨w.heap.size + 1, 0, none⟩ : Addr).add j) = some u := fun j u hj => by
        have hj' : j < k * 256 := by have := (List.getElem?_eq_some_iff.1 hj).1; rwa [Cs_length (bkF_len _)] at this
        have hq : j / 256 < k := by omega
        have he : j / 256 * 256 + j % 256 = j := by omega
        rw [addr_add, Nat.zero_add]
        have h1 := Cs_get (bkF_len fun i => escZ (cd i)) hq (Nat.mod_lt j (by decide : 0 < 256))
        rw [he, hj] at h1
        have h2 := hD4.seg (j / 256) hq (j % 256) u (by unfold mixC; rw [if_pos hq]; exact h1.symm)
        rwa [Nat.zero_add, he] at h2
      have ho4' : w4.ownsRow 0 32 256 (.slice (some ⟨q, 0, none⟩) (N + 1) cap) (N + 1) (Cs (bkF B) N ++ Ks .u8 256 z) := ho4
      clear ho4 hD3 hD4 hB3
      go_wp2_with (first | (refine wpList_append_own_spare _ rfl (.tmp 57) (.tmp 58) 24 rfl 0 32 i0 256 Tryd.underlying24 hi0 hz0 q (N + 1) cap (Cs (bkF B) N ++ Ks .u8 256 z) rfl ho4' ⟨w.heap.size + 1, 0, none⟩ k k (Cs (bkF fun i => escZ (cd i)) k) rfl (Cs_length (bkF_len _) k) hnews (Cs_one (bkF_one _) k) hroom ?_))
      intro w5 ho5 hg5
      have HF : Hid (BOwn w5 q (N + 1 + k) cap (fun i => if i < N then B i else if i = N then z else escZ (cd (i - N - 1)))) := by
        show BOwn _ _ _ _ _
        unfold BOwn
        rw [← Cs_cat, Cs_succ, Cs_congr (f := bkF fun i => if i < N then B i else if i = N then z else escZ (cd (i - N - 1))) (g := bkF B) (n := N) (fun i hi => by show Ks _ _ (if i < N then _ else _) = _; rw [if_pos hi]; rfl),
          show bkF (fun i => if i < N then B i else if i = N then z else escZ (cd (i - N - 1))) N = Ks .u8 256 z by show Ks _ _ (if N < N then _ else if N = N then _ else _) = _; rw [if_neg (Nat.lt_irrefl _), if_pos rfl],
          Cs_congr (f := fun i => bkF (fun i => if i < N then B i else if i = N then z else escZ (cd (i - N - 1))) (N + 1 + i)) (g := bkF fun i => escZ (cd i)) (n := k) (fun i hi => by
            show Ks _ _ (if N + 1 + i < N then _ else if N + 1 + i = N then _ else escZ (cd (N + 1 + i - N - 1))) = Ks _ _ _
            rw [if_neg (by omega), if_neg (by omega), show N + 1 + i - N - 1 = i by omega])]
        rw [List.append_assoc]; exact ho5
      have HG5 := Lib.hid (grown_trans HG.out (grown_trans hg4 hg5))
      clear ho5 ho4' hnews hg4 hg5 HG
      go_wp2_with fail
      go_ret2
      exact ⟨rfl, by have := HF.out; rw [HZ.out] at this; exact this, HG5.out⟩
end Go.Proofs.YtnbmmhoofilmfaaDoor
