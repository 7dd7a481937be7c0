/- The contract of quernref09.ReadRevoke. -/
import Derived.Test.YthkalmdpbhjafaaDoorR9j
import Derived.Test.YthkalmdpbhjafaaDoorR9c
import Derived.Test.YthkalmdpbhjafaaDoorJb9
namespace Go.Proofs.YthkalmdpbhjafaaDoor
open Go.RowKit
set_option linter.unusedVariables false

/-- b[lo:] of a block, lo of four bytes -/
theorem run_sliceBlkFromU (g lo : Nat) (L : Int) (hL : L = (lo : Int)) (h3 : lo < 256) (W : World) :
    (Instr.sliceAt 40 (.pointer (some ⟨g, 0, none⟩)) (some (.int .u32 L)) none none).run Tryd.prog W = .ok (.slice (some ⟨g, lo, none⟩) (256 - lo) (256 - lo)) W := by
  subst hL
  have hal : Tryd.prog.arrayLen 40 = 256 := by kernel_rfl
  have hsz : ∀ W, (sizeOf (Tryd.prog.elem 40)).run Tryd.prog W = .ok 1 W := fun W => by kernel_rfl
  rw [run_sliceAt_array_l W 40 _ (by kernel_rfl) .u32 (lo : Int) (by omega) (by rw [hal]; omega), hsz, hal]
  simp only [Result.andThen, slicedAt, Int.toNat_natCast, Nat.mul_one]
  rw [if_neg (by omega), addr_add, Nat.zero_add]
theorem run_sliceBlkEndU (g : Nat) (W : World) : (Instr.sliceAt 40 (.pointer (some ⟨g, 0, none⟩)) (some (.int .u32 256)) none none).run Tryd.prog W = .ok (.slice (some ⟨g, 0, none⟩) 0 0) W := by kernel_rfl
theorem own_below' {W W' : World} {base k : Nat} {v : Value} {e : TypeId} {size : Nat} {xs : List Value} (h : W.ownsRow base e size v k xs) (hb : Below W.heap.size W W') : W'.ownsRow base e size v k xs := by
  refine ⟨h.1, ?_⟩
  rcases h.2 with h' | ⟨g', cap', cur, hv, hbb, hg, hr⟩
  · exact .inl h'
  · exact .inr ⟨g', cap', cur, hv, hbb, (hb.block _ (Array.getElem?_eq_some_iff.1 hg).1).trans hg, hr⟩
theorem own_mono' {W : World} {base base' k : Nat} {v : Value} {e : TypeId} {size : Nat} {xs : List Value} (h : W.ownsRow base e size v k xs) (hb : base' ≤ base) : W.ownsRow base' e size v k xs := by
  refine ⟨h.1, ?_⟩
  rcases h.2 with h' | ⟨g', cap', cur, hv, hbb, hr⟩
  · exact .inl h'
  · exact .inr ⟨g', cap', cur, hv, by omega, hr⟩
theorem numNews (w : World) (x : Int) : ∀ (j : Nat) (u : Value), ([.int .u32 x] : List Value)[j]? = some u → (w.alloc (.cells #[.int .u32 x] 22)).cell? ((⟨w.heap.size, 0, none⟩ : Addr).add j) = some u := by
  intro j u hj
  rw [addr_add]
  rcases j with _ | j
  · cases hj; exact cell_of_heap (heap_alloc_new w _) rfl
  · cases hj
theorem numOne (x : Int) : ∀ u ∈ ([.int .u32 x] : List Value), u.oneCell' = true := by
  intro u hu
  simp only [List.mem_cons, List.not_mem_nil, or_false] at hu
  rw [hu]; rfl
theorem own_blk {W : World} {base k : Nat} {v : Value} {e : TypeId} {size : Nat} {xs : List Value} (h : W.ownsRow base e size v k xs) : v.ownBlock = none ∨ ∃ x, v.ownBlock = some x ∧ base ≤ x := by
  rcases h.2 with ⟨rfl, _⟩ | ⟨g', cap', cur, rfl, hbb, _⟩
  · exact .inl rfl
  · exact .inr ⟨g', rfl, hbb⟩
structure RrSt (w : World) (z : Nat → Int) (v : Value) (k : Nat) (W : World) : Prop where
  b : Blk W w.heap.size 40 256 z
  own : W.ownsRow (w.heap.size + 1) 22 1 v k (Ks .u32 k (revM z))
  bel : Below w.heap.size w W
theorem RrSt.below {w W W' : World} {z : Nat → Int} {v : Value} {k : Nat} (h : RrSt w z v k W) (hb : Below W.heap.size W W') : RrSt w z v k W' := ⟨h.b.below hb h.b.lt, own_below' h.own hb, h.bel.trans (hb.mono h.bel.size)⟩

set_option maxRecDepth 100000 in
set_option maxHeartbeats 4000000 in
theorem rReadRevoke_any (z : Nat → Int) (hz : Byt z) (w : World) : Calls Tryd.prog 61 #[bval z] w (RevRead w z) := by
  have ST0 : Hid (RkSt w z (w.alloc (.cells (Ks .u8 256 z).toArray 40))) := ⟨Blk.new _ _ _ _, (Below.refl _ _).alloc (Nat.le_refl _) _⟩
  have hkp : Hid (∀ W W', RkSt w z W → Below W.heap.size W W' → RkSt w z W') := fun W W' h hb => ⟨h.b.below hb h.b.lt, h.bel.trans (hb.mono h.bel.size)⟩
  obtain ⟨hw30, hw31⟩ := wd_wds hz 3
  have hB := ST0.out.b
  go_enter Tryd.func61, Tryd.ntmps61
  go_wp2_with (first | (refine wp_loadBlkG rfl _ rfl _ _ rfl hB ?_))
  refine (rat_any z hz 3 12 rfl (by omega) _).mono ?_
  rintro e w1 ⟨rfl, hb1⟩
  have st1 := hkp.out _ _ ST0.out hb1
  clear hB hb1 ST0
  have hB1 := st1.b
  go_wp2_with (first | (refine wp_loadBlkG rfl _ rfl _ _ rfl hB1 ?_))
  refine (rbegins_any z hz 3 _).mono ?_
  rintro e w2 ⟨rfl, hb2⟩
  rw [beginsB_iff z 3 (by omega) (by omega)]
  have st2 := hkp.out _ _ st1 hb2
  clear hB1 hb2 st1
  cases hk : (kindOf z == 3) with
  | false =>
    have HN : Hid (revRd z = false) := by show _ = _; unfold revRd; rw [hk]; rfl
    clear hk
    go_wp2_with fail
    go_ret3
    exact rdNo HN.out st2.bel
  | true =>
  have HK := Lib.hid hk
  clear hk
  by_cases h1 : 1 ≤ wd z 3
  rotate_left
  · have HN : Hid (revRd z = false) := by show _ = _; unfold revRd; simp [h1]
    go_wp2_with fail
    go_ret3
    exact rdNo HN.out st2.bel
  by_cases h2 : wd z 3 ≤ 60
  rotate_left
  · have HN : Hid (revRd z = false) := by show _ = _; unfold revRd; simp [h2]
    go_wp2_with fail
    go_ret3
    exact rdNo HN.out st2.bel
  have hn : wd z 3 = (rowsN z : Int) := by unfold rowsN; omega
  have hn1 : 1 ≤ rowsN z := by omega
  have hn2 : rowsN z ≤ 60 := by omega
  have HSQ : Hid (seqOf z = wd z 2) := by
    rcases kind_rng z with h | h
    · have := HK.out; rw [h] at this; cases this
    · exact h.2.2
  have hrd : Hid (∀ (h : riseB (revM z) (rowsN z) = true) (h' : allZ (fun j => wd z (4 + rowsN z + j)) (60 - rowsN z) = true), revRd z = true) := fun h h' => by
    unfold revRd; rw [HK.out, h, h']; simp [h1, h2]
  have hrn : Hid (riseB (revM z) (rowsN z) = false → revRd z = false) := fun h => by unfold revRd; rw [h]; simp
  have hzn : Hid (allZ (fun j => wd z (4 + rowsN z + j)) (60 - rowsN z) = false → revRd z = false) := fun h => by unfold revRd; rw [h]; simp
  rw [hn]
  generalize hN : rowsN z = n at *
  have HN := Lib.hid hN
  clear hN hw30 hw31 h1 h2 hn HK
  have key : Hid (∃ a c, (∀ W, (Instr.sliceAt 40 (.pointer (some ⟨w.heap.size, 0, none⟩)) (some (.int .u32 (16 + 4 * (n : Int)))) none none).run Tryd.prog W = .ok (.slice a (240 - 4 * n) c) W) ∧ ∀ W, RkSt w z W → Row W a (240 - 4 * n) (fun j => z (16 + 4 * n + j))) := by
    by_cases h60 : n = 60
    · subst h60
      exact ⟨_, _, fun W => run_sliceBlkEndU w.heap.size W, fun W _ => .inl rfl⟩
    · refine ⟨some ⟨w.heap.size, 16 + 4 * n, none⟩, 240 - 4 * n, fun W => ?_, fun W st => .inr ⟨_, _, rfl, ?_⟩⟩
      · have := run_sliceBlkFromU w.heap.size (16 + 4 * n) (16 + 4 * (n : Int)) (by omega) (by omega) W
        rw [show 256 - (16 + 4 * n) = 240 - 4 * n by omega] at this
        exact this
      · have := st.b.seg.sub (16 + 4 * n) (240 - 4 * n) (by omega); rwa [Nat.zero_add] at this
  obtain ⟨sa, sc, hsl, hrow⟩ := key.out
  have HROW := Lib.hid hrow
  clear hrow key
  go_wp2_with fail
  refine (rzero_any _ _ _ _ _ (by omega) (HROW.out _ st2)).mono ?_
  rintro e w3 ⟨rfl, rfl⟩
  clear hsl HROW
  have HZ : Hid (allZ (fun j => z (16 + 4 * n + j)) (240 - 4 * n) = allZ (fun j => wd z (4 + n + j)) (60 - n)) := by
    show _ = _
    have := allZ_wd hz (4 + n) (60 - n)
    rw [show 4 * (4 + n) = 16 + 4 * n by omega, show 4 * (60 - n) = 240 - 4 * n by omega] at this
    exact this
  rw [HZ.out]
  cases hzz : allZ (fun j => wd z (4 + n + j)) (60 - n) with
  | false =>
    have HN : Hid (revRd z = false) := hzn.out hzz
    clear hzz
    go_wp2_with fail
    go_ret3
    exact rdNo HN.out st2.bel
  | true =>
  have HZZ := Lib.hid hzz
  clear hzz hzn HZ
  obtain ⟨i0, hi, hz0, hz1, hz2⟩ := info_parts info_u32
  have st0 : Hid (RrSt w z (.slice none 0 0) 0 w2) := ⟨st2.b, World.ownsRow_nil _ _ _ _, st2.bel⟩
  clear st2
  go_wp2_with fail
  go_loopw [6, 7] (fun v u wr => ∃ k : Nat, k ≤ n ∧ u = .int .i64 (k : Int) ∧ Hid (riseB (revM z) k = true) ∧ RrSt w z v k wr) (fun _ u _ => n - (intOf u).toNat)
  case atStart => exact ⟨0, by omega, rfl, rfl, st0.out⟩
  case round =>
    clear st0
    obtain ⟨k, hk, rfl, HRS, st⟩ := hrel
    have hB := st.b
    by_cases hlt : k < n
    · obtain ⟨hm0, hm1⟩ := wd_wds hz (4 + k)
      go_wp2_with (first | (refine wp_loadBlkG rfl _ rfl _ _ rfl hB ?_))
      refine (rat_any z hz (4 + k) (16 + 4 * (k : Int)) (by omega) (by omega) _).mono ?_
      rintro e w4 ⟨rfl, hb4⟩
      have st4 := st.below hb4
      clear st hb4 hB
      have hbs := run_num1
      have hown' := World.ownsRow.alloc st4.own (.cells #[.int .u32 (wd z (4 + k))] 22)
      by_cases hk0 : k = 0
      · have HRS1 : Hid (riseB (revM z) (k + 1) = true) := by show _ = _; rw [hk0]; rfl
        have e5 : ¬ 0 < k := by omega
        have e6 : ¬ (0 : Int) < (k : Int) := by omega
        clear hk0
        go_wp2_with (first | (refine wpList_append_own _ rfl _ _ 70 rfl (w.heap.size + 1) 22 i0 (.int .u32 0) 1 4 Tryd.underlying70 hi hz0 hz1 hz2 rfl (by decide) _ k _ rfl hown' ⟨w4.heap.size, 0, none⟩ 1 1 [.int .u32 (wd z (4 + k))] rfl rfl (numNews w4 (wd z (4 + k))) (numOne (wd z (4 + k))) (by unfold maxLen; omega) (by omega) (by have := st4.b.lt; simp; omega) ?rest1))
        intro v' w7 hown7 hg7 _
        rw [show Ks .u32 k (revM z) ++ [.int .u32 (wd z (4 + k))] = Ks .u32 (k + 1) (revM z) from (Ks_snoc .u32 k (revM z)).symm] at hown7
        have hblt := st4.b.lt
        have st7 : RrSt w z v' (k + 1) w7 := ⟨(hg7.block _ (st4.b.alloc _).lt (by rcases own_blk hown' with h | ⟨x, h, hx⟩ <;> simp [h]; omega)).trans (st4.b.alloc _), hown7, (st4.bel.alloc st4.bel.size _).grown hg7 (st4.bel.alloc st4.bel.size _).size (fun j e => by rcases own_blk hown' with h | ⟨x, h, hx⟩ <;> rw [h] at e <;> simp at e; omega)⟩
        clear st4 hown' hown7 hg7 hbs
        go_wp2_with fail
        go_roundw
        case rel => first | exact ⟨k + 1, by omega, by go_num, HRS1, st7⟩ | ((repeat apply Exists.intro); exact ⟨⟨k + 1, by omega, by go_num, HRS1, st7⟩, rfl⟩)
        case measure => simp [intOf]; omega
      · have e5 : 0 < k := by omega
        have e6 : (0 : Int) < (k : Int) := by omega
        obtain ⟨g, cap, rfl⟩ := own_form' st4.own e5
        have c1 : w4.cell? ⟨g, k - 1, none⟩ = some (.int .u32 (revM z (k - 1))) := own_cell st4.own (k - 1) (by omega)
        have e2 : ((k : Int) - 1).toNat = k - 1 := by omega
        by_cases hri : revM z (k - 1) < wd z (4 + k)
        · have HRS1 : Hid (riseB (revM z) (k + 1) = true) := by show _ = _; rw [riseB_succ, HRS.out, decide_eq_true (show revM z (k - 1) < revM z k from hri)]; simp
          have d1 : decide (wd z (4 + k) ≤ revM z (k - 1)) = false := by simp; omega
          go_wp2_with (first | (refine wpList_append_own _ rfl _ _ 70 rfl (w.heap.size + 1) 22 i0 (.int .u32 0) 1 4 Tryd.underlying70 hi hz0 hz1 hz2 rfl (by decide) _ k _ rfl hown' ⟨w4.heap.size, 0, none⟩ 1 1 [.int .u32 (wd z (4 + k))] rfl rfl (numNews w4 (wd z (4 + k))) (numOne (wd z (4 + k))) (by unfold maxLen; omega) (by omega) (by have := st4.b.lt; simp; omega) ?rest2))
          intro v' w7 hown7 hg7 _
          rw [show Ks .u32 k (revM z) ++ [.int .u32 (wd z (4 + k))] = Ks .u32 (k + 1) (revM z) from (Ks_snoc .u32 k (revM z)).symm] at hown7
          have hblt := st4.b.lt
          have st7 : RrSt w z v' (k + 1) w7 := ⟨(hg7.block _ (st4.b.alloc _).lt (by rcases own_blk hown' with h | ⟨x, h, hx⟩ <;> simp [h]; omega)).trans (st4.b.alloc _), hown7, (st4.bel.alloc st4.bel.size _).grown hg7 (st4.bel.alloc st4.bel.size _).size (fun j e => by rcases own_blk hown' with h | ⟨x, h, hx⟩ <;> rw [h] at e <;> simp at e; omega)⟩
          clear st4 hown' hown7 hg7 hbs
          go_wp2_with fail
          go_roundw
          case rel => first | exact ⟨k + 1, by omega, by go_num, HRS1, st7⟩ | ((repeat apply Exists.intro); exact ⟨⟨k + 1, by omega, by go_num, HRS1, st7⟩, rfl⟩)
          case measure => simp [intOf]; omega
        · have HO : Hid (revRd z = false) := hrn.out (riseB_no e5 hlt hri)
          have d1 : decide (wd z (4 + k) ≤ revM z (k - 1)) = true := by simp; omega
          go_wp2_with fail
          go_ret3
          exact rdNo HO.out st4.bel
    · obtain rfl : k = n := by omega
      obtain ⟨g, cap, rfl⟩ := own_form' st.own (by omega)
      have hY : Hid (revRd z = true) := hrd.out HRS.out HZZ.out
      go_wp2_with (first | (refine wp_loadBlkG rfl _ rfl _ _ rfl hB ?_))
      refine (rat_any z hz 2 8 rfl (by omega) _).mono ?_
      rintro e w4 ⟨rfl, hb4⟩
      have st4 := st.below hb4
      clear st hb4 hB
      have hfin : Hid (RevRead w z (.returned (.tuple #[.int .u32 (wd z 2), .slice (some ⟨g, 0, none⟩) k cap, .int .i64 0])) w4) := ⟨st4.bel, .inr ⟨hY.out, g, cap, by rw [HN.out], by rw [HN.out]; exact own_mono st4.own (by omega)⟩⟩
      go_wp2_with fail
      go_ret3
      exact hfin.out
end Go.Proofs.YthkalmdpbhjafaaDoor
