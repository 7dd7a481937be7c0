/- Texts of this claim, merged by a program (a claim may have 60 files): R9d. -/
import Derived.Test.YtnbmmhoofilmfaaDoorK24
import Derived.Test.YtnbmmhoofilmfaaDoorK12
/- The contract of quernref09.WriteDesc. -/
namespace Go.Proofs.YtnbmmhoofilmfaaDoor
open Go.RowKit
set_option linter.unusedVariables false

structure RdSt (w : World) (s : Int) (b off n : Nat) (tb : Nat → Int) (te : Nat → Bool) (g cap k : Nat) (W : World) : Prop where
  r : Blk W w.heap.size 32 256 (fun _ => 0)
  t : TagSeg W b off n tb te
  bel : Below w.heap.size w W
  own : W.ownsRow (w.heap.size + 1) 34 1 (.slice (some ⟨g, 0, none⟩) (4 + 2 * k) cap) (4 + 2 * k) (Ks .u32 (4 + 2 * k) (jw 1 s n (tagR tb te n)))
theorem numNews2 (w : World) (x y : Int) : ∀ (j : Nat) (u : Value), ([.int .u32 x, .int .u32 y] : List Value)[j]? = some u → (w.alloc (.cells #[.int .u32 x, .int .u32 y] 34)).cell? ((⟨w.heap.size, 0, none⟩ : Addr).add j) = some u := by
  intro j u hj
  rw [addr_add]
  rcases j with _ | _ | j
  · cases hj; exact cell_of_heap (heap_alloc_new w _) rfl
  · cases hj; exact cell_of_heap (heap_alloc_new w _) rfl
  · cases hj
theorem numOne2 (x y : Int) : ∀ u ∈ ([.int .u32 x, .int .u32 y] : List Value), u.oneCell' = true := by
  intro u hu
  simp only [List.mem_cons, List.not_mem_nil, or_false] at hu
  rcases hu with rfl | rfl <;> rfl
theorem run_nums2 (a b : Int) (W : World) : (Instr.buildSlice 149 2 #[(0, .int .u32 a), (1, .int .u32 b)]).run Tryd.prog W = .ok (.slice (some ⟨W.heap.size, 0, none⟩) 2 2) (W.alloc (.cells #[.int .u32 a, .int .u32 b] 34)) := by kernel_rfl
theorem tagR_wds {tb : Nat → Int} {te : Nat → Bool} (h : Wds tb) (k : Nat) : Wds (tagR tb te k) := fun j => by
  unfold tagR bit
  split
  · split
    · exact h _
    · split <;> decide
  · decide
theorem tag_snoc (s : Int) (n k : Nat) (tb : Nat → Int) (te : Nat → Bool) (hk : k < n) : Ks .u32 (4 + 2 * k) (jw 1 s n (tagR tb te n)) ++ [.int .u32 (tb k), .int .u32 (bit (te k))] = Ks .u32 (4 + 2 * (k + 1)) (jw 1 s n (tagR tb te n)) := by
  have h1 : jw 1 s n (tagR tb te n) (4 + 2 * k) = tb k := by
    unfold jw tagR
    rw [if_neg (by omega), if_neg (by omega), if_neg (by omega), if_neg (by omega), if_pos (by omega), if_pos (by omega)]
    congr 1; omega
  have h2 : jw 1 s n (tagR tb te n) (4 + 2 * k + 1) = bit (te k) := by
    unfold jw tagR
    rw [if_neg (by omega), if_neg (by omega), if_neg (by omega), if_neg (by omega), if_pos (by omega), if_neg (by omega)]
    congr 2; omega
  rw [show 4 + 2 * (k + 1) = 4 + 2 * k + 1 + 1 by omega, Ks_snoc, Ks_snoc, h1, h2]; simp

set_option maxRecDepth 100000 in
set_option maxHeartbeats 4000000 in
theorem rWriteDesc_any (s : Int) (a : Option Addr) (n cap : Nat) (tb : Nat → Int) (te : Nat → Bool) (hs : 0 ≤ s ∧ s < 4294967296) (htb : Wds tb) (hn : (n : Int) ≤ 9223372036854775807) (w : World) (hT : TagRow w a n tb te) :
    Calls Tryd.prog 105 #[.int .u32 s, .slice a n cap] w fun e w' => e = .returned (.tuple #[bval (jdZ s n tb te), .int .i64 (errOf (jdOk s n tb) 2)]) ∧ Below w.heap.size w w' := by
  obtain ⟨hs0, hs1⟩ := hs
  have hal := zero_block
  have hR0 : Hid (Blk (w.alloc (.cells (Ks .u8 256 (fun _ => 0)).toArray 32)) w.heap.size 32 256 (fun _ => 0)) := Blk.new _ _ _ _
  have hL0 : Hid (Below w.heap.size w (w.alloc (.cells (Ks .u8 256 (fun _ => 0)).toArray 32))) := (Below.refl _ _).alloc (Nat.le_refl _) _
  have HT := Lib.hid hT
  have HM := Lib.hid htb
  clear hT htb
  go_enter Tryd.func105, Tryd.ntmps105
  go_wp2_with fail
  refine ((rSeq_any s _).mono (R' := fun e w' => e = .returned (.bool (seqB s)) ∧ Blk w' w.heap.size 32 256 (fun _ => 0) ∧ Below w.heap.size w w') (fun e w' h => ⟨h.1, h.2 ▸ hR0.out, h.2 ▸ hL0.out⟩)).mono ?_
  rintro e W ⟨rfl, hR, hL⟩
  clear hR0 hL0
  by_cases hq : seqB s = true
  rotate_left
  · rw [Bool.not_eq_true] at hq
    have HO : Hid (jdOk s n tb = false) := by show _ = _; unfold jdOk; rw [hq]; rfl
    rw [hq]
    clear hq
    go_wp2_with (first | (refine wp_storeBlk rfl (.tmp 4) (.tmp 22) rfl w.heap.size (fun _ => 0) _ rfl rfl hR ?_))
    intro w2 hR2 ho2
    go_wp2_with fail
    exact bodyPost_ret (results_blk2 rfl _ _ w.heap.size _ rfl hR2) rfl ⟨by rw [jdZ, HO.out]; rfl, hL.trans (ho2.below (by omega))⟩
  by_cases h1 : 1 ≤ n
  rotate_left
  · have HO : Hid (jdOk s n tb = false) := by show _ = _; unfold jdOk; simp [h1]
    rw [hq]
    clear hq
    go_wp2_with (first | (refine wp_storeBlk rfl (.tmp 4) (.tmp 22) rfl w.heap.size (fun _ => 0) _ rfl rfl hR ?_))
    intro w2 hR2 ho2
    go_wp2_with fail
    exact bodyPost_ret (results_blk2 rfl _ _ w.heap.size _ rfl hR2) rfl ⟨by rw [jdZ, HO.out]; rfl, hL.trans (ho2.below (by omega))⟩
  by_cases h2 : n ≤ 30
  rotate_left
  · have HO : Hid (jdOk s n tb = false) := by show _ = _; unfold jdOk; simp [h2]
    rw [hq]
    clear hq
    go_wp2_with (first | (refine wp_storeBlk rfl (.tmp 4) (.tmp 22) rfl w.heap.size (fun _ => 0) _ rfl rfl hR ?_))
    intro w2 hR2 ho2
    go_wp2_with fail
    exact bodyPost_ret (results_blk2 rfl _ _ w.heap.size _ rfl hR2) rfl ⟨by rw [jdZ, HO.out]; rfl, hL.trans (ho2.below (by omega))⟩
  have HQ := Lib.hid hq
  rw [hq]
  clear hq
  obtain ⟨b, off, rfl, hseg⟩ : ∃ b off, a = some ⟨b, off, none⟩ ∧ TagSeg w b off n tb te := by
    rcases HT.out with h | h
    · omega
    · exact h
  have hblt := hseg.lt h1
  have hR1 := hR.lt
  have st0 : Hid (RdSt w s b off n tb te W.heap.size 4 0 (W.alloc (.cells #[.int .u32 1280199249, .int .u32 1, .int .u32 s, .int .u32 (n : Int)] 34))) :=
    ⟨hR.alloc _, (hseg.below hL hblt).below ((Below.refl W.heap.size W).alloc (Nat.le_refl _) _) (by have := hL.size; omega), hL.alloc hL.size _, own4 W 1 s n (tagR tb te n) (w.heap.size + 1) (by omega)⟩
  have HSEG := Lib.hid hseg
  clear HT hseg hR hL
  have hbs := run_nums4
  obtain ⟨i0, hi, hz0, hz1, hz2⟩ := info_parts info_u32
  go_wp2_with fail
  clear hbs
  have hbs := run_nums2
  go_loopw [6, 7] (fun v u wr => ∃ k g cp : Nat, k ≤ n ∧ u = .int .i64 (k : Int) ∧ v = .slice (some ⟨g, 0, none⟩) (4 + 2 * k) cp ∧ Hid (riseB tb k = true) ∧ RdSt w s b off n tb te g cp k wr) (fun _ u _ => n - (intOf u).toNat)
  case atStart => exact ⟨0, _, _, by omega, rfl, rfl, rfl, st0.out⟩
  case round =>
    clear st0
    obtain ⟨k, g, cp, hk, rfl, rfl, HRS, st⟩ := hrel
    by_cases hlt : k < n
    · have hc0 : ∀ x : InW (RdSt w s b off n tb te g cp k), x.W.cell? ⟨b, off + k * 2, none⟩ = some (.int .u32 (tb k)) := fun x => (x.h.t k hlt).1
      have hc1 : ∀ x : InW (RdSt w s b off n tb te g cp k), x.W.cell? ⟨b, off + (k - 1) * 2, none⟩ = some (.int .u32 (tb (k - 1))) := fun x => (x.h.t (k - 1) (by omega)).1
      have hc2 : ∀ x : InW (RdSt w s b off n tb te g cp k), x.W.cell? ⟨b, off + k * 2 + 1, none⟩ = some (.bool (te k)) := fun x => (x.h.t k hlt).2
      have e1 : IntKind.i64.wrap ((k : Int) - 1) = (k : Int) - 1 := IntWalk.i64_in _ (by omega)
      have e2 : (0 : Int) ≤ (k : Int) - 1 ∨ k = 0 := by omega
      have e3 : ((k : Int) - 1).toNat = k - 1 := by omega
      have e4 : (k : Int) - 1 < (n : Int) := by omega
      have l0 : (0 : Int) ≤ (k : Int) := by omega
      have l1 : (k : Int) < (n : Int) := by omega
      by_cases hk0 : k = 0
      · have HRS1 : Hid (riseB tb (k + 1) = true) := by show _ = _; rw [hk0]; rfl
        have e5 : ¬ 0 < k := by omega
        have e6 : ¬ (0 : Int) < (k : Int) := by omega
        clear hk0 e2
        go_wp2_with fail
        refine wp_region_S (RdSt w s b off n tb te g cp k) (by kernel_rfl) (by kernel_rfl) ⟨st.r, st.t, st.bel.drew, st.own⟩ ?_
        clear st
        intro hne
        repeat (first | go_big_quiet_skip | (go_big_quiet_want; go_big_quiet_op; go_big_quiet_on))
        refine wpQuiet_nil ?_
        intro w4 h4
        have st := h4.out
        clear h4 hne hc0 hc1 hc2 e1 e3 e4
        cases hte : te k with
        | true =>
          have c0 := (st.t k hlt).1
          have c2 := (st.t k hlt).2
          rw [hte] at c2
          have hown' := World.ownsRow.alloc st.own (.cells #[.int .u32 (tb k), .int .u32 1] 34)
          have hgb := own_base st.own
          have hbb := st.r.lt
          have hsn := Lib.hid (tag_snoc s n k tb te hlt)
          rw [hte, show bit true = 1 from rfl] at hsn
          clear hte
          go_wp2_with (first | (refine wpList_append_own _ rfl (.tmp 56) (.tmp 63) 149 rfl (w.heap.size + 1) 34 i0 (.int .u32 0) 1 4 Tryd.underlying149 hi hz0 hz1 hz2 rfl (by decide) _ (4 + 2 * k) _ rfl hown' ⟨w4.heap.size, 0, none⟩ 2 2 [.int .u32 (tb k), .int .u32 1] rfl rfl (numNews2 w4 (tb k) 1) (numOne2 (tb k) 1) (by unfold maxLen; omega) (by omega) (by simp; omega) ?restat))
          intro v' w7 hown7 hg7 _
          rw [hsn.out, show 4 + 2 * k + 2 = 4 + 2 * (k + 1) by omega] at hown7
          obtain ⟨g', cap', hv'⟩ := own_form' hown7 (by omega)
          subst hv'
          have hL4 : Below w.heap.size w (w4.alloc (.cells #[.int .u32 (tb k), .int .u32 1] 34)) := st.bel.alloc st.bel.size _
          have hL7 : Below w.heap.size w w7 := hL4.grown hg7 hL4.size (fun j e => by simp [Value.ownBlock] at e; omega)
          have st7 : RdSt w s b off n tb te g' cap' (k + 1) w7 := ⟨(hg7.block _ (st.r.alloc _).lt (by simp [Value.ownBlock]; omega)).trans (st.r.alloc _), HSEG.out.below hL7 hblt, hL7, hown7⟩
          clear st hown' hown7 hg7 hbs c0 c2 hsn hL4 hL7
          go_wp2_with fail
          go_roundw
          case rel => first | exact ⟨k + 1, g', cap', by omega, by go_num, rfl, HRS1, st7⟩ | ((repeat apply Exists.intro); exact ⟨⟨k + 1, g', cap', by omega, by go_num, rfl, HRS1, st7⟩, rfl⟩)
          case measure => simp [intOf]; omega
        | false =>
          have c0 := (st.t k hlt).1
          have c2 := (st.t k hlt).2
          rw [hte] at c2
          have hown' := World.ownsRow.alloc st.own (.cells #[.int .u32 (tb k), .int .u32 0] 34)
          have hgb := own_base st.own
          have hbb := st.r.lt
          have hsn := Lib.hid (tag_snoc s n k tb te hlt)
          rw [hte, show bit false = 0 from rfl] at hsn
          clear hte
          go_wp2_with (first | (refine wpList_append_own _ rfl (.tmp 56) (.tmp 63) 149 rfl (w.heap.size + 1) 34 i0 (.int .u32 0) 1 4 Tryd.underlying149 hi hz0 hz1 hz2 rfl (by decide) _ (4 + 2 * k) _ rfl hown' ⟨w4.heap.size, 0, none⟩ 2 2 [.int .u32 (tb k), .int .u32 0] rfl rfl (numNews2 w4 (tb k) 0) (numOne2 (tb k) 0) (by unfold maxLen; omega) (by omega) (by simp; omega) ?restaf))
          intro v' w7 hown7 hg7 _
          rw [hsn.out, show 4 + 2 * k + 2 = 4 + 2 * (k + 1) by omega] at hown7
          obtain ⟨g', cap', hv'⟩ := own_form' hown7 (by omega)
          subst hv'
          have hL4 : Below w.heap.size w (w4.alloc (.cells #[.int .u32 (tb k), .int .u32 0] 34)) := st.bel.alloc st.bel.size _
          have hL7 : Below w.heap.size w w7 := hL4.grown hg7 hL4.size (fun j e => by simp [Value.ownBlock] at e; omega)
          have st7 : RdSt w s b off n tb te g' cap' (k + 1) w7 := ⟨(hg7.block _ (st.r.alloc _).lt (by simp [Value.ownBlock]; omega)).trans (st.r.alloc _), HSEG.out.below hL7 hblt, hL7, hown7⟩
          clear st hown' hown7 hg7 hbs c0 c2 hsn hL4 hL7
          go_wp2_with fail
          go_roundw
          case rel => first | exact ⟨k + 1, g', cap', by omega, by go_num, rfl, HRS1, st7⟩ | ((repeat apply Exists.intro); exact ⟨⟨k + 1, g', cap', by omega, by go_num, rfl, HRS1, st7⟩, rfl⟩)
          case measure => simp [intOf]; omega
      · have e2 : (0 : Int) ≤ (k : Int) - 1 := by omega
        have e5 : 0 < k := by omega
        have e6 : (0 : Int) < (k : Int) := by omega
        by_cases hri : tb (k - 1) < tb k
        · have HRS1 : Hid (riseB tb (k + 1) = true) := by show _ = _; rw [riseB_succ, HRS.out, decide_eq_true hri]; simp
          have d1 : decide (tb k ≤ tb (k - 1)) = false := by simp; omega
          clear hk0
          go_wp2_with fail
          refine wp_region_S (RdSt w s b off n tb te g cp k) (by kernel_rfl) (by kernel_rfl) ⟨st.r, st.t, st.bel.drew, st.own⟩ ?_
          clear st
          intro hne
          repeat (first | go_big_quiet_skip | (go_big_quiet_want; go_big_quiet_op; go_big_quiet_on))
          refine wpQuiet_nil ?_
          intro w4 h4
          have st := h4.out
          clear h4 hne hc0 hc1 hc2 e1 e2 e3 e4 e5 e6
          cases hte : te k with
          | true =>
            have c0 := (st.t k hlt).1
            have c2 := (st.t k hlt).2
            rw [hte] at c2
            have hown' := World.ownsRow.alloc st.own (.cells #[.int .u32 (tb k), .int .u32 1] 34)
            have hgb := own_base st.own
            have hbb := st.r.lt
            have hsn := Lib.hid (tag_snoc s n k tb te hlt)
            rw [hte, show bit true = 1 from rfl] at hsn
            clear hte
            go_wp2_with (first | (refine wpList_append_own _ rfl (.tmp 56) (.tmp 63) 149 rfl (w.heap.size + 1) 34 i0 (.int .u32 0) 1 4 Tryd.underlying149 hi hz0 hz1 hz2 rfl (by decide) _ (4 + 2 * k) _ rfl hown' ⟨w4.heap.size, 0, none⟩ 2 2 [.int .u32 (tb k), .int .u32 1] rfl rfl (numNews2 w4 (tb k) 1) (numOne2 (tb k) 1) (by unfold maxLen; omega) (by omega) (by simp; omega) ?restbt))
            intro v' w7 hown7 hg7 _
            rw [hsn.out, show 4 + 2 * k + 2 = 4 + 2 * (k + 1) by omega] at hown7
            obtain ⟨g', cap', hv'⟩ := own_form' hown7 (by omega)
            subst hv'
            have hL4 : Below w.heap.size w (w4.alloc (.cells #[.int .u32 (tb k), .int .u32 1] 34)) := st.bel.alloc st.bel.size _
            have hL7 : Below w.heap.size w w7 := hL4.grown hg7 hL4.size (fun j e => by simp [Value.ownBlock] at e; omega)
            have st7 : RdSt w s b off n tb te g' cap' (k + 1) w7 := ⟨(hg7.block _ (st.r.alloc _).lt (by simp [Value.ownBlock]; omega)).trans (st.r.alloc _), HSEG.out.below hL7 hblt, hL7, hown7⟩
            clear st hown' hown7 hg7 hbs c0 c2 hsn hL4 hL7
            go_wp2_with fail
            go_roundw
            case rel => first | exact ⟨k + 1, g', cap', by omega, by go_num, rfl, HRS1, st7⟩ | ((repeat apply Exists.intro); exact ⟨⟨k + 1, g', cap', by omega, by go_num, rfl, HRS1, st7⟩, rfl⟩)
            case measure => simp [intOf]; omega
          | false =>
            have c0 := (st.t k hlt).1
            have c2 := (st.t k hlt).2
            rw [hte] at c2
            have hown' := World.ownsRow.alloc st.own (.cells #[.int .u32 (tb k), .int .u32 0] 34)
            have hgb := own_base st.own
            have hbb := st.r.lt
            have hsn := Lib.hid (tag_snoc s n k tb te hlt)
            rw [hte, show bit false = 0 from rfl] at hsn
            clear hte
            go_wp2_with (first | (refine wpList_append_own _ rfl (.tmp 56) (.tmp 63) 149 rfl (w.heap.size + 1) 34 i0 (.int .u32 0) 1 4 Tryd.underlying149 hi hz0 hz1 hz2 rfl (by decide) _ (4 + 2 * k) _ rfl hown' ⟨w4.heap.size, 0, none⟩ 2 2 [.int .u32 (tb k), .int .u32 0] rfl rfl (numNews2 w4 (tb k) 0) (numOne2 (tb k) 0) (by unfold maxLen; omega) (by omega) (by simp; omega) ?restbf))
            intro v' w7 hown7 hg7 _
            rw [hsn.out, show 4 + 2 * k + 2 = 4 + 2 * (k + 1) by omega] at hown7
            obtain ⟨g', cap', hv'⟩ := own_form' hown7 (by omega)
            subst hv'
            have hL4 : Below w.heap.size w (w4.alloc (.cells #[.int .u32 (tb k), .int .u32 0] 34)) := st.bel.alloc st.bel.size _
            have hL7 : Below w.heap.size w w7 := hL4.grown hg7 hL4.size (fun j e => by simp [Value.ownBlock] at e; omega)
            have st7 : RdSt w s b off n tb te g' cap' (k + 1) w7 := ⟨(hg7.block _ (st.r.alloc _).lt (by simp [Value.ownBlock]; omega)).trans (st.r.alloc _), HSEG.out.below hL7 hblt, hL7, hown7⟩
            clear st hown' hown7 hg7 hbs c0 c2 hsn hL4 hL7
            go_wp2_with fail
            go_roundw
            case rel => first | exact ⟨k + 1, g', cap', by omega, by go_num, rfl, HRS1, st7⟩ | ((repeat apply Exists.intro); exact ⟨⟨k + 1, g', cap', by omega, by go_num, rfl, HRS1, st7⟩, rfl⟩)
            case measure => simp [intOf]; omega
        · have HO : Hid (jdOk s n tb = false) := by show _ = _; unfold jdOk; rw [riseB_no (by omega) hlt hri]; simp
          have d1 : decide (tb k ≤ tb (k - 1)) = true := by simp; omega
          clear hk0
          go_wp2_with fail
          refine wp_region_S (RdSt w s b off n tb te g cp k) (by kernel_rfl) (by kernel_rfl) ⟨st.r, st.t, st.bel.drew, st.own⟩ ?_
          clear st
          intro hne
          repeat (first | go_big_quiet_skip | (go_big_quiet_want; go_big_quiet_op; go_big_quiet_on))
          refine wpQuiet_nil ?_
          intro w4 h4
          have st := h4.out
          have hR := st.r
          clear h4 hne hc0 hc1 hc2 e1 e2 e3 e4 e5 e6
          go_wp2_with (first | (refine wp_storeBlk rfl (.tmp 4) (.tmp 50) rfl w.heap.size (fun _ => 0) _ rfl rfl hR ?_))
          intro w5 hR5 ho5
          go_wp2_with fail
          exact bodyPost_ret (results_blk2 rfl _ _ w.heap.size _ rfl hR5) rfl ⟨by rw [jdZ, HO.out]; rfl, st.bel.trans (ho5.below (by omega))⟩
    · obtain rfl : k = n := by omega
      have HO : Hid (jdOk s k tb = true) := by show _ = _; unfold jdOk; rw [HQ.out, HRS.out]; simp [h1, h2]
      have hrow := own_nums st.own
      have HROW := Lib.hid hrow
      have hR6 := st.r
      have hL6 := st.bel
      clear hbs st hrow
      go_wp2_with fail
      refine (rblock_any _ (4 + 2 * k) cp (jw 1 s k (tagR tb te k)) (jw_wds (by decide) (by omega) (by omega) (tagR_wds HM.out k)) (by omega) _ HROW.out).mono ?_
      rintro e w7 ⟨rfl, hb7⟩
      rw [wz_numR (l := jw 1 s k (tagR tb te k)) (fun j _ => by
        split
        · rfl
        · unfold jw tagR; rw [if_neg (by omega), if_neg (by omega), if_neg (by omega), if_neg (by omega), if_neg (by omega)])]
      have hR7 := hR6.below hb7 hR6.lt
      have hL7 : Below w.heap.size w w7 := hL6.trans (hb7.mono hL6.size)
      clear hR6 hL6 hb7 HROW
      go_wp2_with (first | (refine wp_storeBlk rfl (.tmp 4) (.tmp 66) rfl w.heap.size (wz (jw 1 s k (tagR tb te k))) _ rfl rfl hR7 ?_))
      intro w8 hR8 ho8
      go_wp2_with fail
      exact bodyPost_ret (results_blk2 rfl _ _ w.heap.size _ rfl hR8) rfl ⟨by rw [jdZ, HO.out]; rfl, hL7.trans (ho8.below (by omega))⟩
end Go.Proofs.YtnbmmhoofilmfaaDoor
