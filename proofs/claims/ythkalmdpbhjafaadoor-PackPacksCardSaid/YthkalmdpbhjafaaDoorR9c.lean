/- The contract of quernref09.WriteRevoke. -/
import Derived.Test.YthkalmdpbhjafaaDoorR9b
namespace Go.Proofs.YthkalmdpbhjafaaDoor
open Go.RowKit
set_option linter.unusedVariables false

theorem own_form' {W : World} {base n : Nat} {e : TypeId} {size : Nat} {v : Value} {xs : List Value} (h : W.ownsRow base e size v n xs) (hn : 0 < n) : ∃ g cap, v = .slice (some ⟨g, 0, none⟩) n cap := by
  rcases h.2 with ⟨_, h0⟩ | ⟨g', cap', cur, hv, _⟩
  · omega
  · exact ⟨g', cap', hv⟩
theorem own4 (w : World) (k s f : Int) (r : Nat → Int) (base : Nat) (hb : base ≤ w.heap.size) : (w.alloc (.cells #[.int .u32 1280199249, .int .u32 k, .int .u32 s, .int .u32 f] 22)).ownsRow base 22 1 (.slice (some ⟨w.heap.size, 0, none⟩) 4 4) 4 (Ks .u32 4 (jw k s f r)) :=
  ⟨by simp [Ks], .inr ⟨_, 4, _, rfl, hb, heap_alloc_new w _, by omega, by unfold maxLen; omega, rfl, rfl⟩⟩
theorem Ks_append (n k : Nat) (M m : Nat → Int) (h : ∀ i, i < k → m i = M (n + i)) : Ks .u32 n M ++ Ks .u32 k m = Ks .u32 (n + k) M := by
  induction k with
  | zero => simp [Ks]
  | succ k ih =>
    rw [Ks_snoc, ← List.append_assoc, ih (fun i hi => h i (by omega)), h k (by omega), ← Nat.add_assoc, Ks_snoc]
structure RvSt (w : World) (b off n : Nat) (m : Nat → Int) (W : World) : Prop where
  r : Blk W w.heap.size 40 256 (fun _ => 0)
  t : NumSeg W b off n m
  bel : Below w.heap.size w W

set_option maxRecDepth 100000 in
set_option maxHeartbeats 2000000 in
theorem rWriteRevoke_any (s : Int) (a : Option Addr) (n cap : Nat) (m : Nat → Int) (hs : 0 ≤ s ∧ s < 4294967296) (hm : Wds m) (hn : (n : Int) ≤ 9223372036854775807) (w : World) (hT : NumRow w a n m) :
    Calls Tryd.prog 28 #[.int .u32 s, .slice a n cap] w fun e w' => e = .returned (.tuple #[bval (revZ s n m), .int .i64 (errOf (revOk s n m) 2)]) ∧ Below w.heap.size w w' := by
  obtain ⟨hs0, hs1⟩ := hs
  have hal := zero_block
  have hR0 : Hid (Blk (w.alloc (.cells (Ks .u8 256 (fun _ => 0)).toArray 40)) w.heap.size 40 256 (fun _ => 0)) := Blk.new _ _ _ _
  have hL0 : Hid (Below w.heap.size w (w.alloc (.cells (Ks .u8 256 (fun _ => 0)).toArray 40))) := (Below.refl _ _).alloc (Nat.le_refl _) _
  have HT := Lib.hid hT
  have HM := Lib.hid hm
  clear hT hm
  go_enter Tryd.func28, Tryd.ntmps28
  go_wp2_with fail
  refine ((rSeq_any s _).mono (R' := fun e w' => e = .returned (.bool (seqB s)) ∧ Blk w' w.heap.size 40 256 (fun _ => 0) ∧ Below w.heap.size w w') (fun e w' h => ⟨h.1, h.2 ▸ hR0.out, h.2 ▸ hL0.out⟩)).mono ?_
  rintro e W ⟨rfl, hR, hL⟩
  clear hR0 hL0
  by_cases hq : seqB s = true
  rotate_left
  · rw [Bool.not_eq_true] at hq
    have HO : Hid (revOk s n m = false) := by show _ = _; unfold revOk; rw [hq]; rfl
    rw [hq]
    clear hq
    go_wp2_with (first | (refine wp_storeBlk rfl (.tmp 4) (.tmp 20) rfl w.heap.size (fun _ => 0) _ rfl rfl hR ?_))
    intro w2 hR2 ho2
    go_wp2_with fail
    exact bodyPost_ret (results_blk2 rfl _ _ w.heap.size _ rfl hR2) rfl ⟨by rw [revZ, HO.out]; rfl, hL.trans (ho2.below (by omega))⟩
  by_cases h1 : 1 ≤ n
  rotate_left
  · have HO : Hid (revOk s n m = false) := by show _ = _; unfold revOk; simp [h1]
    rw [hq]
    clear hq
    go_wp2_with (first | (refine wp_storeBlk rfl (.tmp 4) (.tmp 20) rfl w.heap.size (fun _ => 0) _ rfl rfl hR ?_))
    intro w2 hR2 ho2
    go_wp2_with fail
    exact bodyPost_ret (results_blk2 rfl _ _ w.heap.size _ rfl hR2) rfl ⟨by rw [revZ, HO.out]; rfl, hL.trans (ho2.below (by omega))⟩
  by_cases h2 : n ≤ 60
  rotate_left
  · have HO : Hid (revOk s n m = false) := by show _ = _; unfold revOk; simp [h2]
    rw [hq]
    clear hq
    go_wp2_with (first | (refine wp_storeBlk rfl (.tmp 4) (.tmp 20) rfl w.heap.size (fun _ => 0) _ rfl rfl hR ?_))
    intro w2 hR2 ho2
    go_wp2_with fail
    exact bodyPost_ret (results_blk2 rfl _ _ w.heap.size _ rfl hR2) rfl ⟨by rw [revZ, HO.out]; rfl, hL.trans (ho2.below (by omega))⟩
  have HQ := Lib.hid hq
  rw [hq]
  clear hq
  obtain ⟨b, off, rfl, hseg⟩ : ∃ b off, a = some ⟨b, off, none⟩ ∧ NumSeg w b off n m := by
    rcases HT.out with h | h
    · omega
    · exact h
  have hblt := hseg.lt h1
  have st0 : RvSt w b off n m W := ⟨hR, hseg.below hL hblt, hL⟩
  clear HT hseg hR hL
  go_wp2_with fail
  go_loopw [6] (fun u wr => ∃ k : Nat, 1 ≤ k ∧ k ≤ n ∧ u = .int .i64 (k : Int) ∧ Hid (riseB m k = true) ∧ RvSt w b off n m wr) (fun u _ => n - (intOf u).toNat)
  case atStart => exact ⟨1, by omega, h1, rfl, rfl, st0⟩
  case round =>
    clear st0
    obtain ⟨k, hk1, hk, rfl, HRS, st⟩ := hrel
    by_cases hlt : k < n
    · have hc0 : ∀ x : InW (RvSt w b off n m), x.W.cell? ⟨b, off + k, none⟩ = some (.int .u32 (m k)) := fun x => x.h.t k hlt
      have hc1 : ∀ x : InW (RvSt w b off n m), x.W.cell? ⟨b, off + (k - 1), none⟩ = some (.int .u32 (m (k - 1))) := fun x => x.h.t (k - 1) (by omega)
      have e1 : IntKind.i64.wrap ((k : Int) - 1) = (k : Int) - 1 := IntWalk.i64_in _ (by omega)
      have e2 : (0 : Int) ≤ (k : Int) - 1 := by omega
      have e3 : ((k : Int) - 1).toNat = k - 1 := by omega
      have e4 : (k : Int) - 1 < (n : Int) := by omega
      have l0 : (0 : Int) ≤ (k : Int) := by omega
      have l1 : (k : Int) < (n : Int) := by omega
      by_cases hri : m (k - 1) < m k
      · have HRS1 : Hid (riseB m (k + 1) = true) := by show _ = _; rw [riseB_succ, HRS.out, decide_eq_true hri]; simp
        have d1 : decide (m k ≤ m (k - 1)) = false := by simp; omega
        go_wp2_with fail
        refine wp_region_S (RvSt w b off n m) (by kernel_rfl) (by kernel_rfl) ⟨st.r, st.t, st.bel.drew⟩ ?_
        clear st
        intro hne
        repeat (first | go_big_quiet_skip | (go_big_quiet_want; go_big_quiet_op; go_big_quiet_on))
        refine wpQuiet_nil ?_
        intro w4 h4
        have st := h4.out
        clear h4 hne hc0 hc1 e1 e2 e3 e4
        go_wp2_with fail
        go_roundw
        case rel => first | exact ⟨k + 1, by omega, by omega, by go_num, HRS1, st⟩ | ((repeat apply Exists.intro); exact ⟨⟨k + 1, by omega, by omega, by go_num, HRS1, st⟩, rfl⟩)
        case measure => simp [intOf]; omega
      · have HO : Hid (revOk s n m = false) := by show _ = _; unfold revOk; rw [riseB_no (by omega) hlt hri]; simp
        have d1 : decide (m k ≤ m (k - 1)) = true := by simp; omega
        go_wp2_with fail
        refine wp_region_S (RvSt w b off n m) (by kernel_rfl) (by kernel_rfl) ⟨st.r, st.t, st.bel.drew⟩ ?_
        clear st
        intro hne
        repeat (first | go_big_quiet_skip | (go_big_quiet_want; go_big_quiet_op; go_big_quiet_on))
        refine wpQuiet_nil ?_
        intro w4 h4
        have st := h4.out
        have hR := st.r
        clear h4 hne hc0 hc1 e1 e2 e3 e4
        go_wp2_with (first | (refine wp_storeBlk rfl (.tmp 4) (.tmp 37) rfl w.heap.size (fun _ => 0) _ rfl rfl hR ?_))
        intro w5 hR5 ho5
        go_wp2_with fail
        exact bodyPost_ret (results_blk2 rfl _ _ w.heap.size _ rfl hR5) rfl ⟨by rw [revZ, HO.out]; rfl, st.bel.trans (ho5.below (by omega))⟩
    · obtain rfl : k = n := by omega
      have HO : Hid (revOk s k m = true) := by show _ = _; unfold revOk; rw [HQ.out, HRS.out]; simp [h1, h2]
      have hbs := run_nums4
      obtain ⟨i0, hi, hz0, hz1, hz2⟩ := info_parts info_u32
      have hR1 := st.r.lt
      have hown := own4 wr 3 s k (numR m k) (w.heap.size + 1) (by omega)
      have hseg1 : NumSeg (wr.alloc (.cells #[.int .u32 1280199249, .int .u32 3, .int .u32 s, .int .u32 (k : Int)] 22)) b off k m := st.t.below ((Below.refl wr.heap.size wr).alloc (Nat.le_refl _) _) (st.t.lt (by omega))
      have hnews : ∀ (j : Nat) (u : Value), (Ks .u32 k m)[j]? = some u → (wr.alloc (.cells #[.int .u32 1280199249, .int .u32 3, .int .u32 s, .int .u32 (k : Int)] 22)).cell? ((⟨b, off, none⟩ : Addr).add j) = some u := fun j u hj => by
        have hjk : j < k := by have := (List.getElem?_eq_some_iff.1 hj).1; rwa [Ks_length] at this
        rw [Ks_get _ _ _ _ hjk] at hj
        rw [addr_add, ← hj]; exact hseg1 j hjk
      have hone : ∀ u ∈ Ks .u32 k m, u.oneCell' = true := fun u hu => by obtain ⟨i, _, rfl⟩ := List.mem_map.1 hu; rfl
      have HNEWS := Lib.hid hnews
      have HONE := Lib.hid hone
      clear hnews hone hseg1
      go_wp2_with (first | (refine wpList_append_own _ rfl (.tmp 42) (.tmp 43) 70 rfl (w.heap.size + 1) 22 i0 (.int .u32 0) 1 4 Tryd.underlying70 hi hz0 hz1 hz2 rfl (by decide) _ 4 _ rfl hown ⟨b, off, none⟩ k cap (Ks .u32 k m) rfl (by rw [Ks_length, Nat.mul_one]) HNEWS.out HONE.out (by unfold maxLen; omega) (by omega) (by simp; omega) ?rest))
      intro v' w6 hown6 hg6 _
      rw [Ks_append 4 k (jw 3 s k (numR m k)) m (fun i hi => by unfold jw numR; rw [if_neg (by omega), if_neg (by omega), if_neg (by omega), if_neg (by omega), if_pos (by omega)]; congr 1; omega)] at hown6
      obtain ⟨g', cap', hv'⟩ := own_form' hown6 (by omega)
      subst hv'
      have hR6 : Blk w6 w.heap.size 40 256 (fun _ => 0) := (hg6.block _ (st.r.alloc _).lt (by simp [Value.ownBlock]; omega)).trans (st.r.alloc _)
      have hL6 : Below w.heap.size w w6 := (st.bel.alloc st.bel.size _).grown hg6 (st.bel.alloc st.bel.size _).size (fun j e => by simp [Value.ownBlock] at e; omega)
      have hrow := own_nums hown6
      have HROW := Lib.hid hrow
      clear hown hown6 hg6 hrow HNEWS HONE hbs st
      go_wp2_with fail
      refine (rblock_any _ (4 + k) cap' (jw 3 s k (numR m k)) (jw_wds (by decide) (by omega) (by omega) (fun j => by unfold numR; split; exact HM.out _; decide)) (by omega) _ HROW.out).mono ?_
      rintro e w7 ⟨rfl, hb7⟩
      rw [wz_numR (l := jw 3 s k (numR m k)) (fun j _ => by
        split
        · rfl
        · unfold jw numR; rw [if_neg (by omega), if_neg (by omega), if_neg (by omega), if_neg (by omega), if_neg (by omega)])]
      have hR7 := hR6.below hb7 hR6.lt
      have hL7 : Below w.heap.size w w7 := hL6.trans (hb7.mono hL6.size)
      clear hR6 hL6 hb7 HROW
      go_wp2_with (first | (refine wp_storeBlk rfl (.tmp 4) (.tmp 45) rfl w.heap.size (wz (jw 3 s k (numR m k))) _ rfl rfl hR7 ?_))
      intro w8 hR8 ho8
      go_wp2_with fail
      exact bodyPost_ret (results_blk2 rfl _ _ w.heap.size _ rfl hR8) rfl ⟨by rw [revZ, HO.out]; rfl, hL7.trans (ho8.below (by omega))⟩
end Go.Proofs.YthkalmdpbhjafaaDoor
