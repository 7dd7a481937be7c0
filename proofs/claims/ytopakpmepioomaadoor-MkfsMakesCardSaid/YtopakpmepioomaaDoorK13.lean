/- Texts of this claim, merged by a program (a claim may have 60 files): Bits. -/
import Derived.Test.YtopakpmepioomaaDoorK01
import Derived.Test.YtopakpmepioomaaDoorK02
import Derived.Laws.BitsAllLaws
import Derived.Test.YtopakpmepioomaaDoorK12
/- bits.is, bits.mask, bits.Set; mkfs.bitmap. -/
namespace Go.Proofs.YtopakpmepioomaaDoor
open Go.RowKit
set_option linter.unusedVariables false

theorem bitIs_any (i : Nat) (hi : i < 2048) (w : World) : Calls Tryd.prog 92 #[.int .i64 (i : Int)] w fun e w' => e = .returned (.bool true) ∧ w = w' := by
  have h1 : (i : Int) < 2048 := by omega
  have h2 : decide ((i : Int) < 2048) = true := decide_eq_true h1
  have h0 : (0 : Int) ≤ (i : Int) := by omega
  have h3 : decide ((0 : Int) ≤ (i : Int)) = true := decide_eq_true h0
  go_enter Tryd.func92, Tryd.ntmps92
  go_wp2_with fail
  go_ret
  exact ⟨rfl, rfl⟩
theorem u8_pow (j : Nat) (hj : j < 8) : (2 : Int) ^ j % 256 = ((2 ^ j : Nat) : Int) := by
  have : j = 0 ∨ j = 1 ∨ j = 2 ∨ j = 3 ∨ j = 4 ∨ j = 5 ∨ j = 6 ∨ j = 7 := by omega
  rcases this with rfl | rfl | rfl | rfl | rfl | rfl | rfl | rfl <;> rfl
theorem bitMask_any (i : Nat) (hi : i < 2048) (w : World) : Calls Tryd.prog 48 #[.int .i64 (i : Int)] w fun e w' => e = .returned (.int .u8 ((2 ^ (i % 8) : Nat) : Int)) ∧ w = w' := by
  have h0 : (i : Int).tmod 8 = (i : Int) % 8 := Int.tmod_eq_emod_of_nonneg (by omega)
  have hq := u8_pow (i % 8) (Nat.mod_lt _ (by decide))
  have HQ := Lib.hid hq
  clear hq
  go_enter Tryd.func48, Tryd.ntmps48
  go_wp2_with fail
  go_ret
  exact ⟨by rw [← HQ.out]; rfl, rfl⟩
theorem pow_lt8 (i : Nat) : 2 ^ (i % 8) < 256 := by
  have : i % 8 = 0 ∨ i % 8 = 1 ∨ i % 8 = 2 ∨ i % 8 = 3 ∨ i % 8 = 4 ∨ i % 8 = 5 ∨ i % 8 = 6 ∨ i % 8 = 7 := by omega
  rcases this with h | h | h | h | h | h | h | h <;> (rw [h]; decide)
/-- the pointer's block -/
structure BsS (g : Nat) (P : Nat → Bool) (W0 W : World) : Prop where
  b : Blk W g 32 256 (bZ P)
  d : ∃ m, W = W0.drewN m
set_option maxRecDepth 100000 in
set_option maxHeartbeats 2000000 in
theorem bitSet_any (g i : Nat) (hi : i < 2048) (P : Nat → Bool) (hP : P i = false) (w : World) (hB : Blk w g 32 256 (bZ P)) :
    Calls Tryd.prog 64 #[.pointer (some ⟨g, 0, none⟩), .int .i64 (i : Int)] w fun e w' => e = .returned (.bool true) ∧ Blk w' g 32 256 (bZ (setB P i)) ∧ Only g w w' := by
  have h0 : (i : Int).tdiv 8 = ((i / 8 : Nat) : Int) := by rw [Int.tdiv_eq_ediv_of_nonneg (by omega)]; omega
  have h1 : (0 : Int) ≤ ((i / 8 : Nat) : Int) := by omega
  have h2 : ((i / 8 : Nat) : Int) < 256 := by omega
  have ha : Hid (bits .and .u8 (bZ P (i / 8)) ((2 ^ (i % 8) : Nat) : Int) = 0) := by
    show _ = _
    have e := by8_and P (i / 8) (i % 8) (Nat.mod_lt _ (by decide))
    rw [show 8 * (i / 8) + i % 8 = i by omega, hP] at e
    unfold bZ
    rw [u8_and_nat _ _ (by8_lt _ _) (pow_lt8 i), e]
    rfl
  have ho : Hid (bits .or .u8 (bZ P (i / 8)) ((2 ^ (i % 8) : Nat) : Int) = bZ (setB P i) (i / 8)) := by
    show _ = _
    unfold bZ
    rw [u8_or_nat _ _ (by8_lt _ _) (pow_lt8 i), by8_or _ _ _ (Nat.mod_lt _ (by decide)), show 8 * (i / 8) + i % 8 = i by omega]
  have st : BsS g P w w := ⟨hB, 0, rfl⟩
  have hi8 : i / 8 < 256 := by omega
  have HMK : Hid (∀ W, Calls Tryd.prog 48 #[.int .i64 (i : Int)] W fun e w' => e = .returned (.int .u8 ((2 ^ (i % 8) : Nat) : Int)) ∧ W = w') := fun W => bitMask_any i hi W
  generalize ((2 ^ (i % 8) : Nat) : Int) = M at *
  generalize hk : i / 8 = k at *
  go_enter Tryd.func64, Tryd.ntmps64
  go_wp2_with fail
  refine wp_region_S (BsS g P w) (by kernel_rfl) (by kernel_rfl) ⟨st.b, 1, rfl⟩ ?_
  intro hne
  have hc : ∀ y : InW (BsS g P w), y.W.cell? ⟨g, k, none⟩ = some (.int .u8 (bZ P k)) := fun y => by have := y.h.b.seg k hi8; rwa [Nat.zero_add] at this
  first | go_big_quiet_skip | (go_big_quiet_want; go_big_quiet_op; go_big_quiet_on)
  first | go_big_quiet_skip | (go_big_quiet_want; go_big_quiet_op; go_big_quiet_on)
  first | go_big_quiet_skip | (go_big_quiet_want; go_big_quiet_op; go_big_quiet_on)
  first | go_big_quiet_skip | (go_big_quiet_want; go_big_quiet_op; go_big_quiet_on)
  go_big_quiet_want
  go_big_quiet_op
  refine ⟨_, fun s => q_call s (fun W hW => (bitIs_any i hi W).mono fun e w' h => ⟨h.1, h.2 ▸ hW⟩), ?_⟩
  go_big_quiet_on
  first | go_big_quiet_skip | (go_big_quiet_want; go_big_quiet_op; go_big_quiet_on)
  first | go_big_quiet_skip | (go_big_quiet_want; go_big_quiet_op; go_big_quiet_on)
  first | go_big_quiet_skip | (go_big_quiet_want; go_big_quiet_op; go_big_quiet_on)
  first | go_big_quiet_skip | (go_big_quiet_want; go_big_quiet_op; go_big_quiet_on)
  first | go_big_quiet_skip | (go_big_quiet_want; go_big_quiet_op; go_big_quiet_on)
  first | go_big_quiet_skip | (go_big_quiet_want; go_big_quiet_op; go_big_quiet_on)
  first | go_big_quiet_skip | (go_big_quiet_want; go_big_quiet_op; go_big_quiet_on)
  first | go_big_quiet_skip | (go_big_quiet_want; go_big_quiet_op; go_big_quiet_on)
  first | go_big_quiet_skip | (go_big_quiet_want; go_big_quiet_op; go_big_quiet_on)
  first | go_big_quiet_skip | (go_big_quiet_want; go_big_quiet_op; go_big_quiet_on)
  go_big_quiet_want
  go_big_quiet_op
  refine ⟨_, fun s => q_call s (fun W hW => (HMK.out W).mono fun e w' h => ⟨h.1, h.2 ▸ hW⟩), ?_⟩
  go_big_quiet_on
  have ha' := ha.out
  first | go_big_quiet_skip | (go_big_quiet_want; go_big_quiet_op; go_big_quiet_on)
  first | go_big_quiet_skip | (go_big_quiet_want; go_big_quiet_op; go_big_quiet_on)
  first | go_big_quiet_skip | (go_big_quiet_want; go_big_quiet_op; go_big_quiet_on)
  refine wpQuiet_nil ?_
  intro w5 h5
  obtain ⟨m5, hm5⟩ := h5.out.d
  have st5 := h5.out.b
  clear h5 hne hc ha' st
  go_wp2_with fail
  refine wp_region_bar2 (BsS g P w) 11 (by kernel_rfl) (by kernel_rfl) (by kernel_rfl) (by kernel_rfl) (by kernel_rfl) (by decide) ⟨st5, m5 + 1, by rw [hm5]; rfl⟩ ?_
  simp only [List.take_succ_cons, List.take_zero, List.drop_succ_cons, List.drop_zero]
  intro hne
  have hc : ∀ y : InW (BsS g P w), y.W.cell? ⟨g, k, none⟩ = some (.int .u8 (bZ P k)) := fun y => by have := y.h.b.seg k hi8; rwa [Nat.zero_add] at this
  first | go_big_quiet_skip | (go_big_quiet_want; go_big_quiet_op; go_big_quiet_on)
  first | go_big_quiet_skip | (go_big_quiet_want; go_big_quiet_op; go_big_quiet_on)
  first | go_big_quiet_skip | (go_big_quiet_want; go_big_quiet_op; go_big_quiet_on)
  first | go_big_quiet_skip | (go_big_quiet_want; go_big_quiet_op; go_big_quiet_on)
  first | go_big_quiet_skip | (go_big_quiet_want; go_big_quiet_op; go_big_quiet_on)
  first | go_big_quiet_skip | (go_big_quiet_want; go_big_quiet_op; go_big_quiet_on)
  first | go_big_quiet_skip | (go_big_quiet_want; go_big_quiet_op; go_big_quiet_on)
  go_big_quiet_want
  go_big_quiet_op
  refine ⟨_, fun s => q_call s (fun W hW => (HMK.out W).mono fun e w' h => ⟨h.1, h.2 ▸ hW⟩), ?_⟩
  go_big_quiet_on
  have ho' := ho.out
  first | go_big_quiet_skip | (go_big_quiet_want; go_big_quiet_op; go_big_quiet_on)
  first | go_big_quiet_skip | (go_big_quiet_want; go_big_quiet_op; go_big_quiet_on)
  first | go_big_quiet_skip | (go_big_quiet_want; go_big_quiet_op; go_big_quiet_on)
  refine wpQuiet_nil ?_
  intro w6 h6
  have st6 := h6.out
  clear h6 hne hc ho'
  obtain ⟨m6, hm6⟩ := st6.d
  have hB6 := st6.b
  go_wp2_with (first | (refine wp_storeByte rfl (.tmp 34) (.tmp 32) rfl g k (bZ (setB P i) k) rfl rfl hB6 hi8 ?_))
  intro w7 hB7 ho7
  go_wp2_with fail
  go_ret
  have hd : Only g w (w.drewN m6) := (Only.refl _ _).drewN m6
  refine ⟨rfl, hB7.congr fun j hj => ?_, hd.trans ho7⟩
  unfold over
  by_cases e : j = k
  · subst e; rw [if_pos (by omega)]
  · rw [if_neg (by omega)]
    unfold bZ
    rw [by8_other P (by omega)]
def mapB (used size : Nat) (i : Nat) : Bool := decide (i < used) || (decide (size ≤ i) && decide (i < 2048))
/-- up to here the bits are set -/
def preB (n : Nat) (i : Nat) : Bool := decide (i < n)
def midB (used size k : Nat) (i : Nat) : Bool := decide (i < used) || (decide (size ≤ i) && decide (i < k))
theorem preB_set (n : Nat) : setB (preB n) n = preB (n + 1) := by
  funext j; unfold setB preB
  by_cases e : j = n
  · rw [if_pos e, e]; simp
  · rw [if_neg e]; simp; omega
theorem midB_set {used size k : Nat} (h : size ≤ k) : setB (midB used size k) k = midB used size (k + 1) := by
  funext j; unfold setB midB
  by_cases e : j = k
  · rw [if_pos e, e]; simp; omega
  · rw [if_neg e, Bool.eq_iff_iff]; simp; omega
theorem midB_start (used size : Nat) : midB used size size = preB used := by
  funext j; unfold midB preB; rw [Bool.eq_iff_iff]; simp; omega
structure BmS (w : World) (P : Nat → Bool) (W : World) : Prop where
  r : Blk W w.heap.size 32 256 (fun _ => 0)
  b : Blk W (w.heap.size + 1) 32 256 (bZ P)
  bel : Below w.heap.size w W
set_option maxRecDepth 100000 in
set_option maxHeartbeats 2000000 in
theorem bitmap_any (used size : Nat) (h1 : used ≤ size) (h2 : size ≤ 2048) (w : World) :
    Calls Tryd.prog 34 #[.int .i64 (used : Int), .int .i64 (size : Int)] w fun e w' => e = .returned (bval (bZ (mapB used size))) ∧ Below w.heap.size w w' := by
  have hal := zero_block
  have st : Hid (BmS w (preB 0) ((w.alloc (.cells (Ks .u8 256 (fun _ => 0)).toArray 32)).alloc (.cells (Ks .u8 256 (fun _ => 0)).toArray 32))) := by
    refine ⟨(Blk.new w _ _ _).alloc _, ?_, ((Below.refl _ _).alloc (Nat.le_refl _) _).alloc (by simp) _⟩
    have := Blk.new (w.alloc (.cells (Ks .u8 256 (fun _ => 0)).toArray 32)) 32 256 (fun _ => 0)
    simp only [World.size_alloc] at this
    exact this.congr fun i _ => rfl
  go_enter Tryd.func34, Tryd.ntmps34
  go_wp2_with fail
  go_loopw [6, 9] (fun v u wr => ∃ k : Nat, k ≤ used ∧ u = .int .i64 (k : Int) ∧ BmS w (preB k) wr) (fun _ u _ => used - (intOf u).toNat)
  case atStart => exact ⟨0, by omega, rfl, st.out⟩
  case round =>
    clear st
    obtain ⟨k, hk, rfl, st⟩ := hrel
    by_cases hlt : k < used
    · have hlt' : (k : Int) < (used : Int) := by omega
      go_wp2_with fail
      refine (bitSet_any (w.heap.size + 1) k (by omega) (preB k) (by unfold preB; simp) _ st.b).mono ?_
      rintro e w5 ⟨rfl, hB5, ho5⟩
      rw [preB_set] at hB5
      have st5 : BmS w (preB (k + 1)) w5 := ⟨st.r.only ho5 (by omega), hB5, st.bel.trans (ho5.below (by omega))⟩
      clear st hB5 ho5
      go_wp2_with fail
      go_roundw
      case rel => first | exact ⟨k + 1, by omega, by go_num, st5⟩ | exact ⟨k + 1, by omega, rfl, st5⟩
      case measure => simp [intOf]; omega
    · obtain rfl : k = used := by omega
      have hs := st.b
      rw [← midB_start k size] at hs
      have st0 : Hid (BmS w (midB k size size) wr) := ⟨st.r, hs, st.bel⟩
      clear st hs
      go_wp2_with fail
      go_loopw [7] (fun u wr => ∃ i : Nat, size ≤ i ∧ i ≤ 2048 ∧ u = .int .i64 (i : Int) ∧ BmS w (midB k size i) wr) (fun u _ => 2048 - (intOf u).toNat)
      case atStart => exact ⟨size, by omega, h2, rfl, st0.out⟩
      case round =>
        clear st0
        obtain ⟨i, hi1, hi2, rfl, st⟩ := hrel
        by_cases hlt3 : i < 2048
        · have hlt4 : (i : Int) < 2048 := by omega
          go_wp2_with fail
          refine (bitSet_any (w.heap.size + 1) i hlt3 (midB k size i) (by unfold midB; simp; omega) _ st.b).mono ?_
          rintro e w5 ⟨rfl, hB5, ho5⟩
          rw [midB_set hi1] at hB5
          have st5 : BmS w (midB k size (i + 1)) w5 := ⟨st.r.only ho5 (by omega), hB5, st.bel.trans (ho5.below (by omega))⟩
          clear st hB5 ho5
          go_wp2_with fail
          go_roundw
          case rel => first | exact ⟨i + 1, by omega, by omega, by go_num, st5⟩ | exact ⟨i + 1, by omega, by omega, rfl, st5⟩
          case measure => simp [intOf]; omega
        · obtain rfl : i = 2048 := by omega
          have hb := st.b
          have hr := st.r
          go_wp2_with (first | (refine wp_loadBlkG rfl (.tmp 5) rfl (w.heap.size + 1) _ rfl hb ?_) | (refine wp_storeBlk rfl (.tmp 4) (.tmp 22) rfl w.heap.size (bZ (midB k size 2048)) _ rfl rfl hr ?_))
          intro w7 hR7 ho7
          go_wp2_with fail
          exact bodyPost_ret (results_blk rfl _ _ w.heap.size _ rfl hR7) rfl ⟨rfl, st.bel.trans (ho7.below (Nat.le_refl _))⟩
end Go.Proofs.YtopakpmepioomaaDoor
