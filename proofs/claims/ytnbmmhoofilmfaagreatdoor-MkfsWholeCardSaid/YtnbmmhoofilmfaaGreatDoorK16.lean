/- Texts of this claim, merged by a program (a claim may have 60 files): Bits, MkA. -/
import Derived.Test.YtnbmmhoofilmfaaGreatDoorK03
import Derived.Test.YtnbmmhoofilmfaaGreatDoorK06
import Derived.Test.YtnbmmhoofilmfaaGreatDoorK15
import Derived.Test.YtnbmmhoofilmfaaGreatDoorK14
import Derived.Test.YtnbmmhoofilmfaaGreatDoorK05
import Derived.Laws.BitsAllLaws
import Derived.Test.YtnbmmhoofilmfaaGreatDoorK13
import Derived.Test.YtnbmmhoofilmfaaGreatDoorK10
/- bits.is, bits.mask, bits.Set; mkfs.bitmap. -/
namespace Go.Proofs.YtnbmmhoofilmfaaGreatDoor
open Go.RowKit
set_option linter.unusedVariables false

theorem bitIs_any (i : Nat) (hi : i < 2048) (w : World) : Calls Tryz.prog 53 #[.int .i64 (i : Int)] w fun e w' => e = .returned (.bool true) ∧ w = w' := by
  have h1 : (i : Int) < 2048 := by omega
  have h2 : decide ((i : Int) < 2048) = true := decide_eq_true h1
  have h0 : (0 : Int) ≤ (i : Int) := by omega
  have h3 : decide ((0 : Int) ≤ (i : Int)) = true := decide_eq_true h0
  go_enter Tryz.func53, Tryz.ntmps53
  go_wp2_with fail
  go_ret
  exact ⟨rfl, rfl⟩
theorem u8_pow (j : Nat) (hj : j < 8) : (2 : Int) ^ j % 256 = ((2 ^ j : Nat) : Int) := by
  have : j = 0 ∨ j = 1 ∨ j = 2 ∨ j = 3 ∨ j = 4 ∨ j = 5 ∨ j = 6 ∨ j = 7 := by omega
  rcases this with rfl | rfl | rfl | rfl | rfl | rfl | rfl | rfl <;> rfl
theorem bitMask_any (i : Nat) (hi : i < 2048) (w : World) : Calls Tryz.prog 54 #[.int .i64 (i : Int)] w fun e w' => e = .returned (.int .u8 ((2 ^ (i % 8) : Nat) : Int)) ∧ w = w' := by
  have h0 : (i : Int).tmod 8 = (i : Int) % 8 := Int.tmod_eq_emod_of_nonneg (by omega)
  have hq := u8_pow (i % 8) (Nat.mod_lt _ (by decide))
  have HQ := Lib.hid hq
  clear hq
  go_enter Tryz.func54, Tryz.ntmps54
  go_wp2_with fail
  go_ret
  exact ⟨by rw [← HQ.out]; rfl, rfl⟩
theorem pow_lt8 (i : Nat) : 2 ^ (i % 8) < 256 := by
  have : i % 8 = 0 ∨ i % 8 = 1 ∨ i % 8 = 2 ∨ i % 8 = 3 ∨ i % 8 = 4 ∨ i % 8 = 5 ∨ i % 8 = 6 ∨ i % 8 = 7 := by omega
  rcases this with h | h | h | h | h | h | h | h <;> (rw [h]; decide)
/-- the pointer's block -/
structure BsS (g : Nat) (P : Nat → Bool) (W0 W : World) : Prop where
  b : Blk W g 32 256 (bZ P)
  d : ∃ m, W = W0.drewN m
set_option maxRecDepth 100000 in
set_option maxHeartbeats 2000000 in
theorem bitSet_any (g i : Nat) (hi : i < 2048) (P : Nat → Bool) (hP : P i = false) (w : World) (hB : Blk w g 32 256 (bZ P)) :
    Calls Tryz.prog 31 #[.pointer (some ⟨g, 0, none⟩), .int .i64 (i : Int)] w fun e w' => e = .returned (.bool true) ∧ Blk w' g 32 256 (bZ (setB P i)) ∧ Only g w w' := by
  have h0 : (i : Int).tdiv 8 = ((i / 8 : Nat) : Int) := by rw [Int.tdiv_eq_ediv_of_nonneg (by omega)]; omega
  have h1 : (0 : Int) ≤ ((i / 8 : Nat) : Int) := by omega
  have h2 : ((i / 8 : Nat) : Int) < 256 := by omega
  have ha : Hid (bits .and .u8 (bZ P (i / 8)) ((2 ^ (i % 8) : Nat) : Int) = 0) := by
    show _ = _
    have e := by8_and P (i / 8) (i % 8) (Nat.mod_lt _ (by decide))
    rw [show 8 * (i / 8) + i % 8 = i by omega, hP] at e
    unfold bZ
    rw [u8_and_nat _ _ (by8_lt _ _) (pow_lt8 i), e]
    rfl
  have ho : Hid (bits .or .u8 (bZ P (i / 8)) ((2 ^ (i % 8) : Nat) : Int) = bZ (setB P i) (i / 8)) := by
    show _ = _
    unfold bZ
    rw [u8_or_nat _ _ (by8_lt _ _) (pow_lt8 i), by8_or _ _ _ (Nat.mod_lt _ (by decide)), show 8 * (i / 8) + i % 8 = i by omega]
  have st : BsS g P w w := ⟨hB, 0, rfl⟩
  have hi8 : i / 8 < 256 := by omega
  have HMK : Hid (∀ W, Calls Tryz.prog 54 #[.int .i64 (i : Int)] W fun e w' => e = .returned (.int .u8 ((2 ^ (i % 8) : Nat) : Int)) ∧ W = w') := fun W => bitMask_any i hi W
  generalize ((2 ^ (i % 8) : Nat) : Int) = M at *
  generalize hk : i / 8 = k at *
  go_enter Tryz.func31, Tryz.ntmps31
  go_wp2_with fail
  refine wp_region_S (BsS g P w) (by kernel_rfl) (by kernel_rfl) ⟨st.b, 1, rfl⟩ ?_
  intro hne
  have hc : ∀ y : InW (BsS g P w), y.W.cell? ⟨g, k, none⟩ = some (.int .u8 (bZ P k)) := fun y => by have := y.h.b.seg k hi8; rwa [Nat.zero_add] at this
  first | go_big_quiet_skip | (go_big_quiet_want; go_big_quiet_op; go_big_quiet_on)
  first | go_big_quiet_skip | (go_big_quiet_want; go_big_quiet_op; go_big_quiet_on)
  first | go_big_quiet_skip | (go_big_quiet_want; go_big_quiet_op; go_big_quiet_on)
  first | go_big_quiet_skip | (go_big_quiet_want; go_big_quiet_op; go_big_quiet_on)
  go_big_quiet_want
  go_big_quiet_op
  refine ⟨_, fun s => q_call s (fun W hW => (bitIs_any i hi W).mono fun e w' h => ⟨h.1, h.2 ▸ hW⟩), ?_⟩
  go_big_quiet_on
  first | go_big_quiet_skip | (go_big_quiet_want; go_big_quiet_op; go_big_quiet_on)
  first | go_big_quiet_skip | (go_big_quiet_want; go_big_quiet_op; go_big_quiet_on)
  first | go_big_quiet_skip | (go_big_quiet_want; go_big_quiet_op; go_big_quiet_on)
  first | go_big_quiet_skip | (go_big_quiet_want; go_big_quiet_op; go_big_quiet_on)
  first | go_big_quiet_skip | (go_big_quiet_want; go_big_quiet_op; go_big_quiet_on)
  first | go_big_quiet_skip | (go_big_quiet_want; go_big_quiet_op; go_big_quiet_on)
  first | go_big_quiet_skip | (go_big_quiet_want; go_big_quiet_op; go_big_quiet_on)
  first | go_big_quiet_skip | (go_big_quiet_want; go_big_quiet_op; go_big_quiet_on)
  first | go_big_quiet_skip | (go_big_quiet_want; go_big_quiet_op; go_big_quiet_on)
  first | go_big_quiet_skip | (go_big_quiet_want; go_big_quiet_op; go_big_quiet_on)
  go_big_quiet_want
  go_big_quiet_op
  refine ⟨_, fun s => q_call s (fun W hW => (HMK.out W).mono fun e w' h => ⟨h.1, h.2 ▸ hW⟩), ?_⟩
  go_big_quiet_on
  have ha' := ha.out
  first | go_big_quiet_skip | (go_big_quiet_want; go_big_quiet_op; go_big_quiet_on)
  first | go_big_quiet_skip | (go_big_quiet_want; go_big_quiet_op; go_big_quiet_on)
  first | go_big_quiet_skip | (go_big_quiet_want; go_big_quiet_op; go_big_quiet_on)
  refine wpQuiet_nil ?_
  intro w5 h5
  obtain ⟨m5, hm5⟩ := h5.out.d
  have st5 := h5.out.b
  clear h5 hne hc ha' st
  go_wp2_with fail
  refine wp_region_bar2 (BsS g P w) 11 (by kernel_rfl) (by kernel_rfl) (by kernel_rfl) (by kernel_rfl) (by kernel_rfl) (by decide) ⟨st5, m5 + 1, by rw [hm5]; rfl⟩ ?_
  simp only [List.take_succ_cons, List.take_zero, List.drop_succ_cons, List.drop_zero]
  intro hne
  have hc : ∀ y : InW (BsS g P w), y.W.cell? ⟨g, k, none⟩ = some (.int .u8 (bZ P k)) := fun y => by have := y.h.b.seg k hi8; rwa [Nat.zero_add] at this
  first | go_big_quiet_skip | (go_big_quiet_want; go_big_quiet_op; go_big_quiet_on)
  first | go_big_quiet_skip | (go_big_quiet_want; go_big_quiet_op; go_big_quiet_on)
  first | go_big_quiet_skip | (go_big_quiet_want; go_big_quiet_op; go_big_quiet_on)
  first | go_big_quiet_skip | (go_big_quiet_want; go_big_quiet_op; go_big_quiet_on)
  first | go_big_quiet_skip | (go_big_quiet_want; go_big_quiet_op; go_big_quiet_on)
  first | go_big_quiet_skip | (go_big_quiet_want; go_big_quiet_op; go_big_quiet_on)
  first | go_big_quiet_skip | (go_big_quiet_want; go_big_quiet_op; go_big_quiet_on)
  go_big_quiet_want
  go_big_quiet_op
  refine ⟨_, fun s => q_call s (fun W hW => (HMK.out W).mono fun e w' h => ⟨h.1, h.2 ▸ hW⟩), ?_⟩
  go_big_quiet_on
  have ho' := ho.out
  first | go_big_quiet_skip | (go_big_quiet_want; go_big_quiet_op; go_big_quiet_on)
  first | go_big_quiet_skip | (go_big_quiet_want; go_big_quiet_op; go_big_quiet_on)
  first | go_big_quiet_skip | (go_big_quiet_want; go_big_quiet_op; go_big_quiet_on)
  refine wpQuiet_nil ?_
  intro w6 h6
  have st6 := h6.out
  clear h6 hne hc ho'
  obtain ⟨m6, hm6⟩ := st6.d
  have hB6 := st6.b
  go_wp2_with (first | (refine wp_storeByte rfl (.tmp 34) (.tmp 32) rfl g k (bZ (setB P i) k) rfl rfl hB6 hi8 ?_))
  intro w7 hB7 ho7
  go_wp2_with fail
  go_ret
  have hd : Only g w (w.drewN m6) := (Only.refl _ _).drewN m6
  refine ⟨rfl, hB7.congr fun j hj => ?_, hd.trans ho7⟩
  unfold over
  by_cases e : j = k
  · subst e; rw [if_pos (by omega)]
  · rw [if_neg (by omega)]
    unfold bZ
    rw [by8_other P (by omega)]
def mapB (used size : Nat) (i : Nat) : Bool := decide (i < used) || (decide (size ≤ i) && decide (i < 2048))
/-- up to here the bits are set -/
def preB (n : Nat) (i : Nat) : Bool := decide (i < n)
def midB (used size k : Nat) (i : Nat) : Bool := decide (i < used) || (decide (size ≤ i) && decide (i < k))
theorem preB_set (n : Nat) : setB (preB n) n = preB (n + 1) := by
  funext j; unfold setB preB
  by_cases e : j = n
  · rw [if_pos e, e]; simp
  · rw [if_neg e]; simp; omega
theorem midB_set {used size k : Nat} (h : size ≤ k) : setB (midB used size k) k = midB used size (k + 1) := by
  funext j; unfold setB midB
  by_cases e : j = k
  · rw [if_pos e, e]; simp; omega
  · rw [if_neg e, Bool.eq_iff_iff]; simp; omega
theorem midB_start (used size : Nat) : midB used size size = preB used := by
  funext j; unfold midB preB; rw [Bool.eq_iff_iff]; simp; omega
structure BmS (w : World) (P : Nat → Bool) (W : World) : Prop where
  r : Blk W w.heap.size 32 256 (fun _ => 0)
  b : Blk W (w.heap.size + 1) 32 256 (bZ P)
  bel : Below w.heap.size w W
set_option maxRecDepth 100000 in
set_option maxHeartbeats 2000000 in
theorem bitmap_any (used size : Nat) (h1 : used ≤ size) (h2 : size ≤ 2048) (w : World) :
    Calls Tryz.prog 69 #[.int .i64 (used : Int), .int .i64 (size : Int)] w fun e w' => e = .returned (bval (bZ (mapB used size))) ∧ Below w.heap.size w w' := by
  have hal := zero_block
  have st : Hid (BmS w (preB 0) ((w.alloc (.cells (Ks .u8 256 (fun _ => 0)).toArray 32)).alloc (.cells (Ks .u8 256 (fun _ => 0)).toArray 32))) := by
    refine ⟨(Blk.new w _ _ _).alloc _, ?_, ((Below.refl _ _).alloc (Nat.le_refl _) _).alloc (by simp) _⟩
    have := Blk.new (w.alloc (.cells (Ks .u8 256 (fun _ => 0)).toArray 32)) 32 256 (fun _ => 0)
    simp only [World.size_alloc] at this
    exact this.congr fun i _ => rfl
  go_enter Tryz.func69, Tryz.ntmps69
  go_wp2_with fail
  go_loopw [6, 9] (fun v u wr => ∃ k : Nat, k ≤ used ∧ u = .int .i64 (k : Int) ∧ BmS w (preB k) wr) (fun _ u _ => used - (intOf u).toNat)
  case atStart => exact ⟨0, by omega, rfl, st.out⟩
  case round =>
    clear st
    obtain ⟨k, hk, rfl, st⟩ := hrel
    by_cases hlt : k < used
    · have hlt' : (k : Int) < (used : Int) := by omega
      go_wp2_with fail
      refine (bitSet_any (w.heap.size + 1) k (by omega) (preB k) (by unfold preB; simp) _ st.b).mono ?_
      rintro e w5 ⟨rfl, hB5, ho5⟩
      rw [preB_set] at hB5
      have st5 : BmS w (preB (k + 1)) w5 := ⟨st.r.only ho5 (by omega), hB5, st.bel.trans (ho5.below (by omega))⟩
      clear st hB5 ho5
      go_wp2_with fail
      go_roundw
      case rel => first | exact ⟨k + 1, by omega, by go_num, st5⟩ | exact ⟨k + 1, by omega, rfl, st5⟩
      case measure => simp [intOf]; omega
    · obtain rfl : k = used := by omega
      have hs := st.b
      rw [← midB_start k size] at hs
      have st0 : Hid (BmS w (midB k size size) wr) := ⟨st.r, hs, st.bel⟩
      clear st hs
      go_wp2_with fail
      go_loopw [7] (fun u wr => ∃ i : Nat, size ≤ i ∧ i ≤ 2048 ∧ u = .int .i64 (i : Int) ∧ BmS w (midB k size i) wr) (fun u _ => 2048 - (intOf u).toNat)
      case atStart => exact ⟨size, by omega, h2, rfl, st0.out⟩
      case round =>
        clear st0
        obtain ⟨i, hi1, hi2, rfl, st⟩ := hrel
        by_cases hlt3 : i < 2048
        · have hlt4 : (i : Int) < 2048 := by omega
          go_wp2_with fail
          refine (bitSet_any (w.heap.size + 1) i hlt3 (midB k size i) (by unfold midB; simp; omega) _ st.b).mono ?_
          rintro e w5 ⟨rfl, hB5, ho5⟩
          rw [midB_set hi1] at hB5
          have st5 : BmS w (midB k size (i + 1)) w5 := ⟨st.r.only ho5 (by omega), hB5, st.bel.trans (ho5.below (by omega))⟩
          clear st hB5 ho5
          go_wp2_with fail
          go_roundw
          case rel => first | exact ⟨i + 1, by omega, by omega, by go_num, st5⟩ | exact ⟨i + 1, by omega, by omega, rfl, st5⟩
          case measure => simp [intOf]; omega
        · obtain rfl : i = 2048 := by omega
          have hb := st.b
          have hr := st.r
          go_wp2_with (first | (refine wp_loadBlkG rfl (.tmp 5) rfl (w.heap.size + 1) _ rfl hb ?_) | (refine wp_storeBlk rfl (.tmp 4) (.tmp 22) rfl w.heap.size (bZ (midB k size 2048)) _ rfl rfl hr ?_))
          intro w7 hR7 ho7
          go_wp2_with fail
          exact bodyPost_ret (results_blk rfl _ _ w.heap.size _ rfl hR7) rfl ⟨rfl, st.bel.trans (ho7.below (Nat.le_refl _))⟩
end Go.Proofs.YtnbmmhoofilmfaaGreatDoor

/- mkfs.descs. -/
namespace Go.Proofs.YtnbmmhoofilmfaaGreatDoor
open Go.RowKit
set_option linter.unusedVariables false

structure DsC (w : World) (G S I J : Int) (q n : Nat) (f : Nat → List Value) (W : World) : Prop where
  s : At W w.heap.size 23 (gcells G S I J)
  a : RArr W q 67 3 n f
  bel : Below w.heap.size w W
theorem DsC.below {w : World} {G S I J : Int} {q n : Nat} {f : Nat → List Value} {W W' : World} (h : DsC w G S I J q n f W) (hb : Below W.heap.size W W') : DsC w G S I J q n f W' :=
  ⟨h.s.below hb h.s.lt, h.a.below hb, h.bel.trans (hb.mono h.bel.size)⟩
/-- rows that are made so far -/
def mixD (Da I : Int) (k i : Nat) : List Value := if i < k then [.int .i64 Da, .int .i64 I, .int .i64 0] else [.int .i64 0, .int .i64 0, .int .i64 0]
theorem mixD_len (Da I : Int) (k i : Nat) : (mixD Da I k i).length = 3 := by unfold mixD; split <;> rfl
set_option maxRecDepth 100000 in
set_option maxHeartbeats 4000000 in
theorem mkDescs_any (G S I J : Int) (hm : mayG G S I J = true) (w : World) :
    Calls Tryz.prog 67 #[gval G S I J] w fun e w' => ∃ v, e = .returned v ∧ Below w.heap.size w w' ∧
      RMine w' w.heap.size 67 3 v G.toNat (df (fun _ => nDa G S I J) (fun i => if i = 0 then I - 1 else I) (fun i => if i = 0 then 1 else 0)) := by
  obtain ⟨h1, h2, h3, h4, h5, h6, h7, h8, h9, h10, h11⟩ := (mayG_iff G S I J).1 hm
  obtain ⟨n, rfl⟩ : ∃ n : Nat, G = (n : Int) := ⟨G.toNat, by omega⟩
  have HD : Hid (∀ W, Calls Tryz.prog 108 #[gval n S I J] W fun e w' => e = .returned (.int .i64 (nDa n S I J)) ∧ Below W.heap.size W w') := fun W => geoData_any n S I J W
  rw [Int.toNat_natCast]
  generalize nDa n S I J = Da at *
  clear hm h11
  have hmk := fun W => run_mkrow (P := Tryz.prog) 51 67 (dval 0 0 0) 3 24 Tryz.underlying51 info_desc3 .i64 .i64 n (by omega) (by omega) W
  have hs0 := At.new w 23 (gcells n S I J)
  have hL0 : Below w.heap.size w (w.alloc (.cells (gcells n S I J) 23)) := (Below.refl _ _).alloc (Nat.le_refl _) _
  have c0 : (w.alloc (.cells (gcells n S I J) 23)).cell? ⟨w.heap.size, 0, none⟩ = some (.int .i64 (n : Int)) := hs0.cell (i := 0) rfl
  have hA0 := RArr.made (m := 3) (w.alloc (.cells (gcells n S I J) 23)) (dcells 0 0 0) rfl (by omega) n 67
  have st0 : Hid (DsC w n S I J (w.heap.size + 1) n (mixD Da I 0) ((w.alloc (.cells (gcells n S I J) 23)).alloc (.cells (madeCells (dval 0 0 0).cells (n * 3)) 67))) :=
    ⟨hs0.alloc _, by have := hA0.congr (f' := mixD Da I 0) fun i _ => rfl; simp only [World.size_alloc] at this; exact this, hL0.alloc hL0.size _⟩
  clear hs0 hL0 hA0
  go_enter Tryz.func67, Tryz.ntmps67
  go_wp2_with fail
  go_loopw [4, 10] (fun v u wr => ∃ k : Nat, k ≤ n ∧ u = .int .i64 (k : Int) ∧ DsC w n S I J (w.heap.size + 1) n (mixD Da I k) wr) (fun _ u _ => n - (intOf u).toNat)
  case atStart => exact ⟨0, by omega, rfl, st0.out⟩
  case round =>
    clear st0 c0 hmk
    obtain ⟨k, hk, rfl, st⟩ := hrel
    by_cases hlt : k < n
    · have hlt' : (k : Int) < (n : Int) := by omega
      have k0 : (0 : Int) ≤ (k : Int) := by omega
      go_wp2_with fail
      refine wp_region_bar2 (DsC w n S I J (w.heap.size + 1) n (mixD Da I k)) 8 (by kernel_rfl) (by kernel_rfl) (by kernel_rfl) (by kernel_rfl) (by kernel_rfl) (by decide) ⟨st.s, st.a.of_block rfl, st.bel.drew⟩ ?_
      simp only [List.take_succ_cons, List.take_zero, List.drop_succ_cons, List.drop_zero]
      clear st
      intro hne
      have hc : ∀ y : InW (DsC w n S I J (w.heap.size + 1) n (mixD Da I k)), y.W.cell? ⟨w.heap.size, 2, none⟩ = some (.int .i64 I) := fun y => y.h.s.cell (i := 2) rfl
      first | go_big_quiet_skip | (go_big_quiet_want; go_big_quiet_op; go_big_quiet_on)
      first | go_big_quiet_skip | (go_big_quiet_want; go_big_quiet_op; go_big_quiet_on)
      refine q_load rfl 23 (.tmp 1) rfl _ _ rfl (gcells n S I J).toList _ (fun W h => h.s.range) Tryz.underlying23 rfl (by kernel_rfl) ?_
      refine wpQuiet_frame (by simp only [Act.put, List.setIfInBounds_toArray, List.set_cons_succ, List.set_cons_zero]; exact rfl) ?_
      go_big_quiet_want
      go_big_quiet_op
      refine ⟨_, fun s => q_call s (fun W hW => (HD.out W).mono fun e w' h => ⟨h.1, hW.below h.2⟩), ?_⟩
      go_big_quiet_on
      first | go_big_quiet_skip | (go_big_quiet_want; go_big_quiet_op; go_big_quiet_on)
      first | go_big_quiet_skip | (go_big_quiet_want; go_big_quiet_op; go_big_quiet_on)
      first | go_big_quiet_skip | (go_big_quiet_want; go_big_quiet_op; go_big_quiet_on)
      first | go_big_quiet_skip | (go_big_quiet_want; go_big_quiet_op; go_big_quiet_on)
      refine wpQuiet_nil ?_
      intro w5 h5
      have st5 := h5.out
      clear h5 hne hc
      have hth := st5.a.there hlt
      have hset := Lib.hid (st5.a.set hlt (vs := [.int .i64 Da, .int .i64 I, .int .i64 0]) rfl (mixD_len Da I k))
      go_wp2_with (first | (refine wpList_store_mid rfl 67 (.tmp 20) (.tmp 19) rfl (w.heap.size + 1) (k * 3) (dcells Da I 0) rfl rfl hth info_desc (all_d _ _ _) ?_))
      have st7 : DsC w n S I J (w.heap.size + 1) n (mixD Da I (k + 1)) (w5.setCells (w.heap.size + 1) (k * 3) [.int .i64 Da, .int .i64 I, .int .i64 0]) :=
        ⟨st5.s.only hset.out.2 (by omega), hset.out.1.congr fun i _ => by
          unfold mixD
          by_cases e : i = k
          · subst e; rw [if_pos rfl, if_pos (by omega)]
          · rw [if_neg e]
            by_cases e2 : i < k
            · rw [if_pos e2, if_pos (by omega)]
            · rw [if_neg e2, if_neg (by omega)], st5.bel.trans (hset.out.2.below (by omega))⟩
      generalize w5.setCells (w.heap.size + 1) (k * 3) [.int .i64 Da, .int .i64 I, .int .i64 0] = w7 at *
      clear st5 hset hth
      go_wp2_with fail
      go_roundw
      case rel => first | exact ⟨k + 1, by omega, by go_num, st7⟩ | exact ⟨k + 1, by omega, rfl, st7⟩
      case measure => simp [intOf]; omega
    · obtain rfl : k = n := by omega
      have b0 : wr.cell? ⟨w.heap.size + 1, 1, none⟩ = some (.int .i64 I) := by
        have := st.a.seg 0 (by omega) 1 (.int .i64 I) (by unfold mixD; rw [if_pos (by omega)]; rfl)
        simpa using this
      have b2 : wr.cell? ⟨w.heap.size + 1, 2, none⟩ = some (.int .i64 0) := by
        have := st.a.seg 0 (by omega) 2 (.int .i64 0) (by unfold mixD; rw [if_pos (by omega)]; rfl)
        simpa using this
      have f1 : wr.frozen? ⟨w.heap.size + 1, 1, none⟩ = false := by have := (st.a.there (k := 0) (by omega) 1 (by omega)).2; simpa using this
      have f2 : wr.frozen? ⟨w.heap.size + 1, 2, none⟩ = false := by have := (st.a.there (k := 0) (by omega) 2 (by omega)).2; simpa using this
      have e1 : IntKind.i64.wrap (I - 1) = I - 1 := IntWalk.i64_in _ (by omega)
      have x1 := st.a.cellset (k := 0) (j := 1) (by omega) (by omega) (mixD_len Da I k) (.int .i64 (I - 1))
      have x2 := x1.cellset (k := 0) (j := 2) (by omega) (by omega) (fun i => by split <;> simp [mixD_len]) (.int .i64 1)
      rw [Nat.zero_mul, Nat.zero_add, Nat.zero_add] at x2
      have HX := Lib.hid x2
      have HL : Hid (Below w.heap.size w ((wr.setCell ⟨w.heap.size + 1, 1, none⟩ (.int .i64 (I - 1))).setCell ⟨w.heap.size + 1, 2, none⟩ (.int .i64 1))) := (st.bel.trans ((Only.setCell wr ⟨w.heap.size + 1, 1, none⟩ _).below (by simp))).trans ((Only.setCell _ ⟨w.heap.size + 1, 2, none⟩ _).below (by simp))
      clear x1 x2 st
      go_wp2_with fail
      go_ret
      refine ⟨_, rfl, HL.out, ?_⟩
      refine (HX.out.congr (f' := df (fun _ => Da) (fun i => if i = 0 then I - 1 else I) (fun i => if i = 0 then 1 else 0)) fun i hi => ?_).mine (df_len _ _ _) (by omega) (by unfold maxLen; omega)
      unfold mixD df
      by_cases e : i = 0
      · subst e; rw [if_pos rfl, if_pos rfl, if_pos (by omega)]; rfl
      · rw [if_neg e, if_neg e, if_pos hi]; simp [e]
end Go.Proofs.YtnbmmhoofilmfaaGreatDoor
