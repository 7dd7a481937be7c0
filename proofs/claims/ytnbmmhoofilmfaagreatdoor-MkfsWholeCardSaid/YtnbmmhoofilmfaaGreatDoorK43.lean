/- Texts of this claim, merged by a program (a claim may have 60 files): BitA. -/
import Derived.Test.YtnbmmhoofilmfaaGreatDoorK16
import Derived.Test.YtnbmmhoofilmfaaGreatDoorK31
import Derived.Test.YtnbmmhoofilmfaaGreatDoorK14
import Derived.Test.YtnbmmhoofilmfaaGreatDoorK13
import Derived.Test.YtnbmmhoofilmfaaGreatDoorK15
import Derived.Laws.BitsAllLaws
/- bits.Set, bits.Clear at a block that lies within an array of blocks. -/
namespace Go.Proofs.YtnbmmhoofilmfaaGreatDoor
open Go.RowKit
set_option linter.unusedVariables false

def clrB (P : Nat → Bool) (i : Nat) : Nat → Bool := fun j => if j = i then false else P j
theorem cl0 : ∀ a b c d e f g h : Bool, b8 a b c d e f g h &&& (255 - 1) = b8 false b c d e f g h := by decide
theorem cl1 : ∀ a b c d e f g h : Bool, b8 a b c d e f g h &&& (255 - 2) = b8 a false c d e f g h := by decide
theorem cl2 : ∀ a b c d e f g h : Bool, b8 a b c d e f g h &&& (255 - 4) = b8 a b false d e f g h := by decide
theorem cl3 : ∀ a b c d e f g h : Bool, b8 a b c d e f g h &&& (255 - 8) = b8 a b c false e f g h := by decide
theorem cl4 : ∀ a b c d e f g h : Bool, b8 a b c d e f g h &&& (255 - 16) = b8 a b c d false f g h := by decide
theorem cl5 : ∀ a b c d e f g h : Bool, b8 a b c d e f g h &&& (255 - 32) = b8 a b c d e false g h := by decide
theorem cl6 : ∀ a b c d e f g h : Bool, b8 a b c d e f g h &&& (255 - 64) = b8 a b c d e f false h := by decide
theorem cl7 : ∀ a b c d e f g h : Bool, b8 a b c d e f g h &&& (255 - 128) = b8 a b c d e f g false := by decide
theorem by8_clr (P : Nat → Bool) (k j : Nat) (hj : j < 8) : by8 P k &&& (255 - 2 ^ j) = by8 (clrB P (8 * k + j)) k := by
  have hS : ∀ m, m < 8 → clrB P (8 * k + j) (8 * k + m) = if m = j then false else P (8 * k + m) := fun m hm => by
    unfold clrB
    by_cases e : m = j
    · rw [if_pos e, if_pos (by omega)]
    · rw [if_neg e, if_neg (by omega)]
  have h0 := hS 0 (by omega)
  rw [Nat.add_zero] at h0
  unfold by8
  rw [h0, hS 1 (by omega), hS 2 (by omega), hS 3 (by omega), hS 4 (by omega), hS 5 (by omega), hS 6 (by omega), hS 7 (by omega)]
  have : j = 0 ∨ j = 1 ∨ j = 2 ∨ j = 3 ∨ j = 4 ∨ j = 5 ∨ j = 6 ∨ j = 7 := by omega
  rcases this with rfl | rfl | rfl | rfl | rfl | rfl | rfl | rfl
  · exact cl0 _ _ _ _ _ _ _ _
  · exact cl1 _ _ _ _ _ _ _ _
  · exact cl2 _ _ _ _ _ _ _ _
  · exact cl3 _ _ _ _ _ _ _ _
  · exact cl4 _ _ _ _ _ _ _ _
  · exact cl5 _ _ _ _ _ _ _ _
  · exact cl6 _ _ _ _ _ _ _ _
  · exact cl7 _ _ _ _ _ _ _ _
theorem by8_other2 (P : Nat → Bool) {i k : Nat} (h : k ≠ i / 8) : by8 (clrB P i) k = by8 P k := by
  unfold by8 clrB
  rw [if_neg (by omega), if_neg (by omega), if_neg (by omega), if_neg (by omega), if_neg (by omega), if_neg (by omega), if_neg (by omega), if_neg (by omega)]
theorem bZ_clr_at (P : Nat → Bool) (i : Nat) : bZ (clrB P i) (i / 8) = ((by8 P (i / 8) &&& (255 - 2 ^ (i % 8)) : Nat) : Int) := by
  unfold bZ
  rw [by8_clr P _ _ (Nat.mod_lt _ (by decide)), show 8 * (i / 8) + i % 8 = i by omega]
theorem bZ_clr_off (P : Nat → Bool) (i : Nat) {k : Nat} (h : k ≠ i / 8) : bZ (clrB P i) k = bZ P k := by unfold bZ; rw [by8_other2 P h]
theorem bZ_set_off (P : Nat → Bool) (i : Nat) {k : Nat} (h : k ≠ i / 8) : bZ (setB P i) k = bZ P k := by unfold bZ; rw [by8_other P h]
theorem by8_bit (P : Nat → Bool) (i : Nat) : by8 P (i / 8) &&& 2 ^ (i % 8) = 2 ^ (i % 8) * (P i).toNat := by
  have e := by8_and P (i / 8) (i % 8) (Nat.mod_lt _ (by decide))
  rwa [show 8 * (i / 8) + i % 8 = i by omega] at e
/-- an array of blocks, as it was but for draws -/
structure BaS (q n : Nat) (L : Nat → Nat → Int) (W0 W : World) : Prop where
  b : RArr W q 32 256 n (bkF L)
  d : ∃ m, W = W0.drewN m
theorem BaS.cell {q n : Nat} {L : Nat → Nat → Int} {W0 W : World} (h : BaS q n L W0 W) {b k : Nat} (hb : b < n) (hk : k < 256) : W.cell? ⟨q, b * 256 + k, none⟩ = some (.int .u8 (L b k)) := by
  have := h.b.seg b hb k _ (Ks_get .u8 256 (L b) k hk)
  rwa [Nat.zero_add] at this
/-- a byte of a block is stored -/
theorem bk_set {W : World} {q n : Nat} {L : Nat → Nat → Int} (h : RArr W q 32 256 n (bkF L)) {b k : Nat} (hb : b < n) (hk : k < 256) {z : Nat → Int} {v : Int} (hv : z k = v) (hz : ∀ j, j < 256 → j ≠ k → z j = L b j) :
    RArr (W.setCell ⟨q, b * 256 + k, none⟩ (.int .u8 v)) q 32 256 n (bkF (updN L b z)) := by
  refine (h.cellset hb hk (fun i => bkF_len L i) (.int .u8 v)).congr fun i hi => ?_
  unfold bkF updN
  by_cases e : i = b
  · rw [if_pos e, if_pos e, e]
    refine List.ext_getElem? fun j => ?_
    rw [List.getElem?_set]
    by_cases hj : j < 256
    · rw [Ks_get .u8 256 z j hj]
      by_cases ej : k = j
      · subst ej
        rw [if_pos rfl, if_pos (by rw [Ks_length]; exact hk), hv]
      · rw [if_neg ej, Ks_get .u8 256 (L b) j hj, hz j hj (fun h => ej h.symm)]
    · rw [if_neg (by omega), List.getElem?_eq_none (by rw [Ks_length]; omega), List.getElem?_eq_none (by rw [Ks_length]; omega)]
  · rw [if_neg e, if_neg e]
set_option maxRecDepth 100000 in
set_option maxHeartbeats 4000000 in
theorem bitSetA_any (q n b i : Nat) (hb : b < n) (hn : n ≤ 100000) (hi : i < 2048) (L : Nat → Nat → Int) (hL : Byt (L b)) (w : World) (hB : RArr w q 32 256 n (bkF L)) :
    Calls Tryz.prog 31 #[.pointer (some ⟨q, b * 256, none⟩), .int .i64 (i : Int)] w fun e w' =>
      (bt (L b) i = true ∧ e = .returned (.bool false) ∧ ∃ m, w' = w.drewN m) ∨ (bt (L b) i = false ∧ e = .returned (.bool true) ∧ RArr w' q 32 256 n (bkF (updN L b (bZ (setB (bt (L b)) i)))) ∧ Only q w w') := by
  have h0 : (i : Int).tdiv 8 = ((i / 8 : Nat) : Int) := by rw [Int.tdiv_eq_ediv_of_nonneg (by omega)]; omega
  have h1 : (0 : Int) ≤ ((i / 8 : Nat) : Int) := by omega
  have h2 : ((i / 8 : Nat) : Int) < 256 := by omega
  have hY : L b (i / 8) = ((by8 (bt (L b)) (i / 8) : Nat) : Int) := (bZ_bt hL (i / 8)).symm
  have ha : Hid (bits .and .u8 (L b (i / 8)) ((2 ^ (i % 8) : Nat) : Int) = ((2 ^ (i % 8) * (bt (L b) i).toNat : Nat) : Int)) := by
    show _ = _
    rw [hY, u8_and_nat _ _ (by8_lt _ _) (pow_lt8 i), by8_bit]
  have ho : Hid (bits .or .u8 (L b (i / 8)) ((2 ^ (i % 8) : Nat) : Int) = bZ (setB (bt (L b)) i) (i / 8)) := by
    show _ = _
    rw [hY]
    unfold bZ
    rw [u8_or_nat _ _ (by8_lt _ _) (pow_lt8 i), by8_or _ _ _ (Nat.mod_lt _ (by decide)), show 8 * (i / 8) + i % 8 = i by omega]
  have hoff : Hid (∀ j, j < 256 → j ≠ i / 8 → bZ (setB (bt (L b)) i) j = L b j) := fun j _ hj => by rw [bZ_set_off _ _ hj, bZ_bt hL]
  have hpos : Hid (0 < 2 ^ (i % 8)) := Nat.two_pow_pos _
  have st : Hid (BaS q n L w w) := ⟨hB, 0, rfl⟩
  have hi8 : i / 8 < 256 := by omega
  have HMK : Hid (∀ W, Calls Tryz.prog 54 #[.int .i64 (i : Int)] W fun e w' => e = .returned (.int .u8 ((2 ^ (i % 8) : Nat) : Int)) ∧ W = w') := fun W => bitMask_any i hi W
  clear hY hB
  generalize 2 ^ (i % 8) = M0 at *
  generalize hk : i / 8 = k at *
  clear hk
  go_enter Tryz.func31, Tryz.ntmps31
  go_wp2_with fail
  refine wp_region_S (BaS q n L w) (by kernel_rfl) (by kernel_rfl) ⟨st.out.b.of_block rfl, 1, rfl⟩ ?_
  clear st
  intro hne
  have hc : ∀ y : InW (BaS q n L w), y.W.cell? ⟨q, b * 256 + k, none⟩ = some (.int .u8 (L b k)) := fun y => y.h.cell hb hi8
  first | go_big_quiet_skip | (go_big_quiet_want; go_big_quiet_op; go_big_quiet_on)
  first | go_big_quiet_skip | (go_big_quiet_want; go_big_quiet_op; go_big_quiet_on)
  first | go_big_quiet_skip | (go_big_quiet_want; go_big_quiet_op; go_big_quiet_on)
  first | go_big_quiet_skip | (go_big_quiet_want; go_big_quiet_op; go_big_quiet_on)
  go_big_quiet_want
  go_big_quiet_op
  refine ⟨_, fun s => q_call s (fun W hW => (bitIs_any i hi W).mono fun e w' h => ⟨h.1, h.2 ▸ hW⟩), ?_⟩
  go_big_quiet_on
  first | go_big_quiet_skip | (go_big_quiet_want; go_big_quiet_op; go_big_quiet_on)
  first | go_big_quiet_skip | (go_big_quiet_want; go_big_quiet_op; go_big_quiet_on)
  first | go_big_quiet_skip | (go_big_quiet_want; go_big_quiet_op; go_big_quiet_on)
  first | go_big_quiet_skip | (go_big_quiet_want; go_big_quiet_op; go_big_quiet_on)
  first | go_big_quiet_skip | (go_big_quiet_want; go_big_quiet_op; go_big_quiet_on)
  first | go_big_quiet_skip | (go_big_quiet_want; go_big_quiet_op; go_big_quiet_on)
  first | go_big_quiet_skip | (go_big_quiet_want; go_big_quiet_op; go_big_quiet_on)
  first | go_big_quiet_skip | (go_big_quiet_want; go_big_quiet_op; go_big_quiet_on)
  first | go_big_quiet_skip | (go_big_quiet_want; go_big_quiet_op; go_big_quiet_on)
  first | go_big_quiet_skip | (go_big_quiet_want; go_big_quiet_op; go_big_quiet_on)
  go_big_quiet_want
  go_big_quiet_op
  refine ⟨_, fun s => q_call s (fun W hW => (HMK.out W).mono fun e w' h => ⟨h.1, h.2 ▸ hW⟩), ?_⟩
  go_big_quiet_on
  have ha' := ha.out
  obtain ⟨P, hP⟩ : ∃ P, P = bt (L b) i := ⟨_, rfl⟩
  rw [← hP] at ha'
  have HP := Lib.hid hP
  clear hP
  cases P with
  | true =>
    rw [show M0 * true.toNat = M0 from Nat.mul_one _] at ha'
    have hp := hpos.out
    have q1 : (((M0 : Nat) : Int) != 0) = true := by rw [bne_iff_ne]; omega
    first | go_big_quiet_skip | (go_big_quiet_want; go_big_quiet_op; go_big_quiet_on)
    first | go_big_quiet_skip | (go_big_quiet_want; go_big_quiet_op; go_big_quiet_on)
    first | go_big_quiet_skip | (go_big_quiet_want; go_big_quiet_op; go_big_quiet_on)
    refine wpQuiet_nil ?_
    intro w5 h5
    obtain ⟨m5, hm5⟩ := h5.out.d
    have HM5 := Lib.hid hm5
    clear h5 hne hc ha' hm5
    go_wp2_with fail
    go_ret
    exact .inl ⟨HP.out.symm, rfl, by rw [HM5.out]; exact ⟨m5, rfl⟩⟩
  | false =>
    rw [show M0 * false.toNat = 0 from Nat.mul_zero _] at ha'

    first | go_big_quiet_skip | (go_big_quiet_want; go_big_quiet_op; go_big_quiet_on)
    first | go_big_quiet_skip | (go_big_quiet_want; go_big_quiet_op; go_big_quiet_on)
    first | go_big_quiet_skip | (go_big_quiet_want; go_big_quiet_op; go_big_quiet_on)
    refine wpQuiet_nil ?_
    intro w5 h5
    obtain ⟨m5, hm5⟩ := h5.out.d
    have st5 := h5.out.b
    clear h5 hne hc ha'
    go_wp2_with fail
    refine wp_region_bar2 (BaS q n L w) 11 (by kernel_rfl) (by kernel_rfl) (by kernel_rfl) (by kernel_rfl) (by kernel_rfl) (by decide) ⟨st5.of_block rfl, m5 + 1, by rw [hm5]; rfl⟩ ?_
    simp only [List.take_succ_cons, List.take_zero, List.drop_succ_cons, List.drop_zero]
    intro hne
    have hc : ∀ y : InW (BaS q n L w), y.W.cell? ⟨q, b * 256 + k, none⟩ = some (.int .u8 (L b k)) := fun y => y.h.cell hb hi8
    first | go_big_quiet_skip | (go_big_quiet_want; go_big_quiet_op; go_big_quiet_on)
    first | go_big_quiet_skip | (go_big_quiet_want; go_big_quiet_op; go_big_quiet_on)
    first | go_big_quiet_skip | (go_big_quiet_want; go_big_quiet_op; go_big_quiet_on)
    first | go_big_quiet_skip | (go_big_quiet_want; go_big_quiet_op; go_big_quiet_on)
    first | go_big_quiet_skip | (go_big_quiet_want; go_big_quiet_op; go_big_quiet_on)
    first | go_big_quiet_skip | (go_big_quiet_want; go_big_quiet_op; go_big_quiet_on)
    first | go_big_quiet_skip | (go_big_quiet_want; go_big_quiet_op; go_big_quiet_on)
    go_big_quiet_want
    go_big_quiet_op
    refine ⟨_, fun s => q_call s (fun W hW => (HMK.out W).mono fun e w' h => ⟨h.1, h.2 ▸ hW⟩), ?_⟩
    go_big_quiet_on
    have ho' := ho.out
    first | go_big_quiet_skip | (go_big_quiet_want; go_big_quiet_op; go_big_quiet_on)
    first | go_big_quiet_skip | (go_big_quiet_want; go_big_quiet_op; go_big_quiet_on)
    first | go_big_quiet_skip | (go_big_quiet_want; go_big_quiet_op; go_big_quiet_on)
    refine wpQuiet_nil ?_
    intro w6 h6
    have st6 := h6.out
    clear h6 hne hc ho' st5 hm5
    obtain ⟨m6, hm6⟩ := st6.d
    have hc6 := st6.cell hb hi8
    have hf6 := st6.b.soft (b * 256 + k)
    have HR := Lib.hid (bk_set st6.b hb hi8 rfl hoff.out)
    have HO : Hid (Only q w (w6.setCell ⟨q, b * 256 + k, none⟩ (.int .u8 (bZ (setB (bt (L b)) i) k)))) := by
      have hd : Only q w (w.drewN m6) := (Only.refl _ _).drewN m6
      rw [← hm6] at hd
      exact hd.trans (Only.setCell w6 ⟨q, b * 256 + k, none⟩ _)
    clear st6 hm6
    go_wp2_with fail
    go_ret
    exact .inr ⟨HP.out.symm, rfl, HR.out, HO.out⟩
set_option maxRecDepth 100000 in
set_option maxHeartbeats 4000000 in
theorem bitClearA_any (q n b i : Nat) (hb : b < n) (hn : n ≤ 100000) (hi : i < 2048) (L : Nat → Nat → Int) (hL : Byt (L b)) (w : World) (hB : RArr w q 32 256 n (bkF L)) :
    Calls Tryz.prog 32 #[.pointer (some ⟨q, b * 256, none⟩), .int .i64 (i : Int)] w fun e w' =>
      (bt (L b) i = false ∧ e = .returned (.bool false) ∧ ∃ m, w' = w.drewN m) ∨ (bt (L b) i = true ∧ e = .returned (.bool true) ∧ RArr w' q 32 256 n (bkF (updN L b (bZ (clrB (bt (L b)) i)))) ∧ Only q w w') := by
  have h0 : (i : Int).tdiv 8 = ((i / 8 : Nat) : Int) := by rw [Int.tdiv_eq_ediv_of_nonneg (by omega)]; omega
  have h1 : (0 : Int) ≤ ((i / 8 : Nat) : Int) := by omega
  have h2 : ((i / 8 : Nat) : Int) < 256 := by omega
  have hY : L b (i / 8) = ((by8 (bt (L b)) (i / 8) : Nat) : Int) := (bZ_bt hL (i / 8)).symm
  have ha : Hid (bits .and .u8 (L b (i / 8)) ((2 ^ (i % 8) : Nat) : Int) = ((2 ^ (i % 8) * (bt (L b) i).toNat : Nat) : Int)) := by
    show _ = _
    rw [hY, u8_and_nat _ _ (by8_lt _ _) (pow_lt8 i), by8_bit]
  have ho : Hid (bits .andNot .u8 (L b (i / 8)) ((2 ^ (i % 8) : Nat) : Int) = bZ (clrB (bt (L b)) i) (i / 8)) := by
    show _ = _
    rw [hY]
    rw [u8_andNot_nat _ _ (by8_lt _ _) (pow_lt8 i), bZ_clr_at]
  have hoff : Hid (∀ j, j < 256 → j ≠ i / 8 → bZ (clrB (bt (L b)) i) j = L b j) := fun j _ hj => by rw [bZ_clr_off _ _ hj, bZ_bt hL]
  have hpos : Hid (0 < 2 ^ (i % 8)) := Nat.two_pow_pos _
  have st : Hid (BaS q n L w w) := ⟨hB, 0, rfl⟩
  have hi8 : i / 8 < 256 := by omega
  have HMK : Hid (∀ W, Calls Tryz.prog 54 #[.int .i64 (i : Int)] W fun e w' => e = .returned (.int .u8 ((2 ^ (i % 8) : Nat) : Int)) ∧ W = w') := fun W => bitMask_any i hi W
  clear hY hB
  generalize 2 ^ (i % 8) = M0 at *
  generalize hk : i / 8 = k at *
  clear hk
  go_enter Tryz.func32, Tryz.ntmps32
  go_wp2_with fail
  refine wp_region_S (BaS q n L w) (by kernel_rfl) (by kernel_rfl) ⟨st.out.b.of_block rfl, 1, rfl⟩ ?_
  clear st
  intro hne
  have hc : ∀ y : InW (BaS q n L w), y.W.cell? ⟨q, b * 256 + k, none⟩ = some (.int .u8 (L b k)) := fun y => y.h.cell hb hi8
  first | go_big_quiet_skip | (go_big_quiet_want; go_big_quiet_op; go_big_quiet_on)
  first | go_big_quiet_skip | (go_big_quiet_want; go_big_quiet_op; go_big_quiet_on)
  first | go_big_quiet_skip | (go_big_quiet_want; go_big_quiet_op; go_big_quiet_on)
  first | go_big_quiet_skip | (go_big_quiet_want; go_big_quiet_op; go_big_quiet_on)
  go_big_quiet_want
  go_big_quiet_op
  refine ⟨_, fun s => q_call s (fun W hW => (bitIs_any i hi W).mono fun e w' h => ⟨h.1, h.2 ▸ hW⟩), ?_⟩
  go_big_quiet_on
  first | go_big_quiet_skip | (go_big_quiet_want; go_big_quiet_op; go_big_quiet_on)
  first | go_big_quiet_skip | (go_big_quiet_want; go_big_quiet_op; go_big_quiet_on)
  first | go_big_quiet_skip | (go_big_quiet_want; go_big_quiet_op; go_big_quiet_on)
  first | go_big_quiet_skip | (go_big_quiet_want; go_big_quiet_op; go_big_quiet_on)
  first | go_big_quiet_skip | (go_big_quiet_want; go_big_quiet_op; go_big_quiet_on)
  first | go_big_quiet_skip | (go_big_quiet_want; go_big_quiet_op; go_big_quiet_on)
  first | go_big_quiet_skip | (go_big_quiet_want; go_big_quiet_op; go_big_quiet_on)
  first | go_big_quiet_skip | (go_big_quiet_want; go_big_quiet_op; go_big_quiet_on)
  first | go_big_quiet_skip | (go_big_quiet_want; go_big_quiet_op; go_big_quiet_on)
  first | go_big_quiet_skip | (go_big_quiet_want; go_big_quiet_op; go_big_quiet_on)
  go_big_quiet_want
  go_big_quiet_op
  refine ⟨_, fun s => q_call s (fun W hW => (HMK.out W).mono fun e w' h => ⟨h.1, h.2 ▸ hW⟩), ?_⟩
  go_big_quiet_on
  have ha' := ha.out
  obtain ⟨P, hP⟩ : ∃ P, P = bt (L b) i := ⟨_, rfl⟩
  rw [← hP] at ha'
  have HP := Lib.hid hP
  clear hP
  cases P with
  | false =>
    rw [show M0 * false.toNat = 0 from Nat.mul_zero _] at ha'

    first | go_big_quiet_skip | (go_big_quiet_want; go_big_quiet_op; go_big_quiet_on)
    first | go_big_quiet_skip | (go_big_quiet_want; go_big_quiet_op; go_big_quiet_on)
    first | go_big_quiet_skip | (go_big_quiet_want; go_big_quiet_op; go_big_quiet_on)
    refine wpQuiet_nil ?_
    intro w5 h5
    obtain ⟨m5, hm5⟩ := h5.out.d
    have HM5 := Lib.hid hm5
    clear h5 hne hc ha' hm5
    go_wp2_with fail
    go_ret
    exact .inl ⟨HP.out.symm, rfl, by rw [HM5.out]; exact ⟨m5, rfl⟩⟩
  | true =>
    rw [show M0 * true.toNat = M0 from Nat.mul_one _] at ha'
    have hp := hpos.out
    have q1 : (((M0 : Nat) : Int) == 0) = false := by rw [beq_eq_false_iff_ne]; omega
    first | go_big_quiet_skip | (go_big_quiet_want; go_big_quiet_op; go_big_quiet_on)
    first | go_big_quiet_skip | (go_big_quiet_want; go_big_quiet_op; go_big_quiet_on)
    first | go_big_quiet_skip | (go_big_quiet_want; go_big_quiet_op; go_big_quiet_on)
    refine wpQuiet_nil ?_
    intro w5 h5
    obtain ⟨m5, hm5⟩ := h5.out.d
    have st5 := h5.out.b
    clear h5 hne hc ha'
    go_wp2_with fail
    refine wp_region_bar2 (BaS q n L w) 11 (by kernel_rfl) (by kernel_rfl) (by kernel_rfl) (by kernel_rfl) (by kernel_rfl) (by decide) ⟨st5.of_block rfl, m5 + 1, by rw [hm5]; rfl⟩ ?_
    simp only [List.take_succ_cons, List.take_zero, List.drop_succ_cons, List.drop_zero]
    intro hne
    have hc : ∀ y : InW (BaS q n L w), y.W.cell? ⟨q, b * 256 + k, none⟩ = some (.int .u8 (L b k)) := fun y => y.h.cell hb hi8
    first | go_big_quiet_skip | (go_big_quiet_want; go_big_quiet_op; go_big_quiet_on)
    first | go_big_quiet_skip | (go_big_quiet_want; go_big_quiet_op; go_big_quiet_on)
    first | go_big_quiet_skip | (go_big_quiet_want; go_big_quiet_op; go_big_quiet_on)
    first | go_big_quiet_skip | (go_big_quiet_want; go_big_quiet_op; go_big_quiet_on)
    first | go_big_quiet_skip | (go_big_quiet_want; go_big_quiet_op; go_big_quiet_on)
    first | go_big_quiet_skip | (go_big_quiet_want; go_big_quiet_op; go_big_quiet_on)
    first | go_big_quiet_skip | (go_big_quiet_want; go_big_quiet_op; go_big_quiet_on)
    go_big_quiet_want
    go_big_quiet_op
    refine ⟨_, fun s => q_call s (fun W hW => (HMK.out W).mono fun e w' h => ⟨h.1, h.2 ▸ hW⟩), ?_⟩
    go_big_quiet_on
    have ho' := ho.out
    first | go_big_quiet_skip | (go_big_quiet_want; go_big_quiet_op; go_big_quiet_on)
    first | go_big_quiet_skip | (go_big_quiet_want; go_big_quiet_op; go_big_quiet_on)
    first | go_big_quiet_skip | (go_big_quiet_want; go_big_quiet_op; go_big_quiet_on)
    refine wpQuiet_nil ?_
    intro w6 h6
    have st6 := h6.out
    clear h6 hne hc ho' st5 hm5
    obtain ⟨m6, hm6⟩ := st6.d
    have hc6 := st6.cell hb hi8
    have hf6 := st6.b.soft (b * 256 + k)
    have HR := Lib.hid (bk_set st6.b hb hi8 rfl hoff.out)
    have HO : Hid (Only q w (w6.setCell ⟨q, b * 256 + k, none⟩ (.int .u8 (bZ (clrB (bt (L b)) i) k)))) := by
      have hd : Only q w (w.drewN m6) := (Only.refl _ _).drewN m6
      rw [← hm6] at hd
      exact hd.trans (Only.setCell w6 ⟨q, b * 256 + k, none⟩ _)
    clear st6 hm6
    go_wp2_with fail
    go_ret
    exact .inr ⟨HP.out.symm, rfl, HR.out, HO.out⟩
end Go.Proofs.YtnbmmhoofilmfaaGreatDoor
