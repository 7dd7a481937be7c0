/- Texts of this claim, merged by a program (a claim may have 60 files): Ck1, BitsG, Ck3. -/
import Derived.Test.YtnbmmhoofilmfaaDoorK17
import Derived.Test.YtnbmmhoofilmfaaDoorK15
/- check, plainly: bits of blocks; an image with a bit of a bitmap turned about is no file system. -/
namespace Go.Proofs.YtnbmmhoofilmfaaDoor
open Go.RowKit
set_option linter.unusedVariables false

theorem tb0 : ∀ a b c d e f g h : Bool, (b8 a b c d e f g h).testBit 0 = a := by decide
theorem tb1 : ∀ a b c d e f g h : Bool, (b8 a b c d e f g h).testBit 1 = b := by decide
theorem tb2 : ∀ a b c d e f g h : Bool, (b8 a b c d e f g h).testBit 2 = c := by decide
theorem tb3 : ∀ a b c d e f g h : Bool, (b8 a b c d e f g h).testBit 3 = d := by decide
theorem tb4 : ∀ a b c d e f g h : Bool, (b8 a b c d e f g h).testBit 4 = e := by decide
theorem tb5 : ∀ a b c d e f g h : Bool, (b8 a b c d e f g h).testBit 5 = f := by decide
theorem tb6 : ∀ a b c d e f g h : Bool, (b8 a b c d e f g h).testBit 6 = g := by decide
theorem tb7 : ∀ a b c d e f g h : Bool, (b8 a b c d e f g h).testBit 7 = h := by decide
theorem bt_bZ (P : Nat → Bool) (i : Nat) : bt (bZ P) i = P i := by
  unfold bt bZ by8
  rw [Int.toNat_natCast]
  have : i % 8 = 0 ∨ i % 8 = 1 ∨ i % 8 = 2 ∨ i % 8 = 3 ∨ i % 8 = 4 ∨ i % 8 = 5 ∨ i % 8 = 6 ∨ i % 8 = 7 := by omega
  rcases this with h | h | h | h | h | h | h | h <;> rw [h]
  · rw [tb0]; congr 1; omega
  · rw [tb1]; congr 1; omega
  · rw [tb2]; congr 1; omega
  · rw [tb3]; congr 1; omega
  · rw [tb4]; congr 1; omega
  · rw [tb5]; congr 1; omega
  · rw [tb6]; congr 1; omega
  · rw [tb7]; congr 1; omega
set_option maxRecDepth 100000 in
theorem b8_all : ∀ n : Fin 256, b8 (n.val.testBit 0) (n.val.testBit 1) (n.val.testBit 2) (n.val.testBit 3) (n.val.testBit 4) (n.val.testBit 5) (n.val.testBit 6) (n.val.testBit 7) = n.val := by decide
/-- a block of bytes is the block of its bits -/
theorem bZ_bt {z : Nat → Int} (hz : Byt z) (k : Nat) : bZ (bt z) k = z k := by
  have hk := hz k
  have h0 := b8_all ⟨(z k).toNat, by omega⟩
  unfold bZ by8 bt
  rw [show (8 * k) / 8 = k by omega, show (8 * k + 1) / 8 = k by omega, show (8 * k + 2) / 8 = k by omega, show (8 * k + 3) / 8 = k by omega, show (8 * k + 4) / 8 = k by omega, show (8 * k + 5) / 8 = k by omega, show (8 * k + 6) / 8 = k by omega, show (8 * k + 7) / 8 = k by omega,
    show (8 * k) % 8 = 0 by omega, show (8 * k + 1) % 8 = 1 by omega, show (8 * k + 2) % 8 = 2 by omega, show (8 * k + 3) % 8 = 3 by omega, show (8 * k + 4) % 8 = 4 by omega, show (8 * k + 5) % 8 = 5 by omega, show (8 * k + 6) % 8 = 6 by omega, show (8 * k + 7) % 8 = 7 by omega]
  dsimp only at h0
  rw [h0]; omega
theorem foldO_id {σ : Type} {f : Nat → σ → Option σ} {n : Nat} {o : σ} (h : ∀ k, k < n → f k o = some o) : foldO f n o = some o := by
  induction n with
  | zero => rfl
  | succ n ih => rw [foldO, ih fun k hk => h k (by omega)]; exact h n (by omega)
theorem cntB_congr {p q : Nat → Bool} {n : Nat} (h : ∀ k, k < n → p k = q k) : cntB p n = cntB q n := by
  induction n with
  | zero => rfl
  | succ n ih => rw [cntB, cntB, ih fun k hk => h k (by omega), h n (by omega)]
theorem cntB_low {p : Nat → Bool} {u n : Nat} (hu : u ≤ n) (h : ∀ k, k < n → p k = decide (k < u)) : cntB p n = u := by
  induction n generalizing u with
  | zero => rw [cntB]; omega
  | succ n ih =>
    rw [cntB]
    by_cases e : u ≤ n
    · rw [ih e fun k hk => h k (by omega), h n (by omega), if_neg (by simp; omega)]; omega
    · obtain rfl : u = n + 1 := by omega
      rw [ih (u := n) (Nat.le_refl _) fun k hk => by rw [h k (by omega)]; simp; omega, h n (by omega), if_pos (by simp)]
namespace Im
theorem allS_iff (P : Nat → Bool) (lo hi : Nat) : allS P lo hi = true ↔ ∀ i, lo ≤ i → i < hi → P i = true := by
  unfold allS
  rw [allB_iff]
  constructor
  · intro h i h1 h2
    have := h (i - lo) (by omega)
    rwa [show lo + (i - lo) = i by omega] at this
  · intro h i hi; exact h _ (by omega) (by omega)
variable {x : Im}
theorem ptrF_zero (x : Im) (t l first en : Nat) (o : Nat → Nat) : x.ptrF t l 0 first en o = some o := by
  cases l <;> (rw [ptrF]; exact if_pos rfl)
/-- what holds of a file system -/
structure Good (x : Im) (m : Nat → Bool) (o : Nat → Nat) (u : Nat → List Nat) : Prop where
  c1 : x.ck1 = true
  c2 : x.ck2 = true
  c3 : ∀ k, k < x.g → x.ck3 k = true
  c4 : ∀ t, 1 ≤ t → t ≤ x.ni → x.ck4 t = true
  c5 : (x.ino 1).kind = 2
  orph : x.orph = some m
  c6 : ∀ t, 1 ≤ t → t ≤ x.ni → x.ck6 m t = true
  trees : x.trees m = some o
  c8 : ∀ k, k < x.g → x.ck8 o k = true
  dirs : x.dirs = some u
  c10 : ∀ t, 1 ≤ t → t ≤ x.ni → x.ck10 u t = true
  c11 : ∀ t, t ≤ x.ni → x.ck11 (x.reach u) t = true
  c12 : ∀ k, k < x.g → x.ck12 k = true
theorem all1 {p : Nat → Bool} {n : Nat} : allB (fun t => p (t + 1)) n = true ↔ ∀ t, 1 ≤ t → t ≤ n → p t = true := by
  rw [allB_iff]
  constructor
  · intro h t h1 h2
    have := h (t - 1) (by omega)
    rwa [show t - 1 + 1 = t by omega] at this
  · intro h t ht; exact h _ (by omega) (by omega)
theorem exam_good {m : Nat → Bool} {o : Nat → Nat} {u : Nat → List Nat} (h : Good x m o u) : x.exam = (0, o) := by
  unfold exam
  rw [h.c1, h.c2, (allB_iff _ _).2 h.c3, all1.2 h.c4, h.orph]
  rw [if_neg (by decide), if_neg (by decide), if_neg (by decide), if_neg (by decide), if_neg (fun e => e h.c5)]
  show (if allB (fun t => x.ck6 m (t + 1)) x.ni = false then _ else _) = _
  rw [all1.2 h.c6, if_neg (by decide), h.trees]
  show (if allB (x.ck8 o) x.g = false then _ else _) = _
  rw [(allB_iff _ _).2 h.c8, if_neg (by decide), h.dirs]
  show (if allB (fun t => x.ck10 u (t + 1)) x.ni = false then _ else _) = _
  rw [all1.2 h.c10, (allB_iff _ _).2 (fun t ht => h.c11 t (by omega)), (allB_iff _ _).2 h.c12]
  rfl
end Im
end Go.Proofs.YtnbmmhoofilmfaaDoor

/- bits.Has, bits.First of any block. -/
namespace Go.Proofs.YtnbmmhoofilmfaaDoor
open Go.RowKit
set_option linter.unusedVariables false

/-- a block of the call's own -/
structure HsS (w : World) (P : Nat → Bool) (W : World) : Prop where
  b : Blk W w.heap.size 32 256 (bZ P)
  bel : Below w.heap.size w W
theorem HsS.below {w : World} {P : Nat → Bool} {W W' : World} (h : HsS w P W) (hb : Below W.heap.size W W') : HsS w P W' := ⟨h.b.below hb h.b.lt, h.bel.trans (hb.mono h.bel.size)⟩
theorem bitAnd (P : Nat → Bool) (i : Nat) : ∃ A : Int, bits .and .u8 (bZ P (i / 8)) ((2 ^ (i % 8) : Nat) : Int) = A ∧ (A != 0) = P i ∧ (A == 0) = !P i := by
  refine ⟨_, rfl, ?_⟩
  have e := by8_and P (i / 8) (i % 8) (Nat.mod_lt _ (by decide))
  rw [show 8 * (i / 8) + i % 8 = i by omega] at e
  unfold bZ
  rw [u8_and_nat _ _ (by8_lt _ _) (pow_lt8 i), e]
  have hp : 0 < 2 ^ (i % 8) := Nat.two_pow_pos _
  cases P i with
  | false => simp
  | true =>
    simp only [Bool.toNat_true, Nat.mul_one, Bool.not_true]
    have h0 : ((2 ^ (i % 8) : Nat) : Int) ≠ 0 := by omega
    exact ⟨by simpa using h0, by simpa using h0⟩
set_option maxRecDepth 100000 in
set_option maxHeartbeats 2000000 in
theorem bitHas_any (P : Nat → Bool) (i : Nat) (hi : i < 2048) (w : World) :
    Calls Tryd.prog 147 #[bval (bZ P), .int .i64 (i : Int)] w fun e w' => e = .returned (.bool (P i)) ∧ Below w.heap.size w w' := by
  have h0 : (i : Int).tdiv 8 = ((i / 8 : Nat) : Int) := by rw [Int.tdiv_eq_ediv_of_nonneg (by omega)]; omega
  have h1 : (0 : Int) ≤ ((i / 8 : Nat) : Int) := by omega
  have h2 : ((i / 8 : Nat) : Int) < 256 := by omega
  obtain ⟨A, hA, hA1, _⟩ := bitAnd P i
  have ST : Hid (HsS w P (w.alloc (.cells (Ks .u8 256 (bZ P)).toArray 32))) := ⟨Blk.new w _ _ _, (Below.refl _ _).alloc (Nat.le_refl _) _⟩
  have hi8 : i / 8 < 256 := by omega
  have HMK : Hid (∀ W, Calls Tryd.prog 66 #[.int .i64 (i : Int)] W fun e w' => e = .returned (.int .u8 ((2 ^ (i % 8) : Nat) : Int)) ∧ W = w') := fun W => bitMask_any i hi W
  have HIS : Hid (∀ W, Calls Tryd.prog 126 #[.int .i64 (i : Int)] W fun e w' => e = .returned (.bool true) ∧ W = w') := fun W => bitIs_any i hi W
  generalize ((2 ^ (i % 8) : Nat) : Int) = M at *
  generalize hc : P i = c at *
  generalize hk : i / 8 = k at *
  have HAA := Lib.hid hA
  have HA1 := Lib.hid hA1
  clear hA hA1 hc hk
  go_enter Tryd.func147, Tryd.ntmps147
  go_wp2_with fail
  refine wp_region_S (HsS w P) (by kernel_rfl) (by kernel_rfl) ⟨ST.out.b, ST.out.bel.drew⟩ ?_
  intro hne
  have hc : ∀ y : InW (HsS w P), y.W.cell? ⟨w.heap.size, k, none⟩ = some (.int .u8 (bZ P k)) := fun y => by have := y.h.b.seg k hi8; rwa [Nat.zero_add] at this
  first | go_big_quiet_skip | (go_big_quiet_want; go_big_quiet_op; go_big_quiet_on)
  go_big_quiet_want
  go_big_quiet_op
  refine ⟨_, fun s => q_call s (fun W hW => (HIS.out W).mono fun e w' h => ⟨h.1, h.2 ▸ hW⟩), ?_⟩
  go_big_quiet_on
  first | go_big_quiet_skip | (go_big_quiet_want; go_big_quiet_op; go_big_quiet_on)
  first | go_big_quiet_skip | (go_big_quiet_want; go_big_quiet_op; go_big_quiet_on)
  first | go_big_quiet_skip | (go_big_quiet_want; go_big_quiet_op; go_big_quiet_on)
  first | go_big_quiet_skip | (go_big_quiet_want; go_big_quiet_op; go_big_quiet_on)
  first | go_big_quiet_skip | (go_big_quiet_want; go_big_quiet_op; go_big_quiet_on)
  first | go_big_quiet_skip | (go_big_quiet_want; go_big_quiet_op; go_big_quiet_on)
  go_big_quiet_want
  go_big_quiet_op
  refine ⟨_, fun s => q_call s (fun W hW => (HMK.out W).mono fun e w' h => ⟨h.1, h.2 ▸ hW⟩), ?_⟩
  go_big_quiet_on
  have hA := HAA.out
  have hA1 := HA1.out
  first | go_big_quiet_skip | (go_big_quiet_want; go_big_quiet_op; go_big_quiet_on)
  first | go_big_quiet_skip | (go_big_quiet_want; go_big_quiet_op; go_big_quiet_on)
  first | go_big_quiet_skip | (go_big_quiet_want; go_big_quiet_op; go_big_quiet_on)
  first | go_big_quiet_skip | (go_big_quiet_want; go_big_quiet_op; go_big_quiet_on)
  refine wpQuiet_nil ?_
  intro w5 h5
  have st5 := h5.out
  clear h5 hne hc hA hA1
  go_wp2_with fail
  go_ret
  exact ⟨rfl, st5.bel⟩
/-- the first clear bit from lo on, of n; -1: there is none -/
def firstC (P : Nat → Bool) (lo : Nat) : Nat → Int
  | 0 => -1
  | n + 1 => if P lo then firstC P (lo + 1) n else (lo : Int)
theorem firstC_step {P : Nat → Bool} {lo k n : Nat} (h : ∀ i, lo ≤ i → i < lo + k → P i = true) : firstC P lo (k + n) = firstC P (lo + k) n := by
  induction k generalizing lo with
  | zero => simp
  | succ k ih =>
    rw [show k + 1 + n = (k + n) + 1 by omega, firstC, if_pos (h lo (Nat.le_refl _) (by omega)), ih (lo := lo + 1) fun i h1 h2 => h i (by omega) (by omega)]
    congr 1; omega
theorem firstC_none {P : Nat → Bool} {lo n : Nat} (h : ∀ i, lo ≤ i → i < lo + n → P i = true) : firstC P lo n = -1 := by
  have := firstC_step (n := 0) h
  rw [Nat.add_zero] at this
  rw [this]; rfl
theorem firstC_lt (P : Nat → Bool) (lo n : Nat) : decide (firstC P lo n < 0) = Im.allS P lo (lo + n) := by
  rw [Bool.eq_iff_iff, decide_eq_true_eq, Im.allS_iff]
  induction n generalizing lo with
  | zero => simp [firstC]; intro i h1 h2; omega
  | succ n ih =>
    rw [firstC]
    cases hp : P lo with
    | false =>
      rw [if_neg (by decide)]
      constructor
      · intro h; omega
      · intro h
        have := h lo (Nat.le_refl _) (by omega)
        rw [hp] at this; cases this
    | true =>
      rw [if_pos rfl, ih (lo + 1)]
      constructor
      · intro h i h1 h2
        by_cases e : i = lo
        · rw [e]; exact hp
        · exact h i (by omega) (by omega)
      · intro h i h1 h2; exact h i (by omega) (by omega)
set_option maxRecDepth 100000 in
set_option maxHeartbeats 2000000 in
theorem bitFirst_any (P : Nat → Bool) (lo n : Nat) (h1 : lo + n ≤ 2048) (w : World) :
    Calls Tryd.prog 144 #[bval (bZ P), .int .i64 (lo : Int), .int .i64 ((lo + n : Nat) : Int)] w fun e w' => e = .returned (.int .i64 (firstC P lo n)) ∧ Below w.heap.size w w' := by
  have ST : Hid (HsS w P (w.alloc (.cells (Ks .u8 256 (bZ P)).toArray 32))) := ⟨Blk.new w _ _ _, (Below.refl _ _).alloc (Nat.le_refl _) _⟩
  obtain ⟨hi, hhi⟩ : ∃ hi, hi = lo + n := ⟨_, rfl⟩
  rw [← hhi] at h1 ⊢
  have hlo : lo ≤ hi := by omega
  have HHI := Lib.hid hhi
  clear hhi
  go_enter Tryd.func144, Tryd.ntmps144
  have m1 : ¬ (lo : Int) < 0 := by omega
  have m2 : min (hi : Int) 2048 = (hi : Int) := by omega
  have m3 : max (lo : Int) 0 = (lo : Int) := by omega
  go_wp2_with fail
  go_loopw [7] (fun u wr => ∃ k : Nat, lo + k ≤ hi ∧ u = .int .i64 ((lo + k : Nat) : Int) ∧ (∀ i, lo ≤ i → i < lo + k → P i = true) ∧ HsS w P wr) (fun u _ => hi - (intOf u).toNat)
  case atStart => exact ⟨0, by omega, rfl, fun i a b => by omega, ST.out⟩
  case round =>
    clear ST
    obtain ⟨k, hk, rfl, hP, st⟩ := hrel
    have HPP : Hid (∀ i, lo ≤ i → i < lo + k → P i = true) := hP
    have HN : Hid (hi = lo + n) := HHI.out
    clear hP HHI
    obtain ⟨q, hq⟩ : ∃ q, q = lo + k := ⟨_, rfl⟩
    have HQ : Hid (q = lo + k) := hq
    rw [← hq] at hk ⊢
    clear hq
    by_cases hlt : q < hi
    · have hlt' : (q : Int) < (hi : Int) := by omega
      have h0 : (q : Int).tdiv 8 = ((q / 8 : Nat) : Int) := by rw [Int.tdiv_eq_ediv_of_nonneg (by omega)]; omega
      have h1' : (0 : Int) ≤ ((q / 8 : Nat) : Int) := by omega
      have h2' : ((q / 8 : Nat) : Int) < 256 := by omega
      obtain ⟨A, hA, _, hA1⟩ := bitAnd P q
      have hi8 : q / 8 < 256 := by omega
      have HMK : Hid (∀ W, Calls Tryd.prog 66 #[.int .i64 (q : Int)] W fun e w' => e = .returned (.int .u8 ((2 ^ (q % 8) : Nat) : Int)) ∧ W = w') := fun W => bitMask_any q (by omega) W
      generalize ((2 ^ (q % 8) : Nat) : Int) = M at *
      obtain ⟨c, hc⟩ : ∃ c, c = P q := ⟨_, rfl⟩
      rw [← hc] at hA1
      obtain ⟨r, hr⟩ : ∃ r, r = q / 8 := ⟨_, rfl⟩
      rw [← hr] at h0 h1' h2' hA hi8
      have HAA := Lib.hid hA
      have HA1 := Lib.hid hA1
      have HC := Lib.hid hc
      clear hA hA1 hc hr
      go_wp2_with fail
      refine wp_region_S (HsS w P) (by kernel_rfl) (by kernel_rfl) ⟨st.b, st.bel.drew⟩ ?_
      clear st
      intro hne
      have hc : ∀ y : InW (HsS w P), y.W.cell? ⟨w.heap.size, r, none⟩ = some (.int .u8 (bZ P r)) := fun y => by have := y.h.b.seg r hi8; rwa [Nat.zero_add] at this
      first | go_big_quiet_skip | (go_big_quiet_want; go_big_quiet_op; go_big_quiet_on)
      first | go_big_quiet_skip | (go_big_quiet_want; go_big_quiet_op; go_big_quiet_on)
      first | go_big_quiet_skip | (go_big_quiet_want; go_big_quiet_op; go_big_quiet_on)
      first | go_big_quiet_skip | (go_big_quiet_want; go_big_quiet_op; go_big_quiet_on)
      first | go_big_quiet_skip | (go_big_quiet_want; go_big_quiet_op; go_big_quiet_on)
      go_big_quiet_want
      go_big_quiet_op
      refine ⟨_, fun s => q_call s (fun W hW => (HMK.out W).mono fun e w' h => ⟨h.1, h.2 ▸ hW⟩), ?_⟩
      go_big_quiet_on
      have hA := HAA.out
      have hA1 := HA1.out
      first | go_big_quiet_skip | (go_big_quiet_want; go_big_quiet_op; go_big_quiet_on)
      first | go_big_quiet_skip | (go_big_quiet_want; go_big_quiet_op; go_big_quiet_on)
      refine wpQuiet_nil ?_
      intro w5 h5
      have st5 := h5.out
      clear h5 hne hc hA hA1
      cases c with
      | true =>
        go_wp2_with fail
        go_roundw
        case rel => exact ⟨k + 1, by have := HQ.out; omega, by have := HQ.out; first | (rw [this]; go_num) | (refine int_eq ?_; omega), fun i a b => by
          by_cases e : i = q
          · rw [e]; exact HC.out.symm
          · exact HPP.out i a (by have := HQ.out; omega), st5⟩
        case measure => simp [intOf]; omega
      | false =>
        have FIN : Hid (firstC P lo n = (q : Int)) := by
          show _ = _
          have hn : n = k + (n - k - 1 + 1) := by have := HN.out; have := HQ.out; omega
          rw [hn, firstC_step HPP.out, firstC, ← HQ.out, ← HC.out]; rfl
        go_wp2_with fail
        go_ret
        exact ⟨by rw [FIN.out]; rfl, st5.bel⟩
    · obtain rfl : q = hi := by omega
      have FIN : Hid (firstC P lo n = -1) := firstC_none fun i a b => HPP.out i a (by have := HN.out; have := HQ.out; omega)
      go_wp2_with fail
      go_ret
      exact ⟨by rw [FIN.out]; rfl, st.bel⟩
theorem bval_bits {z : Nat → Int} (hz : Byt z) : bval z = bval (bZ (bt z)) := by
  show Value.agg _ = Value.agg _
  rw [Ks_congr fun i _ => (bZ_bt hz i).symm]
theorem bitFirst_z {z : Nat → Int} (hz : Byt z) (LO HI : Int) (lo n : Nat) (h0 : LO = (lo : Int)) (h1 : HI = ((lo + n : Nat) : Int)) (h2 : lo + n ≤ 2048) (w : World) :
    Calls Tryd.prog 144 #[bval z, .int .i64 LO, .int .i64 HI] w fun e w' => e = .returned (.int .i64 (firstC (bt z) lo n)) ∧ Below w.heap.size w w' := by
  rw [bval_bits hz, h0, h1]; exact bitFirst_any (bt z) lo n h2 w
theorem bitHas_z {z : Nat → Int} (hz : Byt z) (I : Int) (i : Nat) (h0 : I = (i : Int)) (hi : i < 2048) (w : World) :
    Calls Tryd.prog 147 #[bval z, .int .i64 I] w fun e w' => e = .returned (.bool (bt z i)) ∧ Below w.heap.size w w' := by
  rw [bval_bits hz, h0]; exact bitHas_any (bt z) i hi w
end Go.Proofs.YtnbmmhoofilmfaaDoor

/- check, plainly: steps that may break, one by one; ways to blocks; the chain of orphans. -/
namespace Go.Proofs.YtnbmmhoofilmfaaDoor
open Go.RowKit
set_option linter.unusedVariables false

theorem foldO_none {σ : Type} {f : Nat → σ → Option σ} {o a : σ} {k n : Nat} (h : foldO f k o = some a) (hf : f k a = none) (hk : k < n) : foldO f n o = none := by
  induction n with
  | zero => omega
  | succ n ih =>
    rw [foldO]
    by_cases e : k = n
    · subst e; rw [h]; exact hf
    · rw [ih (by omega)]; rfl
theorem foldO_next {σ : Type} {f : Nat → σ → Option σ} {o a b : σ} {k : Nat} (h : foldO f k o = some a) (hf : f k a = some b) : foldO f (k + 1) o = some b := by
  rw [foldO, h]; exact hf
theorem foldO_at {σ : Type} {f : Nat → σ → Option σ} {o o' : σ} {n : Nat} (h : foldO f n o = some o') {k : Nat} (hk : k < n) : ∃ a b, foldO f k o = some a ∧ f k a = some b := by
  induction n generalizing o' with
  | zero => omega
  | succ n ih =>
    rw [foldO] at h
    cases ha : foldO f n o with
    | none => rw [ha] at h; cases h
    | some a =>
      rw [ha] at h
      by_cases e : k = n
      · subst e; exact ⟨a, o', ha, h⟩
      · exact ih ha (by omega)
theorem foldO_inv {σ : Type} {P : Nat → σ → Prop} {f : Nat → σ → Option σ} {o o' : σ} {n : Nat} (h : foldO f n o = some o') (h0 : P 0 o) (hs : ∀ k a b, k < n → P k a → f k a = some b → P (k + 1) b) : P n o' := by
  induction n generalizing o' with
  | zero => injection h with h; exact h ▸ h0
  | succ n ih =>
    rw [foldO] at h
    cases ha : foldO f n o with
    | none => rw [ha] at h; cases h
    | some a => rw [ha] at h; exact hs n a o' (by omega) (ih ha fun k a b hk => hs k a b (by omega)) h
theorem cntB_le (p : Nat → Bool) (n : Nat) : cntB p n ≤ n := by
  induction n with
  | zero => exact Nat.le_refl _
  | succ n ih => rw [cntB]; split <;> omega
theorem cntB_set {p : Nat → Bool} {n k : Nat} (hk : k < n) (h : p k = false) : cntB (updN p k true) n = cntB p n + 1 := by
  induction n with
  | zero => omega
  | succ n ih =>
    rw [cntB, cntB]
    by_cases e : k = n
    · subst e
      rw [cntB_congr (q := p) fun i hi => by unfold updN; rw [if_neg (by omega)]]
      have : updN p k true k = true := by unfold updN; rw [if_pos rfl]
      rw [this, h, if_pos rfl, if_neg (by decide)]
    · have : updN p k true n = p n := by unfold updN; rw [if_neg (by omega)]
      rw [ih (by omega), this]; omega
namespace Im
variable {x : Im}
/-- a pointer of that level may be followed -/
def okW (x : Im) : Nat → Nat → Prop
  | 0, p => p = 0 ∨ x.data p = true
  | l + 1, p => p = 0 ∨ (x.data p = true ∧ ∀ k, k < 64 → okW x l (x.wrd p k))
theorem okW.lt {l p : Nat} (h : x.okW l p) (h0 : p ≠ 0) : p < x.n := by
  have hd : x.data p = true := by
    cases l with
    | zero => exact h.resolve_left h0
    | succ l => exact (h.resolve_left h0).1
  unfold data at hd
  rw [Bool.and_eq_true, Bool.and_eq_true, decide_eq_true_eq, decide_eq_true_eq] at hd
  exact hd.2.1
theorem ptrF_ok (t : Nat) : ∀ (l p first en : Nat) (o o' : Nat → Nat), x.ptrF t l p first en o = some o' → x.okW l p
  | 0, p, first, en, o, o', h => by
    rw [ptrF] at h
    by_cases h0 : p = 0
    · exact .inl h0
    rw [if_neg h0] at h
    by_cases hc : first < min en 65536 ∧ x.data p = true ∧ o p = 0
    · exact .inr hc.2.1
    · rw [if_neg hc] at h; cases h
  | l + 1, p, first, en, o, o', h => by
    rw [ptrF] at h
    by_cases h0 : p = 0
    · exact .inl h0
    rw [if_neg h0] at h
    by_cases hc : first < min en 65536 ∧ x.data p = true ∧ o p = 0
    · rw [if_pos hc] at h
      refine .inr ⟨hc.2.1, fun k hk => ?_⟩
      obtain ⟨a, b, _, hb⟩ := foldO_at h hk
      exact ptrF_ok t l _ _ _ a b hb
    · rw [if_neg hc] at h; cases h
/-- each pointer of an inode that is in use may be followed -/
def Tree (x : Im) (t : Nat) : Prop := ∀ q, q < 11 → x.okW (lvl q) ((x.ino t).p q).toNat
theorem trees_ok {m : Nat → Bool} {o : Nat → Nat} (h : x.trees m = some o) {t : Nat} (h1 : 1 ≤ t) (h2 : t ≤ x.ni) (hk : (x.ino t).kind ≠ 0) : x.Tree t := by
  obtain ⟨a, b, _, hb⟩ := foldO_at h (k := t - 1) (by omega)
  rw [show t - 1 + 1 = t by omega] at hb
  unfold treeF at hb
  rw [if_neg hk] at hb
  intro q hq
  obtain ⟨a', b', _, hb'⟩ := foldO_at hb hq
  exact ptrF_ok t _ _ _ _ _ _ hb'
/-- a way from a pointer down, k words on -/
theorem way_ok {l p : Nat} (h : x.okW l p) : ∀ (ws : List Nat), ws.length ≤ l → (∀ k, k ∈ ws → k < 64) → x.okW (l - ws.length) (ws.foldl x.step p) := by
  intro ws
  induction ws generalizing l p with
  | nil => intro _ _; exact h
  | cons k ws ih =>
    intro hl hk
    rw [List.length_cons] at hl ⊢
    obtain ⟨l, rfl⟩ : ∃ l', l = l' + 1 := ⟨l - 1, by omega⟩
    rw [show l + 1 - (ws.length + 1) = l - ws.length by omega, List.foldl_cons]
    refine ih ?_ (by omega) fun k' hk' => hk k' (List.mem_cons_of_mem _ hk')
    unfold step
    split
    · cases l with
      | zero => exact .inl rfl
      | succ l => exact .inl rfl
    · rename_i h0
      exact (h.resolve_left h0).2 k (hk k (List.mem_cons_self ..))
theorem wayP_lt (i : Nat) : wayP i < 11 := by unfold wayP; split <;> (try split) <;> (try split) <;> omega
theorem wayB_len (i : Nat) : (wayB i).length = lvl (wayP i) := by
  unfold wayB wayP lvl
  by_cases h1 : i < 8
  · rw [if_pos h1, if_pos h1, if_pos h1]; rfl
  rw [if_neg h1, if_neg h1]
  by_cases h2 : i < 72
  · rw [if_pos h2, if_pos h2]; rfl
  rw [if_neg h2, if_neg h2]
  by_cases h3 : i < 4168
  · rw [if_pos h3, if_pos h3]; rfl
  · rw [if_neg h3, if_neg h3]; rfl
theorem wayB_lt {i : Nat} (hi : i < 65536) : ∀ k, k ∈ wayB i → k < 64 := by
  intro k hk
  unfold wayB at hk
  split at hk
  · cases hk
  split at hk
  · simp only [List.mem_singleton] at hk; omega
  split at hk
  · simp only [List.mem_cons, List.not_mem_nil, or_false] at hk; omega
  · simp only [List.mem_cons, List.not_mem_nil, or_false] at hk; omega
theorem blk_lt {t i : Nat} (h : x.Tree t) (hi : i < 65536) (h0 : x.blk t i ≠ 0) : x.blk t i < x.n := by
  have := way_ok (h (wayP i) (wayP_lt i)) (wayB i) (Nat.le_of_eq (wayB_len i)) (wayB_lt hi)
  exact okW.lt this h0
/-- the chain of orphans, step by step -/
theorem orpF_step {f t : Nat} {m : Nat → Bool} (h0 : t ≠ 0) (h1 : t ≤ x.ni) (h2 : m t = false) (h3 : (x.ino t).kind = 1) : x.orpF (f + 1) t m = x.orpF f (x.ino t).next.toNat (updN m t true) := by
  rw [orpF, if_neg h0, if_pos ⟨h1, h2, h3⟩]
theorem orpF_no {f t : Nat} {m : Nat → Bool} (h0 : t ≠ 0) (h : ¬ (t ≤ x.ni ∧ m t = false ∧ (x.ino t).kind = 1)) : x.orpF (f + 1) t m = none := by
  rw [orpF, if_neg h0, if_neg h]
end Im
end Go.Proofs.YtnbmmhoofilmfaaDoor
