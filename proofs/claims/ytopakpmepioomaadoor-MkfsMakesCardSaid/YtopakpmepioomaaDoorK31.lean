/- Texts of this claim, merged by a program (a claim may have 60 files): R4, MkH. -/
import Derived.Test.YtopakpmepioomaaDoorK01
import Derived.Test.YtopakpmepioomaaDoorK02
import Derived.Test.YtopakpmepioomaaDoorK06
import Derived.Test.YtopakpmepioomaaDoorK30
import Derived.Test.YtopakpmepioomaaDoorK04
/- quernref04.Block: bits as a block. -/
namespace Go.Proofs.YtopakpmepioomaaDoor
open Go.RowKit
set_option linter.unusedVariables false

/-- the upper t bits of byte i -/
def hi8 (P : Nat → Bool) (i : Nat) : Nat → Nat
  | 0 => 0
  | t + 1 => 2 * hi8 P i t + (P (8 * i + (7 - t))).toNat
theorem hi8_lt (P : Nat → Bool) (i : Nat) : ∀ t, hi8 P i t < 2 ^ t
  | 0 => by show 0 < 2 ^ 0; decide
  | t + 1 => by
    have h := hi8_lt P i t
    have hb : (P (8 * i + (7 - t))).toNat ≤ 1 := Bool.toNat_le _
    show 2 * hi8 P i t + (P (8 * i + (7 - t))).toNat < 2 ^ (t + 1)
    rw [Nat.pow_succ]; omega
theorem hi8_256 (P : Nat → Bool) (i : Nat) {t : Nat} (ht : t ≤ 8) : hi8 P i t < 256 := by
  have h1 := hi8_lt P i t
  have h2 : 2 ^ t ≤ 2 ^ 8 := Nat.pow_le_pow_right (by decide) ht
  omega
theorem hi8_8 (P : Nat → Bool) (i : Nat) : hi8 P i 8 = by8 P i := by
  unfold by8 b8
  show 2 * (2 * (2 * (2 * (2 * (2 * (2 * (2 * 0 + (P (8 * i + 7)).toNat) + (P (8 * i + 6)).toNat) + (P (8 * i + 5)).toNat) + (P (8 * i + 4)).toNat) + (P (8 * i + 3)).toNat) + (P (8 * i + 2)).toNat) + (P (8 * i + 1)).toNat) + (P (8 * i + 0)).toNat = _
  rw [Nat.add_zero (8 * i)]
  omega
def boF (P : Nat → Bool) (i : Nat) : List Value := [.bool (P i)]
theorem boF_len (P : Nat → Bool) (i : Nat) : (boF P i).length = 1 := rfl
/-- the bytes so far -/
def uB (P : Nat → Bool) (k j : Nat) : Int := if j < k then bZ P j else 0
structure R4S (w : World) (P : Nat → Bool) (b off k : Nat) (W : World) : Prop where
  r : Blk W w.heap.size 32 256 (fun _ => 0)
  bk : Blk W (w.heap.size + 1) 32 256 (uB P k)
  l : RRow W (some ⟨b, off, none⟩) 1 2048 (boF P)
  bel : Below w.heap.size w W
theorem boRow {W : World} {b off : Nat} {P : Nat → Bool} (h : RRow W (some ⟨b, off, none⟩) 1 2048 (boF P)) {d : Nat} (hd : d < 2048) : W.cell? ⟨b, off + d, none⟩ = some (.bool (P d)) := by
  rcases h with h | ⟨b', off', e, h⟩
  · omega
  · injection e with e; injection e with e1 e2; subst e1 e2
    have := h d hd 0 _ rfl
    rwa [Nat.mul_one, Nat.add_zero] at this

set_option maxRecDepth 100000 in
set_option maxHeartbeats 8000000 in
theorem rBits4_any (P : Nat → Bool) (la : Option Addr) (cap : Nat) (w : World) (hl : RRow w la 1 2048 (boF P)) (hla : ∀ b off, la = some ⟨b, off, none⟩ → b < w.heap.size) :
    Calls Tryd.prog 23 #[.slice la 2048 cap] w fun e w' => e = .returned (bval (bZ P)) ∧ Below w.heap.size w w' := by
  obtain ⟨b, off, rfl⟩ : ∃ b off, la = some ⟨b, off, none⟩ := by
    rcases hl with h | ⟨b, off, e, _⟩
    · omega
    · exact ⟨b, off, e⟩
  have hbw := hla b off rfl
  have hal := zero_block
  have st : Hid (R4S w P b off 0 ((w.alloc (.cells (Ks .u8 256 (fun _ => 0)).toArray 32)).alloc (.cells (Ks .u8 256 (fun _ => 0)).toArray 32))) := by
    refine ⟨(Blk.new w _ _ _).alloc _, ?_, ?_, ((Below.refl _ _).alloc (Nat.le_refl _) _).alloc (by simp) _⟩
    · have := Blk.new (w.alloc (.cells (Ks .u8 256 (fun _ => 0)).toArray 32)) 32 256 (fun _ => 0)
      simp only [World.size_alloc] at this
      exact this.congr fun i _ => rfl
    · exact hl.below (by intro e; cases e) (((Below.refl w.heap.size w).alloc (Nat.le_refl _) _).alloc (by simp) _)
  clear hl hla
  go_enter Tryd.func23, Tryd.ntmps23
  go_wp2_with fail
  go_loopw [4, 5, 6] (fun u _ _ wr => ∃ k : Nat, u = .int .i64 (k : Int) ∧ k ≤ 256 ∧ R4S w P b off k wr) (fun u _ _ _ => 256 - (intOf u).toNat)
  case atStart => exact ⟨0, rfl, Nat.zero_le _, st.out⟩
  case round =>
    clear st
    obtain ⟨k, rfl, hk, st⟩ := hrel
    have ST := Lib.hid st
    clear st
    by_cases hlt : k < 256
    · have hlt' : (k : Int) < 256 := by omega
      have k0 : (0 : Int) ≤ (k : Int) := by omega
      go_wp2_with fail
      go_loopw [5, 6] (fun x u wq => ∃ (t : Nat), x = .int .i64 (hi8 P k t : Int) ∧ u = .int .i64 (7 - (t : Int)) ∧ t ≤ 8 ∧ wq = wr) (fun _ u _ => (intOf u + 1).toNat)
      case atStart => exact ⟨0, rfl, rfl, Nat.zero_le _, rfl⟩
      case round =>
        obtain ⟨t, rfl, rfl, ht, rfl⟩ := hrel
        by_cases hlt2 : t < 8
        · obtain ⟨q, hq⟩ : ∃ q : Nat, 7 - (t : Int) = (q : Int) := ⟨7 - t, by omega⟩
          have hq' : q = 7 - t := by omega
          have q0 : (0 : Int) ≤ (q : Int) := by omega
          obtain ⟨D, hD⟩ : ∃ D : Nat, 8 * (k : Int) + (q : Int) = (D : Int) := ⟨8 * k + q, by omega⟩
          have hDk : D = 8 * k + (7 - t) := by omega
          have hD2 : D < 2048 := by omega
          have hD3 : (D : Int) < 2048 := by omega
          have D0 : (0 : Int) ≤ (D : Int) := by omega
          have cD := boRow ST.out.l hD2
          have HX := hi8_256 P k (t := t) (by omega)
          have HN : Hid (hi8 P k (t + 1) = 2 * hi8 P k t + (P D).toNat) := by show hi8 P k (t + 1) = _; rw [hDk]; rfl
          rw [hq]
          obtain ⟨X, hX⟩ : ∃ X, X = hi8 P k t := ⟨_, rfl⟩
          rw [← hX] at HX HN
          rw [← hX]
          have hq1 : Hid (7 - ((t + 1 : Nat) : Int) = (q : Int) - 1) := by show _ = _; omega
          have hqt : Hid ((q : Int) = 7 - (t : Int)) := hq.symm
          have hD7 := Lib.hid hDk
          clear hX hq hq' hDk
          cases hP : P D with
          | true =>
            rw [hP] at cD
            have hn : Hid (2 * (X : Int) + 1 = (hi8 P k (t + 1) : Int)) := by show _ = _; rw [HN.out, hP, Bool.toNat_true]; omega
            clear hP HN
            go_wp2_with fail
            go_roundw
            case rel => exact ⟨t + 1, by rw [← hn.out], by rw [hq1.out], by omega, trivial⟩
            case measure => simp [intOf]
          | false =>
            rw [hP] at cD
            have hn : Hid (2 * (X : Int) = (hi8 P k (t + 1) : Int)) := by show _ = _; rw [HN.out, hP, Bool.toNat_false]; omega
            clear hP HN
            go_wp2_with fail
            go_roundw
            case rel => exact ⟨t + 1, by rw [← hn.out], by rw [hq1.out], by omega, trivial⟩
            case measure => simp [intOf]
        · obtain rfl : t = 8 := by omega
          rw [hi8_8]
          have hB := by8_lt P k
          obtain ⟨X, hX⟩ : ∃ X, X = by8 P k := ⟨_, rfl⟩
          rw [← hX] at hB
          rw [← hX]
          have HX := Lib.hid hX
          clear hX
          have hb := ST.out.bk
          have c9 : wr.cell? ⟨w.heap.size + 1, k, none⟩ = some (.int .u8 0) := by
            have := hb.seg k hlt
            rw [Nat.zero_add] at this
            rw [this]
            unfold uB
            rw [if_neg (by omega)]
          have f9 : wr.frozen? ⟨w.heap.size + 1, k, none⟩ = false := soft_of_heap hb k
          have ho := Only.setCell wr ⟨w.heap.size + 1, k, none⟩ (.int .u8 (X : Int))
          have hl2 : Below w.heap.size w wr := ST.out.bel
          have ST2 : Hid (R4S w P b off (k + 1) (wr.setCell ⟨w.heap.size + 1, k, none⟩ (.int .u8 (X : Int)))) := by
            refine ⟨ST.out.r.only ho (by show _ ≠ w.heap.size + 1; omega), (hb.setCell k (X : Int) hlt).congr fun j hj => ?_, ?_, hl2.trans (ho.below (by show _ ≤ w.heap.size + 1; omega))⟩
            · unfold uB over
              show (if k ≤ j ∧ j < k + 1 then (X : Int) else (if j < k then bZ P j else 0)) = if j < k + 1 then bZ P j else 0
              by_cases e : j = k
              · rw [if_pos (by omega), if_pos (by omega), HX.out, e]; rfl
              · rw [if_neg (by omega)]
                by_cases e2 : j < k
                · rw [if_pos e2, if_pos (by omega)]
                · rw [if_neg e2, if_neg (by omega)]
            · rcases ST.out.l with h | ⟨b', off', e, h⟩
              · omega
              · injection e with e; injection e with e1 e2; subst e1 e2
                exact .inr ⟨b, off, rfl, fun i hi j v hj => (World.cell?_of_block (ho.block b (by show b ≠ w.heap.size + 1; omega))).trans (h i hi j v hj)⟩
          clear ho hl2 hb ST
          go_wp2_with fail
          go_roundw
          case rel => first | exact ⟨k + 1, by first | rfl | go_num, by omega, ST2.out⟩ | ((repeat apply Exists.intro); exact ⟨⟨k + 1, by first | rfl | go_num, by omega, ST2.out⟩, rfl⟩)
          case measure => simp [intOf]; omega
    · obtain rfl : k = 256 := by omega
      have hb : Blk wr (w.heap.size + 1) 32 256 (bZ P) := ST.out.bk.congr fun j hj => by unfold uB; rw [if_pos hj]
      have hr := ST.out.r
      go_wp2_with (first | (refine wp_loadBlkG rfl (.tmp 3) rfl (w.heap.size + 1) _ rfl hb ?_) | (refine wp_storeBlk rfl (.tmp 2) (.tmp 30) rfl w.heap.size (bZ P) _ rfl rfl hr ?_))
      intro w7 hR7 ho7
      go_wp2_with fail
      exact bodyPost_ret (results_blk rfl _ _ w.heap.size _ rfl hR7) rfl ⟨rfl, ST.out.bel.trans (ho7.below (Nat.le_refl _))⟩
end Go.Proofs.YtopakpmepioomaaDoor

/- quernref21.Make, the plain law: each block is what mkfs.Make makes of it. -/
namespace Go.Proofs.YtopakpmepioomaaDoor
open Go.RowKit
set_option linter.unusedVariables false

/-- a block's bits, by its kind and its group -/
def kdP (s i : Nat) (K γ : Int) : Nat → Bool := if K = 4 then mapB (2 + i / 4) s else if K = 5 then mapB (if γ = 0 then 1 else 0) i else fun _ => false
def rfB (g s i j b : Nat) (K γ O : Int) : Nat → Int :=
  if b = 0 then supZ g s i j 0 else if b = 1 then descZ g s i j g (dkB g s i j) (dkI i) dkD else if b = 2 then headZ 1 0
  else if O = 1 then over (bZ (kdP s i K γ)) 0 64 rootI.byte else bZ (kdP s i K γ)
theorem bZ_no : bZ (fun _ => false) = fun _ => 0 := funext bZ_none
theorem kdP_4 {s i : Nat} {γ : Int} : kdP s i 4 γ = mapB (2 + i / 4) s := rfl
theorem kdP_5 {s i : Nat} {γ : Int} : kdP s i 5 γ = mapB (if γ = 0 then 1 else 0) i := by unfold kdP; rw [if_neg (by decide), if_pos rfl]
theorem kdP_no {s i : Nat} {K γ : Int} (h4 : K ≠ 4) (h5 : K ≠ 5) : kdP s i K γ = fun _ => false := by unfold kdP; rw [if_neg h4, if_neg h5]
theorem thF_mk {g s i j b : Nat} (hm : mayG g s i j = true) (hb : b < 2 + j + g * s) :
    ∃ K γ A O : Int, thF s (i / 4) j b = tv K γ A O ∧ (1 ≤ K ∧ K ≤ 7) ∧ rfB g s i j b K γ O = mkB g s i j b := by
  obtain ⟨h1, h2, h3, h4, h5, h6, h7, h8, h9, h10, h11⟩ := mayN hm
  by_cases b0 : b = 0
  · subst b0
    exact ⟨1, 0, 0, 0, rfl, by omega, by rw [mkB_0 h8]; rfl⟩
  by_cases b1 : b = 1
  · subst b1
    exact ⟨2, 0, 0, 0, rfl, by omega, by rw [mkB_1 h8]; rfl⟩
  by_cases b2 : b = 2
  · subst b2
    refine ⟨3, 0, ((2 : Nat) : Int) - 2, 0, ?_, by omega, by rw [mkB_2 h8]; rfl⟩
    unfold thF; rw [if_neg (by omega), if_neg (by omega), if_pos (by omega)]
  have hrf : ∀ K γ O, rfB g s i j b K γ O = if O = 1 then over (bZ (kdP s i K γ)) 0 64 rootI.byte else bZ (kdP s i K γ) := fun K γ O => by
    unfold rfB; rw [if_neg b0, if_neg b1, if_neg b2]
  by_cases bj : b < 2 + j
  · refine ⟨3, 0, (b : Int) - 2, 0, ?_, by omega, ?_⟩
    · unfold thF; rw [if_neg b0, if_neg b1, if_pos bj]
    · rw [hrf, if_neg (by decide), kdP_no (by decide) (by decide), bZ_no, mkB_head h8 (by omega) bj]
  obtain ⟨d, hd⟩ : ∃ d, d = b - (2 + j) := ⟨_, rfl⟩
  have hdm := Nat.div_add_mod d s
  have hml := Nat.mod_lt d (show s > 0 by omega)
  have hmk : mkB g s i j b = if d = 2 then rootZ else if d % s = 0 then bZ (mapB (2 + i / 4) s) else if d % s = 1 then bZ (mapB (if d / s = 0 then 1 else 0) i) else fun _ => 0 := by
    unfold mkB mk0
    rw [← hd, if_neg b0, if_neg b1, if_neg b2, if_neg bj]
    by_cases e : d = 2
    · rw [if_pos e, if_pos (by omega)]
    · rw [if_neg e, if_neg (by omega)]
  have hth : thF s (i / 4) j b = if d % s = 0 then tv 4 (d / s : Nat) 0 0 else if d % s = 1 then tv 5 (d / s : Nat) 1 0 else
      if d % s < 2 + i / 4 then tv 6 (d / s : Nat) (d % s : Nat) (1 + (d / s : Nat) * (4 * ((i / 4 : Nat) : Int)) + 4 * ((d % s : Nat) - 2)) else tv 7 (d / s : Nat) (d % s : Nat) 0 := by
    unfold thF; rw [if_neg b0, if_neg b1, if_neg bj, ← hd]
  by_cases m0 : d % s = 0
  · refine ⟨4, (d / s : Nat), 0, 0, by rw [hth, if_pos m0], by omega, ?_⟩
    have : d ≠ 2 := fun e => by rw [e, Nat.mod_eq_of_lt (by omega)] at m0; omega
    rw [hrf, if_neg (by decide), kdP_4, hmk, if_neg this, if_pos m0]
  by_cases m1 : d % s = 1
  · refine ⟨5, (d / s : Nat), 1, 0, by rw [hth, if_neg m0, if_pos m1], by omega, ?_⟩
    have : d ≠ 2 := fun e => by rw [e, Nat.mod_eq_of_lt (by omega)] at m1; omega
    rw [hrf, if_neg (by decide), kdP_5, hmk, if_neg this, if_neg m0, if_pos m1]
    by_cases e : d / s = 0
    · rw [if_pos e, if_pos (by omega)]
    · rw [if_neg e, if_neg (by omega)]
  by_cases mi : d % s < 2 + i / 4
  · refine ⟨6, _, _, _, by rw [hth, if_neg m0, if_neg m1, if_pos mi], by omega, ?_⟩
    rw [hrf, kdP_no (by decide) (by decide), bZ_no, hmk]
    by_cases e : d = 2
    · have e1 : d / s = 0 := by rw [e, Nat.div_eq_of_lt (by omega)]
      have e2 : d % s = 2 := by rw [e, Nat.mod_eq_of_lt (by omega)]
      rw [if_pos e, if_pos (by rw [e1, e2]; simp)]; rfl
    · rw [if_neg e, if_neg m0, if_neg m1, if_neg ?_]
      intro hO
      have ht : 1 ≤ i / 4 := by omega
      by_cases e1 : d / s = 0
      · rw [e1, Nat.mul_zero] at hdm
        rw [e1] at hO
        simp at hO
        omega
      · have h1' : (1 : Int) * (4 * ((i / 4 : Nat) : Int)) ≤ ((d / s : Nat) : Int) * (4 * ((i / 4 : Nat) : Int)) := Int.mul_le_mul_of_nonneg_right (by have := Nat.one_le_iff_ne_zero.2 e1; exact_mod_cast this) (by omega)
        generalize ((d / s : Nat) : Int) * (4 * ((i / 4 : Nat) : Int)) = X at h1' hO
        omega
  · refine ⟨7, _, _, 0, by rw [hth, if_neg m0, if_neg m1, if_neg mi], by omega, ?_⟩
    have : d ≠ 2 := fun e => by rw [e, Nat.mod_eq_of_lt (by omega)] at mi; omega
    rw [hrf, if_neg (by decide), kdP_no (by decide) (by decide), bZ_no, hmk, if_neg this, if_neg m0, if_neg m1]
/-- the descriptors, the first one's numbers put -/
theorem Cs_head (f : Nat → List Value) : ∀ n, 1 ≤ n → Cs f n = f 0 ++ Cs (fun k => f (1 + k)) (n - 1) := fun n hn => by
  have := Cs_cat f 1 (n - 1)
  rw [show 1 + (n - 1) = n by omega] at this
  rw [← this]; rfl
theorem Cs_desc0 (B : Int) (i n : Nat) (hn : 1 ≤ n) : ((Cs (df (fun _ => B) (fun _ => (i : Int)) (fun _ => 0)) n).set 1 (.int .i64 ((i : Int) - 1))).set 2 (.int .i64 1) = Cs (df (fun _ => B) (dkI (i : Int)) dkD) n := by
  rw [Cs_head _ n hn, Cs_head (df (fun _ => B) (dkI (i : Int)) dkD) n hn]
  have : Cs (fun k => df (fun _ => B) (fun _ => (i : Int)) (fun _ => 0) (1 + k)) (n - 1) = Cs (fun k => df (fun _ => B) (dkI (i : Int)) dkD (1 + k)) (n - 1) := Cs_congr fun k _ => by
    unfold df dkI dkD; rw [if_neg (by omega), if_neg (by omega)]
  rw [this]
  rfl
end Go.Proofs.YtopakpmepioomaaDoor
