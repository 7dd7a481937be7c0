/- Texts of this claim, merged by a program (a claim may have 60 files): CkB, Range3, Ck3, CkW, Pth1. -/
import Derived.Test.YtnbmmhoofilmfaaGreatDoorK27
import Derived.Test.YtnbmmhoofilmfaaGreatDoorK14
import Derived.Test.YtnbmmhoofilmfaaGreatDoorK04
import Derived.Test.YtnbmmhoofilmfaaGreatDoorK19
import Derived.Test.YtnbmmhoofilmfaaGreatDoorK24
import Derived.Test.YtnbmmhoofilmfaaGreatDoorK21
import Derived.Test.YtnbmmhoofilmfaaGreatDoorK08
/- check: the rule 3. -/
namespace Go.Proofs.YtnbmmhoofilmfaaGreatDoor
open Go.RowKit
set_option linter.unusedVariables false

/-- an image of a geometry that may be -/
structure Im.Ok (x : Im) : Prop where
  byt : ∀ i, Byt (x.L i)
  may : mayG x.g x.s x.i x.j = true
  n : x.n = 2 + x.j + x.g * x.s
  o : x.o < 4294967296
theorem Im.Ok.st {x : Im} (h : x.Ok) {k d : Nat} (hk : k < x.g) (hd : d < x.s) : x.st k + d < x.n := by
  have := h.n
  have h2 : (k + 1) * x.s ≤ x.g * x.s := Nat.mul_le_mul_right _ hk
  rw [Nat.succ_mul] at h2
  unfold Im.st; omega
theorem Im.Ok.n_le {x : Im} (h : x.Ok) : x.n ≤ 2048 := by have := (mayN h.may).2.2.2.2.2.2.2.2.2.2; have := h.n; omega
abbrev XC (b off cap : Nat) (x : Im) (ds ino orp own sl un : Value) : Array Value := xcells (.slice (some ⟨b, off, none⟩) x.n cap) x.g x.s x.i x.j x.o ds ino orp own sl un
/-- exam and the image, as far as they are only read -/
structure CkC (w : World) (p : Nat) (cs : Array Value) (b off : Nat) (x : Im) (W : World) : Prop where
  a : At W p 115 cs
  i : RSeg W b off 256 x.n (bkF x.L)
  bel : Below w.heap.size w W
theorem CkC.img_lt {w : World} {p : Nat} {cs : Array Value} {b off : Nat} {x : Im} {W : World} (h : CkC w p cs b off x W) (hn : 0 < x.n) : b < W.heap.size := RSeg.lt h.i hn (by intro e; have := bkF_len x.L 0; rw [e] at this; cases this)
theorem CkC.below {w : World} {p : Nat} {cs : Array Value} {b off : Nat} {x : Im} {W W' : World} (h : CkC w p cs b off x W) (hn : 0 < x.n) (hb : Below W.heap.size W W') : CkC w p cs b off x W' :=
  ⟨h.a.below hb h.a.lt, RSeg.below h.i hb (h.img_lt hn), h.bel.trans (hb.mono h.bel.size)⟩
set_option maxRecDepth 100000 in
set_option maxHeartbeats 4000000 in
theorem ckBitmaps_any (p b off cap : Nat) (x : Im) (hx : x.Ok) (ds ino orp own sl un : Value) (w : World) (hA : At w p 115 (XC b off cap x ds ino orp own sl un)) (hI : RSeg w b off 256 x.n (bkF x.L)) :
    Calls Tryz.prog 96 #[.pointer (some ⟨p, 0, none⟩)] w fun e w' => Said (allB x.ck3 x.g) 3 e ∧ Below w.heap.size w w' := by
  have HX := Lib.hid hx
  obtain ⟨h1, h2, h3, h4, h5, h6, h7, h8, h9, h10, h11⟩ := mayN hx.may
  have hn9 := hx.n_le
  have hn0 : 0 < x.n := by have := hx.n; omega
  have ST0 : Hid (CkC w p (XC b off cap x ds ino orp own sl un) b off x w) := ⟨hA, hI, Below.refl _ _⟩
  have c6 : w.cell? ⟨p, 6, none⟩ = some (.int .i64 (x.g : Int)) := hA.cell (i := 6) rfl
  clear hA hI hx
  go_enter Tryz.func96, Tryz.ntmps96
  go_wp2_with fail
  clear c6
  go_loopw [9] (fun u wr => ∃ k : Nat, k ≤ x.g ∧ u = .int .i64 (k : Int) ∧ (∀ q, q < k → x.ck3 q = true) ∧ CkC w p (XC b off cap x ds ino orp own sl un) b off x wr) (fun u _ => x.g - (intOf u).toNat)
  case atStart => exact ⟨0, Nat.zero_le _, rfl, fun q h => by omega, ST0.out⟩
  case round =>
    clear ST0
    obtain ⟨k, hk, rfl, hP, st⟩ := hrel
    have HPP := Lib.hid hP
    clear hP
    by_cases hlt : k < x.g
    · have hlt' : (k : Int) < (x.g : Int) := by omega
      have HS := Lib.hid st
      clear st
      go_wp2_with fail
      refine (ckStart_any p x.g x.s x.i x.j k HX.out.may hlt wr (XG.of HS.out.a)).mono ?_
      rintro e w1 ⟨rfl, hb1⟩
      have st1 := HS.out.below hn0 hb1
      clear HS hb1
      have hst1 : x.st k + 1 < x.n := HX.out.st hlt (by omega)
      have HQ : Hid (2 + x.j + k * x.s = x.st k) := rfl
      rw [HQ.out]
      obtain ⟨q, hq⟩ : ∃ q, q = x.st k := ⟨_, rfl⟩
      have HQQ := Lib.hid hq
      rw [← hq] at hst1 ⊢
      clear hq HQ
      have q0 : (q : Int) < (x.n : Int) := by omega
      have q1 : ((q : Int) + 1) < (x.n : Int) := by omega
      go_wp2_with fail
      refine wp_region_bar2 (CkC w p (XC b off cap x ds ino orp own sl un) b off x) 11 (by kernel_rfl) (by kernel_rfl) (by kernel_rfl) (by kernel_rfl) (by kernel_rfl) (by decide) ⟨st1.a, st1.i, st1.bel.drew⟩ ?_
      clear st1
      simp only [List.take_succ_cons, List.take_zero, List.drop_succ_cons, List.drop_zero]
      intro hne
      have hc : ∀ y : InW (CkC w p (XC b off cap x ds ino orp own sl un) b off x), y.W.cell? ⟨p, 0, none⟩ = some (.slice (some ⟨b, off, none⟩) x.n cap) := fun y => y.h.a.cell (i := 0) rfl
      first | go_big_quiet_skip | (go_big_quiet_want; go_big_quiet_op; go_big_quiet_on)
      first | go_big_quiet_skip | (go_big_quiet_want; go_big_quiet_op; go_big_quiet_on)
      first | go_big_quiet_skip | (go_big_quiet_want; go_big_quiet_op; go_big_quiet_on)
      first | go_big_quiet_skip | (go_big_quiet_want; go_big_quiet_op; go_big_quiet_on)
      first | go_big_quiet_skip | (go_big_quiet_want; go_big_quiet_op; go_big_quiet_on)
      first | go_big_quiet_skip | (go_big_quiet_want; go_big_quiet_op; go_big_quiet_on)
      refine q_load rfl 32 (.tmp 20) rfl b (off + q * 256) rfl (bkF x.L q) _ (fun W h => RSeg.range h.i q (by omega)) Tryz.underlying32 rfl (by rw [bkF_len]; exact info_block) ?_
      refine wpQuiet_frame (by simp only [Act.put, List.setIfInBounds_toArray, List.set_cons_succ, List.set_cons_zero]; exact rfl) ?_
      first | go_big_quiet_skip | (go_big_quiet_want; go_big_quiet_op; go_big_quiet_on)
      go_big_quiet_want
      go_big_quiet_op
      refine ⟨_, fun s => q_call s (fun W hW => (ckOwn_any p x.g x.s x.i x.j h6 W (XG.of hW.a)).mono fun e w' h => ⟨h.1, h.2 ▸ hW⟩), ?_⟩
      go_big_quiet_on
      go_big_quiet_want
      go_big_quiet_op
      refine ⟨_, fun s => q_call s (fun W hW => (bitFirst_z (HX.out.byt q) 0 _ 0 (2 + x.i / 4) rfl (by omega) (by omega) W).mono fun e w' h => ⟨h.1, hW.below hn0 h.2⟩), ?_⟩
      go_big_quiet_on
      first | go_big_quiet_skip | (go_big_quiet_want; go_big_quiet_op; go_big_quiet_on)
      refine wpQuiet_nil ?_
      intro w5 h5
      have st5 := h5.out
      clear h5 hne hc
      have e1 := firstC_lt (bt (x.L q)) 0 (2 + x.i / 4)
      rw [Nat.zero_add] at e1
      obtain ⟨c1, hc1⟩ : ∃ c1, c1 = decide (firstC (bt (x.L q)) 0 (2 + x.i / 4) < 0) := ⟨_, rfl⟩
      rw [← hc1]
      rw [← hc1] at e1
      have HC1 := Lib.hid e1
      clear e1 hc1
      go_wp2_with fail
      refine (must_any 3 c1 _).mono ?_
      rintro e w6 ⟨hS, rfl⟩
      rcases hS with ⟨rfl, rfl⟩ | ⟨rfl, rfl⟩
      rotate_left
      · refine ⟨rfl, .inr ⟨allB_no hlt ?_, rfl⟩, st5.bel⟩
        have h := HC1.out
        rw [HQQ.out] at h
        unfold Im.ck3
        rw [show Im.allS (bt (x.L (x.st k))) 0 x.own = false from h.symm]; rfl
      have HS := Lib.hid st5
      clear st5
      have st5 := HS.out
      clear HS
      go_wp2_with fail
      refine wp_region_bar2 (CkC w p (XC b off cap x ds ino orp own sl un) b off x) 14 (by kernel_rfl) (by kernel_rfl) (by kernel_rfl) (by kernel_rfl) (by kernel_rfl) (by decide) ⟨st5.a, st5.i, st5.bel.drew⟩ ?_
      clear st5
      simp only [List.take_succ_cons, List.take_zero, List.drop_succ_cons, List.drop_zero]
      intro hne
      have hc : ∀ y : InW (CkC w p (XC b off cap x ds ino orp own sl un) b off x), y.W.cell? ⟨p, 0, none⟩ = some (.slice (some ⟨b, off, none⟩) x.n cap) := fun y => y.h.a.cell (i := 0) rfl
      have hc7 : ∀ y : InW (CkC w p (XC b off cap x ds ino orp own sl un) b off x), y.W.cell? ⟨p, 7, none⟩ = some (.int .i64 (x.s : Int)) := fun y => y.h.a.cell (i := 7) rfl
      first | go_big_quiet_skip | (go_big_quiet_want; go_big_quiet_op; go_big_quiet_on)
      first | go_big_quiet_skip | (go_big_quiet_want; go_big_quiet_op; go_big_quiet_on)
      first | go_big_quiet_skip | (go_big_quiet_want; go_big_quiet_op; go_big_quiet_on)
      first | go_big_quiet_skip | (go_big_quiet_want; go_big_quiet_op; go_big_quiet_on)
      first | go_big_quiet_skip | (go_big_quiet_want; go_big_quiet_op; go_big_quiet_on)
      first | go_big_quiet_skip | (go_big_quiet_want; go_big_quiet_op; go_big_quiet_on)
      refine q_load rfl 32 (.tmp 32) rfl b (off + q * 256) rfl (bkF x.L q) _ (fun W h => RSeg.range h.i q (by omega)) Tryz.underlying32 rfl (by rw [bkF_len]; exact info_block) ?_
      refine wpQuiet_frame (by simp only [Act.put, List.setIfInBounds_toArray, List.set_cons_succ, List.set_cons_zero]; exact rfl) ?_
      first | go_big_quiet_skip | (go_big_quiet_want; go_big_quiet_op; go_big_quiet_on)
      first | go_big_quiet_skip | (go_big_quiet_want; go_big_quiet_op; go_big_quiet_on)
      first | go_big_quiet_skip | (go_big_quiet_want; go_big_quiet_op; go_big_quiet_on)
      first | go_big_quiet_skip | (go_big_quiet_want; go_big_quiet_op; go_big_quiet_on)
      first | go_big_quiet_skip | (go_big_quiet_want; go_big_quiet_op; go_big_quiet_on)
      go_big_quiet_want
      go_big_quiet_op
      refine ⟨_, fun s => q_call s (fun W hW => (bitFirst_z (HX.out.byt q) _ 2048 x.s (2048 - x.s) rfl (by omega) (by omega) W).mono fun e w' h => ⟨h.1, hW.below hn0 h.2⟩), ?_⟩
      go_big_quiet_on
      first | go_big_quiet_skip | (go_big_quiet_want; go_big_quiet_op; go_big_quiet_on)
      refine wpQuiet_nil ?_
      intro w6 h6
      have st6 := h6.out
      clear h6 hne hc hc7
      have e1 := firstC_lt (bt (x.L q)) x.s (2048 - x.s)
      rw [show x.s + (2048 - x.s) = 2048 by omega] at e1
      obtain ⟨c2, hc2⟩ : ∃ c2, c2 = decide (firstC (bt (x.L q)) x.s (2048 - x.s) < 0) := ⟨_, rfl⟩
      rw [← hc2]
      rw [← hc2] at e1
      have HC2 := Lib.hid e1
      clear e1 hc2
      go_wp2_with fail
      refine (must_any 3 c2 _).mono ?_
      rintro e w7 ⟨hS, rfl⟩
      rcases hS with ⟨rfl, rfl⟩ | ⟨rfl, rfl⟩
      rotate_left
      · refine ⟨rfl, .inr ⟨allB_no hlt ?_, rfl⟩, st6.bel⟩
        have h := HC2.out
        rw [HQQ.out] at h
        unfold Im.ck3
        rw [show Im.allS (bt (x.L (x.st k))) x.s 2048 = false from h.symm, Bool.false_and, Bool.and_false]
      have HS := Lib.hid st6
      clear st6
      have st6 := HS.out
      clear HS
      go_wp2_with fail
      refine wp_region_bar2 (CkC w p (XC b off cap x ds ino orp own sl un) b off x) 15 (by kernel_rfl) (by kernel_rfl) (by kernel_rfl) (by kernel_rfl) (by kernel_rfl) (by decide) ⟨st6.a, st6.i, st6.bel.drew⟩ ?_
      clear st6
      simp only [List.take_succ_cons, List.take_zero, List.drop_succ_cons, List.drop_zero]
      intro hne
      have hc : ∀ y : InW (CkC w p (XC b off cap x ds ino orp own sl un) b off x), y.W.cell? ⟨p, 0, none⟩ = some (.slice (some ⟨b, off, none⟩) x.n cap) := fun y => y.h.a.cell (i := 0) rfl
      have hc8 : ∀ y : InW (CkC w p (XC b off cap x ds ino orp own sl un) b off x), y.W.cell? ⟨p, 8, none⟩ = some (.int .i64 (x.i : Int)) := fun y => y.h.a.cell (i := 8) rfl
      first | go_big_quiet_skip | (go_big_quiet_want; go_big_quiet_op; go_big_quiet_on)
      first | go_big_quiet_skip | (go_big_quiet_want; go_big_quiet_op; go_big_quiet_on)
      first | go_big_quiet_skip | (go_big_quiet_want; go_big_quiet_op; go_big_quiet_on)
      first | go_big_quiet_skip | (go_big_quiet_want; go_big_quiet_op; go_big_quiet_on)
      first | go_big_quiet_skip | (go_big_quiet_want; go_big_quiet_op; go_big_quiet_on)
      first | go_big_quiet_skip | (go_big_quiet_want; go_big_quiet_op; go_big_quiet_on)
      first | go_big_quiet_skip | (go_big_quiet_want; go_big_quiet_op; go_big_quiet_on)
      refine q_load rfl 32 (.tmp 48) rfl b (off + (q + 1) * 256) rfl (bkF x.L (q + 1)) _ (fun W h => RSeg.range h.i (q + 1) hst1) Tryz.underlying32 rfl (by rw [bkF_len]; exact info_block) ?_
      refine wpQuiet_frame (by simp only [Act.put, List.setIfInBounds_toArray, List.set_cons_succ, List.set_cons_zero]; exact rfl) ?_
      first | go_big_quiet_skip | (go_big_quiet_want; go_big_quiet_op; go_big_quiet_on)
      first | go_big_quiet_skip | (go_big_quiet_want; go_big_quiet_op; go_big_quiet_on)
      first | go_big_quiet_skip | (go_big_quiet_want; go_big_quiet_op; go_big_quiet_on)
      first | go_big_quiet_skip | (go_big_quiet_want; go_big_quiet_op; go_big_quiet_on)
      first | go_big_quiet_skip | (go_big_quiet_want; go_big_quiet_op; go_big_quiet_on)
      go_big_quiet_want
      go_big_quiet_op
      refine ⟨_, fun s => q_call s (fun W hW => (bitFirst_z (HX.out.byt (q + 1)) _ 2048 x.i (2048 - x.i) rfl (by omega) (by omega) W).mono fun e w' h => ⟨h.1, hW.below hn0 h.2⟩), ?_⟩
      go_big_quiet_on
      first | go_big_quiet_skip | (go_big_quiet_want; go_big_quiet_op; go_big_quiet_on)
      refine wpQuiet_nil ?_
      intro w7 h7
      have st7 := h7.out
      clear h7 hne hc hc8
      have e1 := firstC_lt (bt (x.L (q + 1))) x.i (2048 - x.i)
      rw [show x.i + (2048 - x.i) = 2048 by omega] at e1
      obtain ⟨c3, hc3⟩ : ∃ c3, c3 = decide (firstC (bt (x.L (q + 1))) x.i (2048 - x.i) < 0) := ⟨_, rfl⟩
      rw [← hc3]
      rw [← hc3] at e1
      have HC3 := Lib.hid e1
      clear e1 hc3
      go_wp2_with fail
      refine (must_any 3 c3 _).mono ?_
      rintro e w8 ⟨hS, rfl⟩
      rcases hS with ⟨rfl, rfl⟩ | ⟨rfl, rfl⟩
      rotate_left
      · refine ⟨rfl, .inr ⟨allB_no hlt ?_, rfl⟩, st7.bel⟩
        have h := HC3.out
        rw [HQQ.out] at h
        unfold Im.ck3
        rw [show Im.allS (bt (x.L (x.st k + 1))) x.i 2048 = false from h.symm, Bool.and_false, Bool.and_false]
      have HOK : Hid (x.ck3 k = true) := by
        show _ = _
        have g1 := HC1.out
        have g2 := HC2.out
        have g3 := HC3.out
        rw [HQQ.out] at g1 g2 g3
        unfold Im.ck3
        rw [show Im.allS (bt (x.L (x.st k))) 0 x.own = true from g1.symm, show Im.allS (bt (x.L (x.st k))) x.s 2048 = true from g2.symm, show Im.allS (bt (x.L (x.st k + 1))) x.i 2048 = true from g3.symm]; rfl
      clear HC1 HC2 HC3 HQQ hst1 q0 q1
      go_wp2_with fail
      go_roundw
      case rel => exact ⟨k + 1, by omega, by first | rfl | go_num, fun r hr => by
        by_cases e : r = k
        · rw [e]; exact HOK.out
        · exact HPP.out r (by omega), st7⟩
      case measure => simp [intOf]; omega
    · obtain rfl : k = x.g := by omega
      go_wp2_with fail
      refine bodyPost_end (results_none rfl _ _ _) rfl ⟨.inl ⟨(allB_iff _ _).2 HPP.out, rfl⟩, st.bel⟩
end Go.Proofs.YtnbmmhoofilmfaaGreatDoor

/- A range over a function in a plain walk, the frame of a round left to be found by the assignment. No program in sight. -/
namespace Go.Proofs.YtnbmmhoofilmfaaGreatDoor
open Go.RowKit
variable {P : Program}
theorem wp_rangeIx2 {g : Operand} {ps : Array Tmp} {asg bdy : Code} {Q : Exit → Act → World → Prop} {a : Act} {w : World} {gf : Nat} {lb : Array Value}
    (hg : a.eval g = .func (.func gf) #[] lb) (eg : ∀ args w, (callFunc gf args).run P w = .ok (.enter gf args) w)
    {encs : Nat → Array Value} {N : Nat} {Need : Nat → World → Prop} (hit : IterIx Fence.wide 4 P gf lb encs N (fun _ => False) Need) (hps : ∀ k, (encs k).size = ps.size)
    (J : Nat → World → Prop) (Jx : Code → Nat → World → Prop)
    (hJ : ∀ k, LocalP w.heap.size (J k)) (hJx : ∀ c k, LocalP w.heap.size (Jx c k)) (hN : ∀ k, LocalP w.heap.size (Need k)) (h0 : J 0 w) (hn0 : Need 0 w) (A1 : Nat → Act)
    (assign : ∀ (l k : Nat) (W : World) (K : Act → World → Prop), k < N → K (A1 k) W →
      asg.wpIn (Fence.wide.inRound l) 3 P (Exit.then K (fun _ _ _ => False)) { tmps := (ps.zip (encs k)).foldl (fun t (p, v) => t.setIfInBounds p v) a.tmps, defers := [] } W)
    (body : ∀ (l k : Nat) (W : World), k < N → J k W → Need k W → bdy.wpIn (Fence.wide.inRound l) 3 P (roundIx w.heap.size J Jx Need k W) (A1 k) W)
    (done : ∀ (D : Nat) (W : World), w.heap.size ≤ D → J N W → W.heap[D]? = some (.deferred (some [])) → Q .normal { a with defers := { target := .collected D, args := #[] } :: a.defers } W)
    (stop : ∀ (D : Nat) (c : Code) (k : Nat) (W : World), w.heap.size ≤ D → k < N → Jx c k W → W.heap[D]? = some (.deferred (some [])) → c.wp P Q { a with defers := { target := .collected D, args := #[] } :: a.defers } W) :
    (Code.rangeFunc g ps asg bdy).wp P Q a w :=
  wp_rangeIx hg eg hit hps J Jx A1 hJ hJx hN h0 hn0 assign body done stop
end Go.Proofs.YtnbmmhoofilmfaaGreatDoor

/- check, plainly: steps that may break, one by one; ways to blocks; the chain of orphans. -/
namespace Go.Proofs.YtnbmmhoofilmfaaGreatDoor
open Go.RowKit
set_option linter.unusedVariables false

theorem foldO_none {σ : Type} {f : Nat → σ → Option σ} {o a : σ} {k n : Nat} (h : foldO f k o = some a) (hf : f k a = none) (hk : k < n) : foldO f n o = none := by
  induction n with
  | zero => omega
  | succ n ih =>
    rw [foldO]
    by_cases e : k = n
    · subst e; rw [h]; exact hf
    · rw [ih (by omega)]; rfl
theorem foldO_next {σ : Type} {f : Nat → σ → Option σ} {o a b : σ} {k : Nat} (h : foldO f k o = some a) (hf : f k a = some b) : foldO f (k + 1) o = some b := by
  rw [foldO, h]; exact hf
theorem foldO_at {σ : Type} {f : Nat → σ → Option σ} {o o' : σ} {n : Nat} (h : foldO f n o = some o') {k : Nat} (hk : k < n) : ∃ a b, foldO f k o = some a ∧ f k a = some b := by
  induction n generalizing o' with
  | zero => omega
  | succ n ih =>
    rw [foldO] at h
    cases ha : foldO f n o with
    | none => rw [ha] at h; cases h
    | some a =>
      rw [ha] at h
      by_cases e : k = n
      · subst e; exact ⟨a, o', ha, h⟩
      · exact ih ha (by omega)
theorem foldO_inv {σ : Type} {P : Nat → σ → Prop} {f : Nat → σ → Option σ} {o o' : σ} {n : Nat} (h : foldO f n o = some o') (h0 : P 0 o) (hs : ∀ k a b, k < n → P k a → f k a = some b → P (k + 1) b) : P n o' := by
  induction n generalizing o' with
  | zero => injection h with h; exact h ▸ h0
  | succ n ih =>
    rw [foldO] at h
    cases ha : foldO f n o with
    | none => rw [ha] at h; cases h
    | some a => rw [ha] at h; exact hs n a o' (by omega) (ih ha fun k a b hk => hs k a b (by omega)) h
theorem cntB_le (p : Nat → Bool) (n : Nat) : cntB p n ≤ n := by
  induction n with
  | zero => exact Nat.le_refl _
  | succ n ih => rw [cntB]; split <;> omega
theorem cntB_set {p : Nat → Bool} {n k : Nat} (hk : k < n) (h : p k = false) : cntB (updN p k true) n = cntB p n + 1 := by
  induction n with
  | zero => omega
  | succ n ih =>
    rw [cntB, cntB]
    by_cases e : k = n
    · subst e
      rw [cntB_congr (q := p) fun i hi => by unfold updN; rw [if_neg (by omega)]]
      have : updN p k true k = true := by unfold updN; rw [if_pos rfl]
      rw [this, h, if_pos rfl, if_neg (by decide)]
    · have : updN p k true n = p n := by unfold updN; rw [if_neg (by omega)]
      rw [ih (by omega), this]; omega
namespace Im
variable {x : Im}
/-- a pointer of that level may be followed -/
def okW (x : Im) : Nat → Nat → Prop
  | 0, p => p = 0 ∨ x.data p = true
  | l + 1, p => p = 0 ∨ (x.data p = true ∧ ∀ k, k < 64 → okW x l (x.wrd p k))
theorem okW.lt {l p : Nat} (h : x.okW l p) (h0 : p ≠ 0) : p < x.n := by
  have hd : x.data p = true := by
    cases l with
    | zero => exact h.resolve_left h0
    | succ l => exact (h.resolve_left h0).1
  unfold data at hd
  rw [Bool.and_eq_true, Bool.and_eq_true, decide_eq_true_eq, decide_eq_true_eq] at hd
  exact hd.2.1
theorem ptrF_ok (t : Nat) : ∀ (l p first en : Nat) (o o' : Nat → Nat), x.ptrF t l p first en o = some o' → x.okW l p
  | 0, p, first, en, o, o', h => by
    rw [ptrF] at h
    by_cases h0 : p = 0
    · exact .inl h0
    rw [if_neg h0] at h
    by_cases hc : first < min en 65536 ∧ x.data p = true ∧ o p = 0
    · exact .inr hc.2.1
    · rw [if_neg hc] at h; cases h
  | l + 1, p, first, en, o, o', h => by
    rw [ptrF] at h
    by_cases h0 : p = 0
    · exact .inl h0
    rw [if_neg h0] at h
    by_cases hc : first < min en 65536 ∧ x.data p = true ∧ o p = 0
    · rw [if_pos hc] at h
      refine .inr ⟨hc.2.1, fun k hk => ?_⟩
      obtain ⟨a, b, _, hb⟩ := foldO_at h hk
      exact ptrF_ok t l _ _ _ a b hb
    · rw [if_neg hc] at h; cases h
/-- each pointer of an inode that is in use may be followed -/
def Tree (x : Im) (t : Nat) : Prop := ∀ q, q < 11 → x.okW (lvl q) ((x.ino t).p q).toNat
theorem trees_ok {m : Nat → Bool} {o : Nat → Nat} (h : x.trees m = some o) {t : Nat} (h1 : 1 ≤ t) (h2 : t ≤ x.ni) (hk : (x.ino t).kind ≠ 0) : x.Tree t := by
  obtain ⟨a, b, _, hb⟩ := foldO_at h (k := t - 1) (by omega)
  rw [show t - 1 + 1 = t by omega] at hb
  unfold treeF at hb
  rw [if_neg hk] at hb
  intro q hq
  obtain ⟨a', b', _, hb'⟩ := foldO_at hb hq
  exact ptrF_ok t _ _ _ _ _ _ hb'
/-- a way from a pointer down, k words on -/
theorem way_ok {l p : Nat} (h : x.okW l p) : ∀ (ws : List Nat), ws.length ≤ l → (∀ k, k ∈ ws → k < 64) → x.okW (l - ws.length) (ws.foldl x.step p) := by
  intro ws
  induction ws generalizing l p with
  | nil => intro _ _; exact h
  | cons k ws ih =>
    intro hl hk
    rw [List.length_cons] at hl ⊢
    obtain ⟨l, rfl⟩ : ∃ l', l = l' + 1 := ⟨l - 1, by omega⟩
    rw [show l + 1 - (ws.length + 1) = l - ws.length by omega, List.foldl_cons]
    refine ih ?_ (by omega) fun k' hk' => hk k' (List.mem_cons_of_mem _ hk')
    unfold step
    split
    · cases l with
      | zero => exact .inl rfl
      | succ l => exact .inl rfl
    · rename_i h0
      exact (h.resolve_left h0).2 k (hk k (List.mem_cons_self ..))
theorem wayP_lt (i : Nat) : wayP i < 11 := by unfold wayP; split <;> (try split) <;> (try split) <;> omega
theorem wayB_len (i : Nat) : (wayB i).length = lvl (wayP i) := by
  unfold wayB wayP lvl
  by_cases h1 : i < 8
  · rw [if_pos h1, if_pos h1, if_pos h1]; rfl
  rw [if_neg h1, if_neg h1]
  by_cases h2 : i < 72
  · rw [if_pos h2, if_pos h2]; rfl
  rw [if_neg h2, if_neg h2]
  by_cases h3 : i < 4168
  · rw [if_pos h3, if_pos h3]; rfl
  · rw [if_neg h3, if_neg h3]; rfl
theorem wayB_lt {i : Nat} (hi : i < 65536) : ∀ k, k ∈ wayB i → k < 64 := by
  intro k hk
  unfold wayB at hk
  split at hk
  · cases hk
  split at hk
  · simp only [List.mem_singleton] at hk; omega
  split at hk
  · simp only [List.mem_cons, List.not_mem_nil, or_false] at hk; omega
  · simp only [List.mem_cons, List.not_mem_nil, or_false] at hk; omega
theorem blk_lt {t i : Nat} (h : x.Tree t) (hi : i < 65536) (h0 : x.blk t i ≠ 0) : x.blk t i < x.n := by
  have := way_ok (h (wayP i) (wayP_lt i)) (wayB i) (Nat.le_of_eq (wayB_len i)) (wayB_lt hi)
  exact okW.lt this h0
/-- the chain of orphans, step by step -/
theorem orpF_step {f t : Nat} {m : Nat → Bool} (h0 : t ≠ 0) (h1 : t ≤ x.ni) (h2 : m t = false) (h3 : (x.ino t).kind = 1) : x.orpF (f + 1) t m = x.orpF f (x.ino t).next.toNat (updN m t true) := by
  rw [orpF, if_neg h0, if_pos ⟨h1, h2, h3⟩]
theorem orpF_no {f t : Nat} {m : Nat → Bool} (h0 : t ≠ 0) (h : ¬ (t ≤ x.ni ∧ m t = false ∧ (x.ino t).kind = 1)) : x.orpF (f + 1) t m = none := by
  rw [orpF, if_neg h0, if_neg h]
end Im
end Go.Proofs.YtnbmmhoofilmfaaGreatDoor

/- check, plainly: what geo.What tells of an image's block. -/
namespace Go.Proofs.YtnbmmhoofilmfaaGreatDoor
open Go.RowKit
set_option linter.unusedVariables false

theorem pcells_eq {K A F S P K' A' F' S' P' : Int} (h : pcells K A F S P = pcells K' A' F' S' P') : K = K' ∧ A = A' ∧ F = F' ∧ S = S' ∧ P = P' := by
  simp only [pcells] at h
  simp only [Array.mk.injEq] at h
  simp only [List.cons.injEq, Value.int.injEq, true_and, and_true] at h
  exact h
theorem what_cases {x : Im} (hx : x.Ok) {v : Nat} (hv : v < x.n) {K A B : Int} (h : WhatIs x.g x.s x.i x.j v K A B) :
    (v < 2 + x.j ∧ 1 ≤ K ∧ K ≤ 3) ∨ ∃ γ r : Nat, γ < x.g ∧ r < x.s ∧ v = x.st γ + r ∧ A = (γ : Int) ∧ B = (r : Int) ∧ K = if r = 0 then 4 else if r = 1 then 5 else if r < x.own then 6 else 7 := by
  obtain ⟨h1, h2, h3, h4, h5, h6, h7, h8, h9, h10, h11⟩ := mayN hx.may
  have hn := hx.n
  have e : ((x.g * x.s : Nat) : Int) = (x.g : Int) * (x.s : Int) := Int.natCast_mul _ _
  rcases h with ⟨h, _⟩ | ⟨_, k, Sz, Pl, hk, hp, hlo, hhi, hB⟩
  · exfalso
    have hnb : nBl x.g x.s x.i x.j = 2 + x.j + x.g * x.s := by unfold nBl; rw [hx.may]; rfl
    rw [hnb, ← e, hx.may] at h
    rcases h with h | h | h
    · cases h
    · omega
    · omega
  by_cases h0 : k = 0
  · subst h0
    have e1 : frF x.s ((x.i : Int) / 4) x.j 1 = 1 := rfl
    rw [Nat.zero_add, e1] at hhi
    obtain ⟨rfl, _⟩ := pcells_eq (hp.symm.trans (show ptF x.s ((x.i : Int) / 4) x.j 0 = pcells 1 0 0 1 0 from rfl))
    exact .inl ⟨by omega, by decide, by decide⟩
  by_cases h0 : k = 1
  · subst h0
    have e1 : frF x.s ((x.i : Int) / 4) x.j (1 + 1) = 2 := rfl
    rw [e1] at hhi
    obtain ⟨rfl, _⟩ := pcells_eq (hp.symm.trans (show ptF x.s ((x.i : Int) / 4) x.j 1 = pcells 2 0 1 1 0 from rfl))
    exact .inl ⟨by omega, by decide, by decide⟩
  by_cases h0 : k = 2
  · subst h0
    have e1 : frF x.s ((x.i : Int) / 4) x.j (2 + 1) = 2 + x.j := by have := frF_end x.s ((x.i : Int) / 4) x.j 0; simpa using this
    rw [e1] at hhi
    obtain ⟨rfl, _⟩ := pcells_eq (hp.symm.trans (show ptF x.s ((x.i : Int) / 4) x.j 2 = pcells 3 0 2 x.j 0 from rfl))
    exact .inl ⟨by omega, by decide, by decide⟩
  obtain ⟨γ, m, hm4, rfl⟩ : ∃ γ m, m < 4 ∧ k = 3 + 4 * γ + m := ⟨(k - 3) / 4, (k - 3) % 4, by omega, by omega⟩
  have hγ : γ < x.g := by omega
  have eg : ((γ * x.s : Nat) : Int) = (γ : Int) * (x.s : Int) := Int.natCast_mul _ _
  have ei : (x.i : Int) / 4 = ((x.i / 4 : Nat) : Int) := by omega
  have hnx : frF x.s ((x.i : Int) / 4) x.j (3 + 4 * γ + m + 1) = 2 + x.j + (γ : Int) * x.s + (if m = 0 then 1 else if m = 1 then 2 else if m = 2 then 2 + (x.i : Int) / 4 else x.s) := by
    by_cases e3 : m = 3
    · subst e3
      have := frF_end x.s ((x.i : Int) / 4) x.j (γ + 1)
      rw [show 3 + 4 * (γ + 1) = 3 + 4 * γ + 3 + 1 by omega] at this
      rw [this, if_neg (by decide), if_neg (by decide), if_neg (by decide)]
      push_cast
      rw [Int.add_mul, Int.one_mul]; omega
    · rw [show 3 + 4 * γ + m + 1 = 3 + 4 * γ + (m + 1) by omega, frF_at _ _ _ _ (show m + 1 < 4 by omega)]
      obtain rfl | rfl | rfl : m = 0 ∨ m = 1 ∨ m = 2 := by omega
      · rfl
      · rfl
      · rfl
  rw [hnx, ← eg] at hhi
  rw [frF_at _ _ _ _ hm4] at hlo hB hp
  rw [← eg] at hlo hB
  rw [ptF_at _ _ _ _ hm4] at hp
  refine .inr ⟨γ, v - x.st γ, hγ, ?_, ?_, ?_, ?_, ?_⟩
  · unfold Im.st
    obtain rfl | rfl | rfl | rfl : m = 0 ∨ m = 1 ∨ m = 2 ∨ m = 3 := by omega
    all_goals simp at hhi hlo; omega
  · unfold Im.st
    obtain rfl | rfl | rfl | rfl : m = 0 ∨ m = 1 ∨ m = 2 ∨ m = 3 := by omega
    all_goals simp at hhi hlo; omega
  · obtain rfl | rfl | rfl | rfl : m = 0 ∨ m = 1 ∨ m = 2 ∨ m = 3 := by omega
    · rw [if_pos rfl] at hp; exact (pcells_eq hp).2.1.symm
    · rw [if_neg (by decide), if_pos rfl] at hp; exact (pcells_eq hp).2.1.symm
    · rw [if_neg (by decide), if_neg (by decide), if_pos rfl] at hp; exact (pcells_eq hp).2.1.symm
    · rw [if_neg (by decide), if_neg (by decide), if_neg (by decide)] at hp; exact (pcells_eq hp).2.1.symm
  · unfold Im.st
    obtain rfl | rfl | rfl | rfl : m = 0 ∨ m = 1 ∨ m = 2 ∨ m = 3 := by omega
    · rw [if_pos rfl] at hp; have := (pcells_eq hp).2.2.2.2; simp at hhi hlo hB; omega
    · rw [if_neg (by decide), if_pos rfl] at hp; have := (pcells_eq hp).2.2.2.2; simp at hhi hlo hB; omega
    · rw [if_neg (by decide), if_neg (by decide), if_pos rfl] at hp; have := (pcells_eq hp).2.2.2.2; simp at hhi hlo hB; omega
    · rw [if_neg (by decide), if_neg (by decide), if_neg (by decide)] at hp; have := (pcells_eq hp).2.2.2.2; simp at hhi hlo hB; omega
  · unfold Im.st Im.own
    obtain rfl | rfl | rfl | rfl : m = 0 ∨ m = 1 ∨ m = 2 ∨ m = 3 := by omega
    · rw [if_pos rfl] at hp; have := (pcells_eq hp).1; simp at hhi hlo
      rw [if_pos (by omega)]; exact this.symm
    · rw [if_neg (by decide), if_pos rfl] at hp; have := (pcells_eq hp).1; simp at hhi hlo
      rw [if_neg (by omega), if_pos (by omega)]; exact this.symm
    · rw [if_neg (by decide), if_neg (by decide), if_pos rfl] at hp; have := (pcells_eq hp).1; simp at hhi hlo
      rw [if_neg (by omega), if_neg (by omega), if_pos (by omega)]; exact this.symm
    · rw [if_neg (by decide), if_neg (by decide), if_neg (by decide)] at hp; have := (pcells_eq hp).1; simp at hhi hlo
      rw [if_neg (by omega), if_neg (by omega), if_neg (by omega)]; exact this.symm
theorem st_div {x : Im} {γ r : Nat} (hr : r < x.s) : (x.st γ + r - (2 + x.j)) % x.s = r ∧ (x.st γ + r - (2 + x.j)) / x.s = γ := by
  unfold Im.st
  rw [show 2 + x.j + γ * x.s + r - (2 + x.j) = r + x.s * γ by rw [Nat.mul_comm]; omega]
  exact ⟨by rw [Nat.add_mul_mod_self_left, Nat.mod_eq_of_lt hr], by rw [Nat.add_mul_div_left _ _ (by omega), Nat.div_eq_of_lt hr, Nat.zero_add]⟩
theorem data_st {x : Im} (hx : x.Ok) {γ r : Nat} (hγ : γ < x.g) (hr : r < x.s) : x.data (x.st γ + r) = decide (x.own ≤ r) := by
  have h1 := hx.st hγ hr
  unfold Im.data
  rw [(st_div hr).1]
  have : 2 + x.j ≤ x.st γ + r := by unfold Im.st; omega
  simp [this, h1]
theorem what_data {x : Im} (hx : x.Ok) {v : Nat} (hv : v < x.n) {K A B : Int} (h : WhatIs x.g x.s x.i x.j v K A B) : (K == 7) = x.data v := by
  rcases what_cases hx hv h with ⟨h1, h2, h3⟩ | ⟨γ, r, hγ, hr, rfl, _, _, hK⟩
  · unfold Im.data
    have : ¬ 2 + x.j ≤ v := by omega
    simp [this]; omega
  · rw [data_st hx hγ hr, hK]
    unfold Im.own
    by_cases h0 : r = 0
    · subst h0; simp
    by_cases h1 : r = 1
    · subst h1; simp; omega
    by_cases h2 : r < 2 + x.i / 4
    · rw [if_neg h0, if_neg h1, if_pos h2]; simp; omega
    · rw [if_neg h0, if_neg h1, if_neg h2]; simp; omega
end Go.Proofs.YtnbmmhoofilmfaaGreatDoor

/- paths.First. -/
namespace Go.Proofs.YtnbmmhoofilmfaaGreatDoor
open Go.RowKit
set_option linter.unusedVariables false
attribute [local go_sem] Oper.semAt_some

theorem pthPointers_any (w : World) : Calls Tryz.prog 175 #[] w fun e w' => e = .returned (.func (.func 199) #[] #[]) ∧ w = w' := by
  have hmf : ∀ (fn : Fn) (first cap : Array Value) (w : World), (Instr.makeFunc fn first cap).run Tryz.prog w = .ok (.func fn first cap) w := fun _ _ _ _ => rfl
  go_enter Tryz.func175, Tryz.ntmps175
  go_wp2_with fail
  go_ret
  exact ⟨rfl, rfl⟩
theorem fst_fstX {q : Nat} (hq : q ≤ 10) : Im.fst q = fstX q := by
  unfold Im.fst fstX
  by_cases h1 : q < 9
  · rw [if_pos h1, if_pos h1]
  · rw [if_neg h1, if_neg h1]
    by_cases h2 : q = 9
    · rw [if_pos h2, if_pos h2]
    · rw [if_neg h2, if_neg h2, if_pos (by omega)]
structure FrS (w : World) (q r : Int) (W : World) : Prop where
  q : At W w.heap.size 3 #[.int .i64 q]
  r : At W (w.heap.size + 1) 3 #[.int .i64 r]
  bel : Below w.heap.size w W
theorem FrS.loc {w : World} {q r : Int} {B : Nat} (hB : w.heap.size + 1 < B) : LocalP B (FrS w q r) := fun A C h hg =>
  ⟨LocalP.heap _ (by omega) A C h.q hg, LocalP.heap _ hB A C h.r hg, LocalP.below w (by omega) (Nat.le_refl _) A C h.bel hg⟩
set_option maxRecDepth 100000 in
set_option maxHeartbeats 4000000 in
theorem pthFirst_any (q : Nat) (hq : q ≤ 10) (w : World) : Calls Tryz.prog 166 #[.int .i64 (q : Int)] w fun e w' => e = .returned (.int .i64 ((Im.fst q : Nat) : Int)) ∧ Below w.heap.size w w' := by
  refine (callsIn_wide (n := 5)).1 (callsIn_of_wp_marks Tryz.func166 rfl trivial ?_ rfl)
  refine wpIn_wide.2 ?_
  simp only [Tryz.ntmps166, List.size_toArray, List.length_cons, List.length_nil, Nat.reduceAdd, Nat.reduceSub, Array.replicate_succ, Array.replicate_zero, List.push_toArray, List.append_toArray, List.nil_append, List.cons_append]
  have st0 : FrS w (q : Int) 0 ((w.alloc (.cells #[.int .i64 (q : Int)] 3)).alloc (.cells #[.int .i64 0] 3)) := by
    refine ⟨(At.new w _ _).alloc _, ?_, ((Below.refl _ _).alloc (Nat.le_refl _) _).alloc (by simp) _⟩
    have := At.new (w.alloc (.cells #[.int .i64 (q : Int)] 3)) 3 #[.int .i64 0]
    rwa [World.size_alloc] at this
  have HFX : Hid (Im.fst q = fstX q) := fst_fstX hq
  have ST0 := Lib.hid st0
  clear st0
  go_wp2_with fail
  refine (pthPointers_any _).mono ?_
  rintro e w1 ⟨rfl, rfl⟩
  go_wp2_with fail
  apply wp_rangeIx2 (gf := 199) (lb := #[]) rfl (enters_of Tryz.func199 (by kernel_rfl) rfl)
    (pointers_iter 4 (by decide)) (fun k => rfl)
    (fun k W => k ≤ q ∧ FrS w (q : Int) 0 W) (fun c k W => c = .ret ∧ FrS w (q : Int) ((fstX q : Nat) : Int) W)
    (fun k => (LocalP.pure _ _).and (FrS.loc (by simp)))
    (fun c k => (LocalP.pure _ _).and (FrS.loc (by simp)))
    (fun k => LocalP.pure _ True)
    ⟨Nat.zero_le _, ST0.out⟩ trivial
  case assign =>
    intro l k W K hk hK
    dsimp only [ptEnc]
    gi_wp2
    exact hK
  case body =>
    rintro l k W hk ⟨hkq, st⟩ _
    have c0 : W.cell? ⟨w.heap.size, 0, none⟩ = some (.int .i64 (q : Int)) := st.q.cell (i := 0) rfl
    have c1 : W.cell? ⟨w.heap.size + 1, 0, none⟩ = some (.int .i64 0) := st.r.cell (i := 0) rfl
    have f1 : W.frozen? ⟨w.heap.size + 1, 0, none⟩ = false := soft_of_heap st.r 0
    by_cases he : k = q
    · subst he
      have q1 : ((k : Int) == (k : Int)) = true := by simp
      have ho := Only.setCell W ⟨w.heap.size + 1, 0, none⟩ (.int .i64 ((fstX k : Nat) : Int))
      have HF : Hid (KeepsFrom ((w.alloc (.cells #[.int .i64 (k : Int)] 3)).alloc (.cells #[.int .i64 0] 3)).heap.size W (W.setCell ⟨w.heap.size + 1, 0, none⟩ (.int .i64 ((fstX k : Nat) : Int))) ∧ FrS w (k : Int) ((fstX k : Nat) : Int) (W.setCell ⟨w.heap.size + 1, 0, none⟩ (.int .i64 ((fstX k : Nat) : Int)))) :=
        ⟨ho.keeps c1, st.q.only ho (by simp), heap_setCell_at st.r 0 _, st.bel.trans (ho.below (by simp))⟩
      clear st ho
      gi_wp2
      exact ⟨HF.out.1, rfl, HF.out.2⟩
    · have q1 : ((k : Int) == (q : Int)) = false := by simp; omega
      have ST := Lib.hid st
      have hk1 : k + 1 ≤ q := by omega
      clear st he
      gi_wp2
      exact ⟨KeepsFrom.refl _ _, ⟨hk1, ST.out⟩, trivial⟩
  case done =>
    rintro D W hD ⟨h, _⟩ _
    omega
  case stop =>
    rintro D c k W hD hk ⟨rfl, st⟩ hK
    have hr := st.r.cell (i := 0) (v := .int .i64 ((fstX q : Nat) : Int)) rfl
    have hb := st.bel
    have hDw : w.heap.size ≤ D := by simp at hD; omega
    have hr2 := cell_putObj (D := D) (o' := .deferred none) hK rfl hr
    go_wp2_with fail
    refine bodyPostM_done (v := .int .i64 ((fstX q : Nat) : Int)) (D := D) hK ?_ ⟨by rw [HFX.out], below_putObj hb _ (Nat.le_refl _) hDw⟩
    simp [results, Tryz.f166, go_sem, hr2]
end Go.Proofs.YtnbmmhoofilmfaaGreatDoor
