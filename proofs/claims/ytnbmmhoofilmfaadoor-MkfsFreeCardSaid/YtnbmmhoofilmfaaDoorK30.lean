/- Texts of this claim, merged by a program (a claim may have 60 files): CkB, CkW. -/
import Derived.Test.YtnbmmhoofilmfaaDoorK29
import Derived.Test.YtnbmmhoofilmfaaDoorK23
import Derived.Test.YtnbmmhoofilmfaaDoorK27
import Derived.Test.YtnbmmhoofilmfaaDoorK20
/- check: the rule 3. -/
namespace Go.Proofs.YtnbmmhoofilmfaaDoor
open Go.RowKit
set_option linter.unusedVariables false

/-- an image of a geometry that may be -/
structure Im.Ok (x : Im) : Prop where
  byt : ∀ i, Byt (x.L i)
  may : mayG x.g x.s x.i x.j = true
  n : x.n = 2 + x.j + x.g * x.s
  o : x.o < 4294967296
theorem Im.Ok.st {x : Im} (h : x.Ok) {k d : Nat} (hk : k < x.g) (hd : d < x.s) : x.st k + d < x.n := by
  have := h.n
  have h2 : (k + 1) * x.s ≤ x.g * x.s := Nat.mul_le_mul_right _ hk
  rw [Nat.succ_mul] at h2
  unfold Im.st; omega
theorem Im.Ok.n_le {x : Im} (h : x.Ok) : x.n ≤ 2048 := by have := (mayN h.may).2.2.2.2.2.2.2.2.2.2; have := h.n; omega
abbrev XC (b off cap : Nat) (x : Im) (ds ino orp own sl un : Value) : Array Value := xcells (.slice (some ⟨b, off, none⟩) x.n cap) x.g x.s x.i x.j x.o ds ino orp own sl un
/-- exam and the image, as far as they are only read -/
structure CkC (w : World) (p : Nat) (cs : Array Value) (b off : Nat) (x : Im) (W : World) : Prop where
  a : At W p 136 cs
  i : RSeg W b off 256 x.n (bkF x.L)
  bel : Below w.heap.size w W
theorem CkC.img_lt {w : World} {p : Nat} {cs : Array Value} {b off : Nat} {x : Im} {W : World} (h : CkC w p cs b off x W) (hn : 0 < x.n) : b < W.heap.size := RSeg.lt h.i hn (by intro e; have := bkF_len x.L 0; rw [e] at this; cases this)
theorem CkC.below {w : World} {p : Nat} {cs : Array Value} {b off : Nat} {x : Im} {W W' : World} (h : CkC w p cs b off x W) (hn : 0 < x.n) (hb : Below W.heap.size W W') : CkC w p cs b off x W' :=
  ⟨h.a.below hb h.a.lt, RSeg.below h.i hb (h.img_lt hn), h.bel.trans (hb.mono h.bel.size)⟩
set_option maxRecDepth 100000 in
set_option maxHeartbeats 4000000 in
theorem ckBitmaps_any (p b off cap : Nat) (x : Im) (hx : x.Ok) (ds ino orp own sl un : Value) (w : World) (hA : At w p 136 (XC b off cap x ds ino orp own sl un)) (hI : RSeg w b off 256 x.n (bkF x.L)) :
    Calls Tryd.prog 111 #[.pointer (some ⟨p, 0, none⟩)] w fun e w' => Said (allB x.ck3 x.g) 3 e ∧ Below w.heap.size w w' := by
  have HX := Lib.hid hx
  obtain ⟨h1, h2, h3, h4, h5, h6, h7, h8, h9, h10, h11⟩ := mayN hx.may
  have hn9 := hx.n_le
  have hn0 : 0 < x.n := by have := hx.n; omega
  have ST0 : Hid (CkC w p (XC b off cap x ds ino orp own sl un) b off x w) := ⟨hA, hI, Below.refl _ _⟩
  have c6 : w.cell? ⟨p, 6, none⟩ = some (.int .i64 (x.g : Int)) := hA.cell (i := 6) rfl
  clear hA hI hx
  go_enter Tryd.func111, Tryd.ntmps111
  go_wp2_with fail
  clear c6
  go_loopw [9] (fun u wr => ∃ k : Nat, k ≤ x.g ∧ u = .int .i64 (k : Int) ∧ (∀ q, q < k → x.ck3 q = true) ∧ CkC w p (XC b off cap x ds ino orp own sl un) b off x wr) (fun u _ => x.g - (intOf u).toNat)
  case atStart => exact ⟨0, Nat.zero_le _, rfl, fun q h => by omega, ST0.out⟩
  case round =>
    clear ST0
    obtain ⟨k, hk, rfl, hP, st⟩ := hrel
    have HPP := Lib.hid hP
    clear hP
    by_cases hlt : k < x.g
    · have hlt' : (k : Int) < (x.g : Int) := by omega
      have HS := Lib.hid st
      clear st
      go_wp2_with fail
      refine (ckStart_any p x.g x.s x.i x.j k HX.out.may hlt wr (XG.of HS.out.a)).mono ?_
      rintro e w1 ⟨rfl, hb1⟩
      have st1 := HS.out.below hn0 hb1
      clear HS hb1
      have hst1 : x.st k + 1 < x.n := HX.out.st hlt (by omega)
      have HQ : Hid (2 + x.j + k * x.s = x.st k) := rfl
      rw [HQ.out]
      obtain ⟨q, hq⟩ : ∃ q, q = x.st k := ⟨_, rfl⟩
      have HQQ := Lib.hid hq
      rw [← hq] at hst1 ⊢
      clear hq HQ
      have q0 : (q : Int) < (x.n : Int) := by omega
      have q1 : ((q : Int) + 1) < (x.n : Int) := by omega
      go_wp2_with fail
      refine wp_region_bar2 (CkC w p (XC b off cap x ds ino orp own sl un) b off x) 11 (by kernel_rfl) (by kernel_rfl) (by kernel_rfl) (by kernel_rfl) (by kernel_rfl) (by decide) ⟨st1.a, st1.i, st1.bel.drew⟩ ?_
      clear st1
      simp only [List.take_succ_cons, List.take_zero, List.drop_succ_cons, List.drop_zero]
      intro hne
      have hc : ∀ y : InW (CkC w p (XC b off cap x ds ino orp own sl un) b off x), y.W.cell? ⟨p, 0, none⟩ = some (.slice (some ⟨b, off, none⟩) x.n cap) := fun y => y.h.a.cell (i := 0) rfl
      first | go_big_quiet_skip | (go_big_quiet_want; go_big_quiet_op; go_big_quiet_on)
      first | go_big_quiet_skip | (go_big_quiet_want; go_big_quiet_op; go_big_quiet_on)
      first | go_big_quiet_skip | (go_big_quiet_want; go_big_quiet_op; go_big_quiet_on)
      first | go_big_quiet_skip | (go_big_quiet_want; go_big_quiet_op; go_big_quiet_on)
      first | go_big_quiet_skip | (go_big_quiet_want; go_big_quiet_op; go_big_quiet_on)
      first | go_big_quiet_skip | (go_big_quiet_want; go_big_quiet_op; go_big_quiet_on)
      refine q_load rfl 32 (.tmp 20) rfl b (off + q * 256) rfl (bkF x.L q) _ (fun W h => RSeg.range h.i q (by omega)) Tryd.underlying32 rfl (by rw [bkF_len]; exact info_block) ?_
      refine wpQuiet_frame (by simp only [Act.put, List.setIfInBounds_toArray, List.set_cons_succ, List.set_cons_zero]; exact rfl) ?_
      first | go_big_quiet_skip | (go_big_quiet_want; go_big_quiet_op; go_big_quiet_on)
      go_big_quiet_want
      go_big_quiet_op
      refine ⟨_, fun s => q_call s (fun W hW => (ckOwn_any p x.g x.s x.i x.j h6 W (XG.of hW.a)).mono fun e w' h => ⟨h.1, h.2 ▸ hW⟩), ?_⟩
      go_big_quiet_on
      go_big_quiet_want
      go_big_quiet_op
      refine ⟨_, fun s => q_call s (fun W hW => (bitFirst_z (HX.out.byt q) 0 _ 0 (2 + x.i / 4) rfl (by omega) (by omega) W).mono fun e w' h => ⟨h.1, hW.below hn0 h.2⟩), ?_⟩
      go_big_quiet_on
      first | go_big_quiet_skip | (go_big_quiet_want; go_big_quiet_op; go_big_quiet_on)
      refine wpQuiet_nil ?_
      intro w5 h5
      have st5 := h5.out
      clear h5 hne hc
      have e1 := firstC_lt (bt (x.L q)) 0 (2 + x.i / 4)
      rw [Nat.zero_add] at e1
      obtain ⟨c1, hc1⟩ : ∃ c1, c1 = decide (firstC (bt (x.L q)) 0 (2 + x.i / 4) < 0) := ⟨_, rfl⟩
      rw [← hc1]
      rw [← hc1] at e1
      have HC1 := Lib.hid e1
      clear e1 hc1
      go_wp2_with fail
      refine (must_any 3 c1 _).mono ?_
      rintro e w6 ⟨hS, rfl⟩
      rcases hS with ⟨rfl, rfl⟩ | ⟨rfl, rfl⟩
      rotate_left
      · refine ⟨rfl, .inr ⟨allB_no hlt ?_, rfl⟩, st5.bel⟩
        have h := HC1.out
        rw [HQQ.out] at h
        unfold Im.ck3
        rw [show Im.allS (bt (x.L (x.st k))) 0 x.own = false from h.symm]; rfl
      have HS := Lib.hid st5
      clear st5
      have st5 := HS.out
      clear HS
      go_wp2_with fail
      refine wp_region_bar2 (CkC w p (XC b off cap x ds ino orp own sl un) b off x) 14 (by kernel_rfl) (by kernel_rfl) (by kernel_rfl) (by kernel_rfl) (by kernel_rfl) (by decide) ⟨st5.a, st5.i, st5.bel.drew⟩ ?_
      clear st5
      simp only [List.take_succ_cons, List.take_zero, List.drop_succ_cons, List.drop_zero]
      intro hne
      have hc : ∀ y : InW (CkC w p (XC b off cap x ds ino orp own sl un) b off x), y.W.cell? ⟨p, 0, none⟩ = some (.slice (some ⟨b, off, none⟩) x.n cap) := fun y => y.h.a.cell (i := 0) rfl
      have hc7 : ∀ y : InW (CkC w p (XC b off cap x ds ino orp own sl un) b off x), y.W.cell? ⟨p, 7, none⟩ = some (.int .i64 (x.s : Int)) := fun y => y.h.a.cell (i := 7) rfl
      first | go_big_quiet_skip | (go_big_quiet_want; go_big_quiet_op; go_big_quiet_on)
      first | go_big_quiet_skip | (go_big_quiet_want; go_big_quiet_op; go_big_quiet_on)
      first | go_big_quiet_skip | (go_big_quiet_want; go_big_quiet_op; go_big_quiet_on)
      first | go_big_quiet_skip | (go_big_quiet_want; go_big_quiet_op; go_big_quiet_on)
      first | go_big_quiet_skip | (go_big_quiet_want; go_big_quiet_op; go_big_quiet_on)
      first | go_big_quiet_skip | (go_big_quiet_want; go_big_quiet_op; go_big_quiet_on)
      refine q_load rfl 32 (.tmp 32) rfl b (off + q * 256) rfl (bkF x.L q) _ (fun W h => RSeg.range h.i q (by omega)) Tryd.underlying32 rfl (by rw [bkF_len]; exact info_block) ?_
      refine wpQuiet_frame (by simp only [Act.put, List.setIfInBounds_toArray, List.set_cons_succ, List.set_cons_zero]; exact rfl) ?_
      first | go_big_quiet_skip | (go_big_quiet_want; go_big_quiet_op; go_big_quiet_on)
      first | go_big_quiet_skip | (go_big_quiet_want; go_big_quiet_op; go_big_quiet_on)
      first | go_big_quiet_skip | (go_big_quiet_want; go_big_quiet_op; go_big_quiet_on)
      first | go_big_quiet_skip | (go_big_quiet_want; go_big_quiet_op; go_big_quiet_on)
      first | go_big_quiet_skip | (go_big_quiet_want; go_big_quiet_op; go_big_quiet_on)
      go_big_quiet_want
      go_big_quiet_op
      refine ⟨_, fun s => q_call s (fun W hW => (bitFirst_z (HX.out.byt q) _ 2048 x.s (2048 - x.s) rfl (by omega) (by omega) W).mono fun e w' h => ⟨h.1, hW.below hn0 h.2⟩), ?_⟩
      go_big_quiet_on
      first | go_big_quiet_skip | (go_big_quiet_want; go_big_quiet_op; go_big_quiet_on)
      refine wpQuiet_nil ?_
      intro w6 h6
      have st6 := h6.out
      clear h6 hne hc hc7
      have e1 := firstC_lt (bt (x.L q)) x.s (2048 - x.s)
      rw [show x.s + (2048 - x.s) = 2048 by omega] at e1
      obtain ⟨c2, hc2⟩ : ∃ c2, c2 = decide (firstC (bt (x.L q)) x.s (2048 - x.s) < 0) := ⟨_, rfl⟩
      rw [← hc2]
      rw [← hc2] at e1
      have HC2 := Lib.hid e1
      clear e1 hc2
      go_wp2_with fail
      refine (must_any 3 c2 _).mono ?_
      rintro e w7 ⟨hS, rfl⟩
      rcases hS with ⟨rfl, rfl⟩ | ⟨rfl, rfl⟩
      rotate_left
      · refine ⟨rfl, .inr ⟨allB_no hlt ?_, rfl⟩, st6.bel⟩
        have h := HC2.out
        rw [HQQ.out] at h
        unfold Im.ck3
        rw [show Im.allS (bt (x.L (x.st k))) x.s 2048 = false from h.symm, Bool.false_and, Bool.and_false]
      have HS := Lib.hid st6
      clear st6
      have st6 := HS.out
      clear HS
      go_wp2_with fail
      refine wp_region_bar2 (CkC w p (XC b off cap x ds ino orp own sl un) b off x) 15 (by kernel_rfl) (by kernel_rfl) (by kernel_rfl) (by kernel_rfl) (by kernel_rfl) (by decide) ⟨st6.a, st6.i, st6.bel.drew⟩ ?_
      clear st6
      simp only [List.take_succ_cons, List.take_zero, List.drop_succ_cons, List.drop_zero]
      intro hne
      have hc : ∀ y : InW (CkC w p (XC b off cap x ds ino orp own sl un) b off x), y.W.cell? ⟨p, 0, none⟩ = some (.slice (some ⟨b, off, none⟩) x.n cap) := fun y => y.h.a.cell (i := 0) rfl
      have hc8 : ∀ y : InW (CkC w p (XC b off cap x ds ino orp own sl un) b off x), y.W.cell? ⟨p, 8, none⟩ = some (.int .i64 (x.i : Int)) := fun y => y.h.a.cell (i := 8) rfl
      first | go_big_quiet_skip | (go_big_quiet_want; go_big_quiet_op; go_big_quiet_on)
      first | go_big_quiet_skip | (go_big_quiet_want; go_big_quiet_op; go_big_quiet_on)
      first | go_big_quiet_skip | (go_big_quiet_want; go_big_quiet_op; go_big_quiet_on)
      first | go_big_quiet_skip | (go_big_quiet_want; go_big_quiet_op; go_big_quiet_on)
      first | go_big_quiet_skip | (go_big_quiet_want; go_big_quiet_op; go_big_quiet_on)
      first | go_big_quiet_skip | (go_big_quiet_want; go_big_quiet_op; go_big_quiet_on)
      first | go_big_quiet_skip | (go_big_quiet_want; go_big_quiet_op; go_big_quiet_on)
      refine q_load rfl 32 (.tmp 48) rfl b (off + (q + 1) * 256) rfl (bkF x.L (q + 1)) _ (fun W h => RSeg.range h.i (q + 1) hst1) Tryd.underlying32 rfl (by rw [bkF_len]; exact info_block) ?_
      refine wpQuiet_frame (by simp only [Act.put, List.setIfInBounds_toArray, List.set_cons_succ, List.set_cons_zero]; exact rfl) ?_
      first | go_big_quiet_skip | (go_big_quiet_want; go_big_quiet_op; go_big_quiet_on)
      first | go_big_quiet_skip | (go_big_quiet_want; go_big_quiet_op; go_big_quiet_on)
      first | go_big_quiet_skip | (go_big_quiet_want; go_big_quiet_op; go_big_quiet_on)
      first | go_big_quiet_skip | (go_big_quiet_want; go_big_quiet_op; go_big_quiet_on)
      first | go_big_quiet_skip | (go_big_quiet_want; go_big_quiet_op; go_big_quiet_on)
      go_big_quiet_want
      go_big_quiet_op
      refine ⟨_, fun s => q_call s (fun W hW => (bitFirst_z (HX.out.byt (q + 1)) _ 2048 x.i (2048 - x.i) rfl (by omega) (by omega) W).mono fun e w' h => ⟨h.1, hW.below hn0 h.2⟩), ?_⟩
      go_big_quiet_on
      first | go_big_quiet_skip | (go_big_quiet_want; go_big_quiet_op; go_big_quiet_on)
      refine wpQuiet_nil ?_
      intro w7 h7
      have st7 := h7.out
      clear h7 hne hc hc8
      have e1 := firstC_lt (bt (x.L (q + 1))) x.i (2048 - x.i)
      rw [show x.i + (2048 - x.i) = 2048 by omega] at e1
      obtain ⟨c3, hc3⟩ : ∃ c3, c3 = decide (firstC (bt (x.L (q + 1))) x.i (2048 - x.i) < 0) := ⟨_, rfl⟩
      rw [← hc3]
      rw [← hc3] at e1
      have HC3 := Lib.hid e1
      clear e1 hc3
      go_wp2_with fail
      refine (must_any 3 c3 _).mono ?_
      rintro e w8 ⟨hS, rfl⟩
      rcases hS with ⟨rfl, rfl⟩ | ⟨rfl, rfl⟩
      rotate_left
      · refine ⟨rfl, .inr ⟨allB_no hlt ?_, rfl⟩, st7.bel⟩
        have h := HC3.out
        rw [HQQ.out] at h
        unfold Im.ck3
        rw [show Im.allS (bt (x.L (x.st k + 1))) x.i 2048 = false from h.symm, Bool.and_false, Bool.and_false]
      have HOK : Hid (x.ck3 k = true) := by
        show _ = _
        have g1 := HC1.out
        have g2 := HC2.out
        have g3 := HC3.out
        rw [HQQ.out] at g1 g2 g3
        unfold Im.ck3
        rw [show Im.allS (bt (x.L (x.st k))) 0 x.own = true from g1.symm, show Im.allS (bt (x.L (x.st k))) x.s 2048 = true from g2.symm, show Im.allS (bt (x.L (x.st k + 1))) x.i 2048 = true from g3.symm]; rfl
      clear HC1 HC2 HC3 HQQ hst1 q0 q1
      go_wp2_with fail
      go_roundw
      case rel => exact ⟨k + 1, by omega, by first | rfl | go_num, fun r hr => by
        by_cases e : r = k
        · rw [e]; exact HOK.out
        · exact HPP.out r (by omega), st7⟩
      case measure => simp [intOf]; omega
    · obtain rfl : k = x.g := by omega
      go_wp2_with fail
      refine bodyPost_end (results_none rfl _ _ _) rfl ⟨.inl ⟨(allB_iff _ _).2 HPP.out, rfl⟩, st.bel⟩
end Go.Proofs.YtnbmmhoofilmfaaDoor

/- check, plainly: what geo.What tells of an image's block. -/
namespace Go.Proofs.YtnbmmhoofilmfaaDoor
open Go.RowKit
set_option linter.unusedVariables false

theorem pcells_eq {K A F S P K' A' F' S' P' : Int} (h : pcells K A F S P = pcells K' A' F' S' P') : K = K' ∧ A = A' ∧ F = F' ∧ S = S' ∧ P = P' := by
  simp only [pcells] at h
  simp only [Array.mk.injEq] at h
  simp only [List.cons.injEq, Value.int.injEq, true_and, and_true] at h
  exact h
theorem what_cases {x : Im} (hx : x.Ok) {v : Nat} (hv : v < x.n) {K A B : Int} (h : WhatIs x.g x.s x.i x.j v K A B) :
    (v < 2 + x.j ∧ 1 ≤ K ∧ K ≤ 3) ∨ ∃ γ r : Nat, γ < x.g ∧ r < x.s ∧ v = x.st γ + r ∧ A = (γ : Int) ∧ B = (r : Int) ∧ K = if r = 0 then 4 else if r = 1 then 5 else if r < x.own then 6 else 7 := by
  obtain ⟨h1, h2, h3, h4, h5, h6, h7, h8, h9, h10, h11⟩ := mayN hx.may
  have hn := hx.n
  have e : ((x.g * x.s : Nat) : Int) = (x.g : Int) * (x.s : Int) := Int.natCast_mul _ _
  rcases h with ⟨h, _⟩ | ⟨_, k, Sz, Pl, hk, hp, hlo, hhi, hB⟩
  · exfalso
    have hnb : nBl x.g x.s x.i x.j = 2 + x.j + x.g * x.s := by unfold nBl; rw [hx.may]; rfl
    rw [hnb, ← e, hx.may] at h
    rcases h with h | h | h
    · cases h
    · omega
    · omega
  by_cases h0 : k = 0
  · subst h0
    have e1 : frF x.s ((x.i : Int) / 4) x.j 1 = 1 := rfl
    rw [Nat.zero_add, e1] at hhi
    obtain ⟨rfl, _⟩ := pcells_eq (hp.symm.trans (show ptF x.s ((x.i : Int) / 4) x.j 0 = pcells 1 0 0 1 0 from rfl))
    exact .inl ⟨by omega, by decide, by decide⟩
  by_cases h0 : k = 1
  · subst h0
    have e1 : frF x.s ((x.i : Int) / 4) x.j (1 + 1) = 2 := rfl
    rw [e1] at hhi
    obtain ⟨rfl, _⟩ := pcells_eq (hp.symm.trans (show ptF x.s ((x.i : Int) / 4) x.j 1 = pcells 2 0 1 1 0 from rfl))
    exact .inl ⟨by omega, by decide, by decide⟩
  by_cases h0 : k = 2
  · subst h0
    have e1 : frF x.s ((x.i : Int) / 4) x.j (2 + 1) = 2 + x.j := by have := frF_end x.s ((x.i : Int) / 4) x.j 0; simpa using this
    rw [e1] at hhi
    obtain ⟨rfl, _⟩ := pcells_eq (hp.symm.trans (show ptF x.s ((x.i : Int) / 4) x.j 2 = pcells 3 0 2 x.j 0 from rfl))
    exact .inl ⟨by omega, by decide, by decide⟩
  obtain ⟨γ, m, hm4, rfl⟩ : ∃ γ m, m < 4 ∧ k = 3 + 4 * γ + m := ⟨(k - 3) / 4, (k - 3) % 4, by omega, by omega⟩
  have hγ : γ < x.g := by omega
  have eg : ((γ * x.s : Nat) : Int) = (γ : Int) * (x.s : Int) := Int.natCast_mul _ _
  have ei : (x.i : Int) / 4 = ((x.i / 4 : Nat) : Int) := by omega
  have hnx : frF x.s ((x.i : Int) / 4) x.j (3 + 4 * γ + m + 1) = 2 + x.j + (γ : Int) * x.s + (if m = 0 then 1 else if m = 1 then 2 else if m = 2 then 2 + (x.i : Int) / 4 else x.s) := by
    by_cases e3 : m = 3
    · subst e3
      have := frF_end x.s ((x.i : Int) / 4) x.j (γ + 1)
      rw [show 3 + 4 * (γ + 1) = 3 + 4 * γ + 3 + 1 by omega] at this
      rw [this, if_neg (by decide), if_neg (by decide), if_neg (by decide)]
      push_cast
      rw [Int.add_mul, Int.one_mul]; omega
    · rw [show 3 + 4 * γ + m + 1 = 3 + 4 * γ + (m + 1) by omega, frF_at _ _ _ _ (show m + 1 < 4 by omega)]
      obtain rfl | rfl | rfl : m = 0 ∨ m = 1 ∨ m = 2 := by omega
      · rfl
      · rfl
      · rfl
  rw [hnx, ← eg] at hhi
  rw [frF_at _ _ _ _ hm4] at hlo hB hp
  rw [← eg] at hlo hB
  rw [ptF_at _ _ _ _ hm4] at hp
  refine .inr ⟨γ, v - x.st γ, hγ, ?_, ?_, ?_, ?_, ?_⟩
  · unfold Im.st
    obtain rfl | rfl | rfl | rfl : m = 0 ∨ m = 1 ∨ m = 2 ∨ m = 3 := by omega
    all_goals simp at hhi hlo; omega
  · unfold Im.st
    obtain rfl | rfl | rfl | rfl : m = 0 ∨ m = 1 ∨ m = 2 ∨ m = 3 := by omega
    all_goals simp at hhi hlo; omega
  · obtain rfl | rfl | rfl | rfl : m = 0 ∨ m = 1 ∨ m = 2 ∨ m = 3 := by omega
    · rw [if_pos rfl] at hp; exact (pcells_eq hp).2.1.symm
    · rw [if_neg (by decide), if_pos rfl] at hp; exact (pcells_eq hp).2.1.symm
    · rw [if_neg (by decide), if_neg (by decide), if_pos rfl] at hp; exact (pcells_eq hp).2.1.symm
    · rw [if_neg (by decide), if_neg (by decide), if_neg (by decide)] at hp; exact (pcells_eq hp).2.1.symm
  · unfold Im.st
    obtain rfl | rfl | rfl | rfl : m = 0 ∨ m = 1 ∨ m = 2 ∨ m = 3 := by omega
    · rw [if_pos rfl] at hp; have := (pcells_eq hp).2.2.2.2; simp at hhi hlo hB; omega
    · rw [if_neg (by decide), if_pos rfl] at hp; have := (pcells_eq hp).2.2.2.2; simp at hhi hlo hB; omega
    · rw [if_neg (by decide), if_neg (by decide), if_pos rfl] at hp; have := (pcells_eq hp).2.2.2.2; simp at hhi hlo hB; omega
    · rw [if_neg (by decide), if_neg (by decide), if_neg (by decide)] at hp; have := (pcells_eq hp).2.2.2.2; simp at hhi hlo hB; omega
  · unfold Im.st Im.own
    obtain rfl | rfl | rfl | rfl : m = 0 ∨ m = 1 ∨ m = 2 ∨ m = 3 := by omega
    · rw [if_pos rfl] at hp; have := (pcells_eq hp).1; simp at hhi hlo
      rw [if_pos (by omega)]; exact this.symm
    · rw [if_neg (by decide), if_pos rfl] at hp; have := (pcells_eq hp).1; simp at hhi hlo
      rw [if_neg (by omega), if_pos (by omega)]; exact this.symm
    · rw [if_neg (by decide), if_neg (by decide), if_pos rfl] at hp; have := (pcells_eq hp).1; simp at hhi hlo
      rw [if_neg (by omega), if_neg (by omega), if_pos (by omega)]; exact this.symm
    · rw [if_neg (by decide), if_neg (by decide), if_neg (by decide)] at hp; have := (pcells_eq hp).1; simp at hhi hlo
      rw [if_neg (by omega), if_neg (by omega), if_neg (by omega)]; exact this.symm
theorem st_div {x : Im} {γ r : Nat} (hr : r < x.s) : (x.st γ + r - (2 + x.j)) % x.s = r ∧ (x.st γ + r - (2 + x.j)) / x.s = γ := by
  unfold Im.st
  rw [show 2 + x.j + γ * x.s + r - (2 + x.j) = r + x.s * γ by rw [Nat.mul_comm]; omega]
  exact ⟨by rw [Nat.add_mul_mod_self_left, Nat.mod_eq_of_lt hr], by rw [Nat.add_mul_div_left _ _ (by omega), Nat.div_eq_of_lt hr, Nat.zero_add]⟩
theorem data_st {x : Im} (hx : x.Ok) {γ r : Nat} (hγ : γ < x.g) (hr : r < x.s) : x.data (x.st γ + r) = decide (x.own ≤ r) := by
  have h1 := hx.st hγ hr
  unfold Im.data
  rw [(st_div hr).1]
  have : 2 + x.j ≤ x.st γ + r := by unfold Im.st; omega
  simp [this, h1]
theorem what_data {x : Im} (hx : x.Ok) {v : Nat} (hv : v < x.n) {K A B : Int} (h : WhatIs x.g x.s x.i x.j v K A B) : (K == 7) = x.data v := by
  rcases what_cases hx hv h with ⟨h1, h2, h3⟩ | ⟨γ, r, hγ, hr, rfl, _, _, hK⟩
  · unfold Im.data
    have : ¬ 2 + x.j ≤ v := by omega
    simp [this]; omega
  · rw [data_st hx hγ hr, hK]
    unfold Im.own
    by_cases h0 : r = 0
    · subst h0; simp
    by_cases h1 : r = 1
    · subst h1; simp; omega
    by_cases h2 : r < 2 + x.i / 4
    · rw [if_neg h0, if_neg h1, if_pos h2]; simp; omega
    · rw [if_neg h0, if_neg h1, if_neg h2]; simp; omega
end Go.Proofs.YtnbmmhoofilmfaaDoor
