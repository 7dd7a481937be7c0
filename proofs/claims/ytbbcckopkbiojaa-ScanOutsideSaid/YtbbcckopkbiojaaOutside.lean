/- ScanOutside. -/
import Derived.Test.YtbbcckopkbiojaaWhat
import Derived.Test.YtbbcckopkbiojaaRegion
namespace Go.Proofs.Ytbbcckopkbiojaa
open Go.RowKit
set_option linter.unusedVariables false

set_option maxHeartbeats 1000000 in
theorem outside_any (G S I J x : Int) (hx0 : -9223372036854775808 ≤ x) (hx1 : x ≤ 9223372036854775807) (w : World) :
    Calls Try.prog 4 #[gval G S I J, .int .i64 x] w fun e w' => e = .returned (.bool (outB G S I J x)) ∧ Below w.heap.size w w' := by
  have hA := At.new w 23 (gcells G S I J)
  have hL : Hid (Below w.heap.size w (w.alloc (.cells (gcells G S I J) 23))) := (Below.refl _ _).alloc (Nat.le_refl _) _
  go_enter Try.func4, Try.ntmps4
  go_wp2_with (first | (refine wp_loadAtG rfl 23 (.tmp 2) rfl _ _ _ rfl hA Try.underlying23 rfl (by kernel_rfl) ?_))
  clear hA
  refine (what_any G S I J x hx0 hx1 _).mono ?_
  rintro e w1 ⟨K, A, B, rfl, hk, hb⟩
  have HL := Lib.hid (hL.out.trans (hb.mono hL.out.size))
  have HK := Lib.hid hk
  clear hk hb hL
  obtain ⟨c0, hc0⟩ : ∃ c, (K != 0) = c := ⟨_, rfl⟩
  obtain ⟨c3, hc3⟩ : ∃ c, (K != 3) = c := ⟨_, rfl⟩
  have HO : Hid (outB G S I J x = (c0 && c3)) := by show _ = _; rw [← HK.out, hc0, hc3]
  cases c0 <;> cases c3 <;> (
    go_wp2_with fail
    go_ret
    exact ⟨by rw [HO.out]; rfl, HL.out⟩)
set_option maxHeartbeats 1000000 in
theorem routside_any (G S I J x : Int) (w : World) :
    Calls Try.prog 5 #[gval G S I J, .int .i64 x] w fun e w' => e = .returned (.bool (outB G S I J x)) ∧ Below w.heap.size w w' := by
  have hA := At.new w 23 (gcells G S I J)
  have hL : Hid (Below w.heap.size w (w.alloc (.cells (gcells G S I J) 23))) := (Below.refl _ _).alloc (Nat.le_refl _) _
  have hA1 := Lib.hid hA
  go_enter Try.func5, Try.ntmps5
  go_wp2_with (first | (refine wp_loadAtG rfl 23 (.tmp 2) rfl _ _ _ rfl hA Try.underlying23 rfl (by kernel_rfl) ?_))
  clear hA
  refine (rBlocks_any G S I J _).mono ?_
  rintro e w1 ⟨rfl, hb⟩
  have hA2 := hA1.out.below hb hA1.out.lt
  have HL := Lib.hid (hL.out.trans (hb.mono hL.out.size))
  clear hb hL hA1
  have c3 : w1.cell? ⟨w.heap.size, 3, none⟩ = some (.int .i64 J) := hA2.cell (i := 3) rfl
  have HD : Hid (outB G S I J x = (decide (0 ≤ x) && (decide (x < nBl G S I J) && (decide (x < 2) || decide (2 + J ≤ x))))) := rfl
  have hbd : Hid (0 ≤ x → x < nBl G S I J → 40 ≤ J ∧ J ≤ 256) := fun h1 h2 => by
    unfold nBl at h2
    cases hm : mayG G S I J with
    | false => rw [hm, if_neg (by decide)] at h2; omega
    | true =>
      obtain ⟨q1, q2, q3, q4, q5, q6, q7, q8, q9, q10, q11⟩ := (mayG_iff G S I J).1 hm
      exact ⟨q8, q9⟩
  generalize nBl G S I J = n at *
  by_cases h0 : 0 ≤ x
  rotate_left
  · have HO : Hid (outB G S I J x = false) := by show _ = _; rw [HD.out]; simp; omega
    have q0 : decide (0 ≤ x) = false := decide_eq_false h0
    go_wp2_with fail
    go_ret
    exact ⟨by rw [HO.out]; rfl, HL.out⟩
  have q0 : decide (0 ≤ x) = true := decide_eq_true h0
  by_cases h1 : x < n
  rotate_left
  · have HO : Hid (outB G S I J x = false) := by show _ = _; rw [HD.out]; simp; omega
    have q1 : decide (x < n) = false := decide_eq_false h1
    go_wp2_with fail
    go_ret
    exact ⟨by rw [HO.out]; rfl, HL.out⟩
  have q1 : decide (x < n) = true := decide_eq_true h1
  obtain ⟨j1, j2⟩ := hbd.out h0 h1
  by_cases h2 : x < 2
  · have HO : Hid (outB G S I J x = true) := by show _ = _; rw [HD.out]; simp; omega
    have q2 : decide (x < 2) = true := decide_eq_true h2
    go_wp2_with fail
    go_ret
    exact ⟨by rw [HO.out]; rfl, HL.out⟩
  have q2 : decide (x < 2) = false := decide_eq_false h2
  have e1 : IntKind.i64.wrap (2 + J) = 2 + J := IntWalk.i64_in _ (by omega)
  have HO : Hid (outB G S I J x = decide (2 + J ≤ x)) := by show _ = _; rw [HD.out, q0, q1, q2]; rfl
  go_wp2_with fail
  go_ret
  exact ⟨by rw [HO.out]; rfl, HL.out⟩
structure SoS (w : World) (G S I J : Int) (W : World) : Prop where
  g : At W w.heap.size 23 (gcells G S I J)
  bel : Below w.heap.size w W
theorem SoS.below {w : World} {G S I J : Int} {W W' : World} (h : SoS w G S I J W) (hb : Below W.heap.size W W') : SoS w G S I J W' := ⟨h.g.below hb h.g.lt, h.bel.trans (hb.mono h.bel.size)⟩
set_option maxHeartbeats 1000000 in
theorem scanOutside_walk (G S I J x : Int) (hx0 : -9223372036854775808 ≤ x) (hx1 : x ≤ 9223372036854775807) (w : World) :
    Calls Try.prog 3 #[gval G S I J, .int .i64 x] w fun e w' => e = .returned (.bool true) ∧ Below w.heap.size w w' := by
  have st : SoS w G S I J (w.alloc (.cells (gcells G S I J) 23)) := ⟨At.new w _ _, (Below.refl _ _).alloc (Nat.le_refl _) _⟩
  have HO := Lib.hid (fun W => outside_any G S I J x hx0 hx1 W)
  have HR := Lib.hid (fun W => routside_any G S I J x W)
  generalize outB G S I J x = c at *
  have hcc : (c == c) = true := by simp
  go_enter Try.func3, Try.ntmps3
  go_wp2_with fail
  refine wp_region_S (SoS w G S I J) (by kernel_rfl) (by kernel_rfl) ⟨st.g, st.bel.drew⟩ ?_
  clear st
  intro hne
  refine q_load rfl 23 (.tmp 2) rfl _ _ rfl (gcells G S I J).toList _ (fun W h => h.g.range) Try.underlying23 rfl (by kernel_rfl) ?_
  refine wpQuiet_frame (by simp only [Act.put, List.setIfInBounds_toArray, List.set_cons_succ, List.set_cons_zero]; exact rfl) ?_
  first | go_big_quiet_skip | (go_big_quiet_want; go_big_quiet_op; go_big_quiet_on)
  go_big_quiet_want
  go_big_quiet_op
  refine ⟨_, fun s => q_call s (fun W hW => (HO.out W).mono fun e w' h => ⟨h.1, hW.below h.2⟩), ?_⟩
  go_big_quiet_on
  refine q_load rfl 23 (.tmp 2) rfl _ _ rfl (gcells G S I J).toList _ (fun W h => h.g.range) Try.underlying23 rfl (by kernel_rfl) ?_
  refine wpQuiet_frame (by simp only [Act.put, List.setIfInBounds_toArray, List.set_cons_succ, List.set_cons_zero]; exact rfl) ?_
  first | go_big_quiet_skip | (go_big_quiet_want; go_big_quiet_op; go_big_quiet_on)
  go_big_quiet_want
  go_big_quiet_op
  refine ⟨_, fun s => q_call s (fun W hW => (HR.out W).mono fun e w' h => ⟨h.1, hW.below h.2⟩), ?_⟩
  go_big_quiet_on
  first | go_big_quiet_skip | (go_big_quiet_want; go_big_quiet_op; go_big_quiet_on)
  first | go_big_quiet_skip | (go_big_quiet_want; go_big_quiet_op; go_big_quiet_on)
  refine wpQuiet_nil ?_
  intro w5 h5
  have st5 := h5.out
  clear h5 hne
  go_wp2_with fail
  go_ret
  exact ⟨rfl, st5.bel⟩
end Go.Proofs.Ytbbcckopkbiojaa
