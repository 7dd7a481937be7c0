/- The walk of the law NumsZero. -/
import Derived.Test.YtchljjlpennniaaTell
import Derived.Test.YtchljjlpennniaaRange2
import Derived.Test.YtchljjlpennniaaSlice
import Derived.Test.YtchljjlpennniaaAwake1
namespace Go.Proofs.Ytchljjlpennniaa
open Go.RowKit Go.Shelf
set_option linter.unusedVariables false
attribute [local go_sem] Oper.semAt_some

theorem tellFn_not_nil' (B : Nat) (W : World) : (binOp .eql 31 (.func (.func 34) #[] #[.pointer (some ⟨B, 0, none⟩)]) .nilFunc).run Try.prog W = .ok (.bool false) W := by kernel_rfl

/-- what is known of all when k numbers have been told -/
def az (z : Nat → Int) (t : Bool) : Nat → Bool
  | 0 => t
  | k + 1 => az z t k && decide (g32 z (4 * k) = 0)
theorem az_succ (z : Nat → Int) (t : Bool) (k : Nat) : az z t (k + 1) = (az z t k && decide (g32 z (4 * k) = 0)) := rfl
theorem az_iff (z : Nat → Int) (hz : Byt z) (t : Bool) (k : Nat) : az z t k = true ↔ t = true ∧ ∀ i, i < 4 * k → z i = 0 := by
  induction k with
  | zero => simp [az]
  | succ k ih =>
    rw [az_succ, Bool.and_eq_true, ih, decide_eq_true_eq]
    have h0 := hz (4 * k); have h1 := hz (4 * k + 1); have h2 := hz (4 * k + 2); have h3 := hz (4 * k + 3)
    constructor
    · rintro ⟨⟨ht, ha⟩, hg⟩
      refine ⟨ht, fun i hi => ?_⟩
      unfold g32 at hg
      by_cases c : i < 4 * k
      · exact ha i c
      · obtain rfl | rfl | rfl | rfl : i = 4 * k ∨ i = 4 * k + 1 ∨ i = 4 * k + 2 ∨ i = 4 * k + 3 := by omega
        all_goals omega
    · rintro ⟨ht, ha⟩
      refine ⟨⟨ht, fun i hi => ha i (by omega)⟩, ?_⟩
      unfold g32
      rw [ha (4 * k) (by omega), ha (4 * k + 1) (by omega), ha (4 * k + 2) (by omega), ha (4 * k + 3) (by omega)]; rfl
theorem az_all (z : Nat → Int) (hz : Byt z) (len : Nat) : az z (allZ (fun i => z (len - len % 4 + i)) (len - (len - len % 4))) (len / 4) = allZ z len := by
  rw [Bool.eq_iff_iff, az_iff z hz, allZ_iff, allZ_iff]
  constructor
  · rintro ⟨h, g⟩ i hi
    by_cases c : i < 4 * (len / 4)
    · exact g i c
    · have := h (i - (len - len % 4)) (by omega)
      rwa [show len - len % 4 + (i - (len - len % 4)) = i by omega] at this
  · intro h
    exact ⟨fun i hi => h _ (by omega), fun i hi => h i (by omega)⟩

set_option maxRecDepth 100000 in
set_option maxHeartbeats 2000000 in
theorem numsZero_walk (a0 : Option Addr) (len0 cap0 : Nat) (z : Nat → Int) (w : World) (hr : Row w a0 len0 z) (hz : Byt z) (hl : (len0 : Int) ≤ 9223372036854775807) (hcap : a0 = none → cap0 = 0 ∧ len0 = 0) (hcc : len0 ≤ cap0) :
    Calls Try.prog 10 #[.slice a0 len0 cap0] w fun e w' => e = .returned (.bool true) ∧ Below w.heap.size w w' := by
  refine (callsIn_wide (n := 5)).1 (callsIn_of_wp_marks Try.func10 rfl trivial ?_ rfl)
  refine wpIn_wide.2 ?_
  simp only [Try.ntmps10, List.size_toArray, List.length_cons, List.length_nil, Nat.reduceAdd, Nat.reduceSub, Array.replicate_succ, Array.replicate_zero, List.push_toArray, List.append_toArray, List.nil_append, List.cons_append]
  go_wp2_with fail
  refine (awake1_any _).mono ?_
  rintro e w1 ⟨rfl, hb1⟩
  by_cases hbig : 20000 < len0
  · have hb : decide ((20000 : Int) < (len0 : Int)) = true := by simp; omega
    go_wp2_with fail
    exact bodyPostM_early (results_tmp rfl _ _ _) ⟨rfl, hb1⟩
  have hb : decide ((20000 : Int) < (len0 : Int)) = false := by simp; omega
  have hnn := fun B W => tellFn_not_nil' B W
  have hsl := fun w => run_sl_low a0 len0 cap0 (len0 - len0 % 4) ((len0 : Int) - (len0 : Int) % 4) (by omega) (by omega) w
  have hr1 := hr.below hb1 (Nat.le_refl _)
  go_wp2_with fail
  refine (tell_any a0 len0 cap0 z _ hr1 hcap (by omega)).mono ?_
  rintro e w2 ⟨B, sa, cap', rfl, hnd, hbt, hB1, hB2, hsa⟩
  have hb2 := hb1.trans (hbt.mono hb1.size)
  have hr2 := hr.below hb2 (Nat.le_refl _)
  have hs1 := hb1.size
  have hs2 := hbt.size
  clear hr1 hbt
  go_wp2_with fail
  refine (zero_any _ _ _ _ _ (by omega) (hr2.slice (by omega) hcc)).mono ?_
  rintro e w' ⟨rfl, rfl⟩
  have HAZ := Lib.hid (az_all z hz len0)
  generalize allZ (fun i => z (len0 - len0 % 4 + i)) (len0 - (len0 - len0 % 4)) = t0 at *
  go_wp2_with fail
  refine wp_rangeIx (gf := 34) (lb := #[.pointer (some ⟨B, 0, none⟩)]) rfl (enters_of Try.func34 (by kernel_rfl) rfl)
    (tell_iter 4 (by decide) B sa len0 cap' z hz (by omega)) (fun k => rfl)
    (fun k W => Boxed W w2.heap.size 4 (.bool (az z t0 k)) ∧ Boxed W (w2.heap.size + 1) 3 (.int .i64 (k : Int)) ∧ Below w.heap.size w W)
    (fun _ _ _ => False)
    (fun k => { tmps := #[.slice a0 len0 cap0, undef, .bool false, .func (.func 34) #[] #[.pointer (some ⟨B, 0, none⟩)], .pointer (some ⟨w2.heap.size, 0, none⟩), .pointer (some ⟨w2.heap.size + 1, 0, none⟩), undef, .int .u32 (g32 z (4 * k)), .bool true, .bool false, .slice a0 len0 cap0, .int .i64 len0, .bool false, .slice a0 len0 cap0, .func (.func 34) #[] #[.pointer (some ⟨B, 0, none⟩)], .func (.func 34) #[] #[.pointer (some ⟨B, 0, none⟩)], .bool false, .slice a0 len0 cap0, .slice a0 len0 cap0, .int .i64 len0, .slice a0 len0 cap0, .int .i64 len0, .int .i64 ((len0 : Int) % 4), .int .i64 ((len0 : Int) - (len0 : Int) % 4), .slice (slAt a0 (len0 - len0 % 4) cap0) (len0 - (len0 - len0 % 4)) (cap0 - (len0 - len0 % 4)), .bool t0, .func (.func 34) #[] #[.pointer (some ⟨B, 0, none⟩)], .int .i64 (4 * (k : Int)), .int .u32 (g32 z (4 * k)), undef, undef, undef, undef, undef, undef, undef, undef, undef, undef, undef, undef, undef, undef, undef, undef, undef, undef], defers := [] })
    (fun k => (LocalP.boxed _ _ (by simp; omega)).and ((LocalP.boxed _ _ (by simp)).and (LocalP.below _ (by simp; omega) (Nat.le_refl _))))
    (fun c k => LocalP.pure _ _)
    (fun k => (LocalP.cell _ _ (by simp; omega)).and (LocalP.row _ _ (fun x hx => by have := (hsa x hx).2; simp; omega)))
    ⟨(Boxed.new _ _ _).alloc _, by have := Boxed.new (w2.alloc (Obj.cells #[Value.bool t0] 4)) 3 (.int .i64 0); simp only [World.size_alloc] at this; exact this, (hb2.alloc (by omega) _).alloc (by simp; omega) _⟩
    ⟨(LocalP.cell _ _ hB2) _ _ ((LocalP.cell _ _ hB2) _ _ hnd.1 (Still.of_grown (World.grownBy_alloc _ _ none) (fun r e => by cases e))) (Still.of_grown (World.grownBy_alloc _ _ none) (fun r e => by cases e)), (hnd.2.alloc _).alloc _⟩
    ?assign ?body ?done ?stop
  case assign =>
    intro l k W K hk hK
    dsimp only [tellEnc]
    gi_wp2
    exact hK
  case body =>
    rintro l k W hk ⟨h0, h1, hB⟩ hN
    have c0 := h0.cell
    have f0 := h0.frozen
    have c1 := h1.cell
    have f1 := h1.frozen
    have fin : Hid (∀ b : Bool, KeepsFrom ((w2.alloc (Obj.cells #[Value.bool t0] 4)).alloc (Obj.cells #[Value.int IntKind.i64 0] 3)).heap.size W ((W.setCell ⟨w2.heap.size, 0, none⟩ (.bool b)).setCell ⟨w2.heap.size + 1, 0, none⟩ (.int .i64 ((k : Int) + 1))) ∧ Boxed ((W.setCell ⟨w2.heap.size, 0, none⟩ (.bool b)).setCell ⟨w2.heap.size + 1, 0, none⟩ (.int .i64 ((k : Int) + 1))) w2.heap.size 4 (.bool b) ∧ Boxed ((W.setCell ⟨w2.heap.size, 0, none⟩ (.bool b)).setCell ⟨w2.heap.size + 1, 0, none⟩ (.int .i64 ((k : Int) + 1))) (w2.heap.size + 1) 3 (.int .i64 ((k + 1 : Nat) : Int)) ∧ Below w.heap.size w ((W.setCell ⟨w2.heap.size, 0, none⟩ (.bool b)).setCell ⟨w2.heap.size + 1, 0, none⟩ (.int .i64 ((k : Int) + 1))) ∧ TellNeed B sa len0 cap' z k ((W.setCell ⟨w2.heap.size, 0, none⟩ (.bool b)).setCell ⟨w2.heap.size + 1, 0, none⟩ (.int .i64 ((k : Int) + 1)))) := by
      intro b
      have o1 := Only.setCell W ⟨w2.heap.size, 0, none⟩ (.bool b)
      have o2 := Only.setCell (W.setCell ⟨w2.heap.size, 0, none⟩ (.bool b)) ⟨w2.heap.size + 1, 0, none⟩ (.int .i64 ((k : Int) + 1))
      refine ⟨(o1.keeps c0).trans (o2.keeps (h1.other (by omega) _).cell), (h0.set _).other (by omega) _, (by rw [show ((k + 1 : Nat) : Int) = (k : Int) + 1 by omega]; exact (h1.other (by omega) _).set _), (hB.trans (o1.below (by simp; omega))).trans (o2.below (by simp; omega)), ?_, ?_⟩
      · exact (o2.cell (p := ⟨B, 0, none⟩) (by simp; omega)).trans ((o1.cell (p := ⟨B, 0, none⟩) (by simp; omega)).trans hN.1)
      · exact o2.row (fun x hx => by have := hsa x hx; simp; omega) (o1.row (fun x hx => by have := hsa x hx; simp; omega) hN.2)
    have hs := az_succ z t0 k
    have HS := Lib.hid hs
    clear hs
    generalize az z t0 k = b at *
    cases b with
    | false =>
      gi_wp2
      obtain ⟨k1, k2, k3, k4, k5⟩ := fin.out false
      exact ⟨k1, ⟨by rw [HS.out]; exact k2, k3, k4⟩, k5⟩
    | true =>
      by_cases hg : g32 z (4 * k) = 0
      · have q : (g32 z (4 * k) == 0) = true := by simp [hg]
        have HG := Lib.hid hg
        clear hg
        gi_wp2
        obtain ⟨k1, k2, k3, k4, k5⟩ := fin.out true
        exact ⟨k1, ⟨by rw [HS.out, HG.out]; exact k2, k3, k4⟩, k5⟩
      · have q : (g32 z (4 * k) == 0) = false := by simp [hg]
        have HG : Hid (decide (g32 z (4 * k) = 0) = false) := by show _ = _; simp [hg]
        clear hg
        gi_wp2
        obtain ⟨k1, k2, k3, k4, k5⟩ := fin.out false
        exact ⟨k1, ⟨by rw [HS.out, HG.out]; exact k2, k3, k4⟩, k5⟩
  case done =>
    rintro D W hD ⟨h0, h1, hB⟩ hK
    have c0 := h0.cell
    have c1 := h1.cell
    rw [HAZ.out] at c0
    have hrW := hr.below hB (Nat.le_refl _)
    have q1 : (((len0 / 4 : Nat) : Int) == (len0 : Int) / 4) = true := by simp
    have q2 : ((len0 : Int) / 4 == (len0 : Int) / 4) = true := by simp
    have q3 : (allZ z len0 == allZ z len0) = true := by simp
    go_wp2_with fail
    go_quiet ((go_at_call 22; exact Calls.quiet_of_same ((zero_any _ _ _ z _ hl (by exact hrW)).mono fun _ _ h => ⟨h.1, h.2.symm⟩)))
    go_wp2_with fail
    exact bodyPostM_done (D := D) hK (results_tmp rfl _ _ _) ⟨rfl, below_putObj (bel_drewN hB _) _ (Nat.le_refl _) (by simp at hD; omega)⟩
  case stop =>
    rintro D c k W hD hk h hK
    exact h.elim
end Go.Proofs.Ytchljjlpennniaa
