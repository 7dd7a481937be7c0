/- The walk of the law NumsTell. -/
import Derived.Test.YtchljjlpennniaaTell
import Derived.Test.YtchljjlpennniaaRange2
namespace Go.Proofs.Ytchljjlpennniaa
open Go.RowKit Go.Shelf
set_option linter.unusedVariables false
attribute [local go_sem] Oper.semAt_some

theorem tellFn_not_nil (B : Nat) (W : World) : (binOp .eql 31 (.func (.func 34) #[] #[.pointer (some ⟨B, 0, none⟩)]) .nilFunc).run Try.prog W = .ok (.bool false) W := by kernel_rfl

set_option maxRecDepth 100000 in
set_option maxHeartbeats 2000000 in
theorem numsTell_walk (a0 : Option Addr) (len0 cap0 : Nat) (z : Nat → Int) (a1 : Int) (w : World) (hr : Row w a0 len0 z) (hz : Byt z) (hl : (len0 : Int) ≤ 9223372036854775807) (hcap : a0 = none → cap0 = 0 ∧ len0 = 0) :
    Calls Try.prog 5 #[.slice a0 len0 cap0, .int .i64 a1] w fun e w' => e = .returned (.bool true) ∧ Below w.heap.size w w' := by
  refine (callsIn_wide (n := 5)).1 (callsIn_of_wp_marks Try.func5 rfl trivial ?_ rfl)
  refine wpIn_wide.2 ?_
  simp only [Try.ntmps5, List.size_toArray, List.length_cons, List.length_nil, Nat.reduceAdd, Nat.reduceSub, Array.replicate_succ, Array.replicate_zero, List.push_toArray, List.append_toArray, List.nil_append, List.cons_append]
  by_cases hbig : 20000 < len0
  · have hb : decide ((20000 : Int) < (len0 : Int)) = true := by simp; omega
    go_wp2_with fail
    refine bodyPostM_early (v := .bool true) ?_ ⟨rfl, (((Below.refl _ _).alloc (Nat.le_refl _) _).alloc (by simp) _).alloc (by simp; omega) _⟩
    have hc := Boxed.cell (Boxed.new ((w.alloc (Obj.cells #[Value.slice a0 len0 cap0] 22)).alloc (Obj.cells #[Value.int IntKind.i64 a1] 3)) 4 (.bool true))
    simp only [World.size_alloc] at hc
    simp [results, Try.f5, go_sem, hc]
  have hb : decide ((20000 : Int) < (len0 : Int)) = false := by simp; omega
  have hnn := fun B W => tellFn_not_nil B W
  go_wp2_with fail
  refine (tell_any a0 len0 cap0 z _ (by exact ((hr.alloc _).alloc _).alloc _) hcap (by omega)).mono ?_
  rintro e w1 ⟨B, sa, cap', rfl, hnd, hb1, hB1, hB2, hsa⟩
  simp only [World.size_alloc] at hb1 hB1 hsa
  have hx0 : Boxed w1 w.heap.size 22 (.slice a0 len0 cap0) := (hb1.block _ (by omega)).trans (((Boxed.new w _ _).alloc _).alloc _)
  have hx1 : Boxed w1 (w.heap.size + 1) 3 (.int .i64 a1) := (hb1.block _ (by omega)).trans (by have := (Boxed.new (w.alloc (Obj.cells #[Value.slice a0 len0 cap0] 22)) 3 (.int .i64 a1)).alloc (Obj.cells #[Value.bool false] 4); simp only [World.size_alloc] at this; exact this)
  have hx2 : Boxed w1 (w.heap.size + 1 + 1) 4 (.bool false) := (hb1.block _ (by omega)).trans (by have := Boxed.new ((w.alloc (Obj.cells #[Value.slice a0 len0 cap0] 22)).alloc (Obj.cells #[Value.int IntKind.i64 a1] 3)) 4 (.bool false); simp only [World.size_alloc] at this; exact this)
  have hbw : Below w.heap.size w w1 := ((((Below.refl _ _).alloc (Nat.le_refl _) _).alloc (by simp) _).alloc (by simp; omega) _).trans (hb1.mono (by omega))
  have hsz := hb1.size
  simp only [World.size_alloc] at hsz
  go_wp2_with fail
  refine wp_rangeIx (gf := 34) (lb := #[.pointer (some ⟨B, 0, none⟩)]) rfl (enters_of Try.func34 (by kernel_rfl) rfl)
    (tell_iter 4 (by decide) B sa len0 cap' z hz (by omega)) (fun k => rfl)
    (fun k W => Boxed W w.heap.size 22 (.slice a0 len0 cap0) ∧ Boxed W (w.heap.size + 1) 3 (.int .i64 a1) ∧ Boxed W (w.heap.size + 1 + 1) 4 (.bool false) ∧ Boxed W w1.heap.size 3 (.int .i64 (k : Int)) ∧ Below w.heap.size w W)
    (fun c k W => (c = .exit 0 ∧ ((k : Int) + 1 = a1)) ∧ Boxed W w.heap.size 22 (.slice a0 len0 cap0) ∧ Boxed W (w.heap.size + 1) 3 (.int .i64 a1) ∧ Boxed W (w.heap.size + 1 + 1) 4 (.bool false) ∧ Boxed W w1.heap.size 3 (.int .i64 ((k : Int) + 1)) ∧ Below w.heap.size w W)
    (fun k => { tmps := #[.slice a0 len0 cap0, .int .i64 a1, .pointer (some ⟨w.heap.size, 0, none⟩), .pointer (some ⟨w.heap.size + 1, 0, none⟩), .pointer (some ⟨w.heap.size + 1 + 1, 0, none⟩), .func (.func 34) #[] #[.pointer (some ⟨B, 0, none⟩)], .pointer (some ⟨w1.heap.size, 0, none⟩), .int .i64 (4 * (k : Int)), .int .u32 (g32 z (4 * k)), undef, undef, .slice a0 len0 cap0, .int .i64 len0, .bool false, .slice a0 len0 cap0, .func (.func 34) #[] #[.pointer (some ⟨B, 0, none⟩)], .func (.func 34) #[] #[.pointer (some ⟨B, 0, none⟩)], .bool false, .func (.func 34) #[] #[.pointer (some ⟨B, 0, none⟩)], .int .i64 (4 * (k : Int)), .int .u32 (g32 z (4 * k)), undef, undef, undef, undef, undef, undef, undef, undef, undef, undef, undef, undef, undef, undef, undef, undef, undef, undef, undef, undef, undef, undef, undef, undef, undef, undef, undef, undef, undef, undef, undef, undef, undef, undef, undef], defers := [] })
    (fun k => (LocalP.boxed _ _ (by simp; omega)).and ((LocalP.boxed _ _ (by simp; omega)).and ((LocalP.boxed _ _ (by simp; omega)).and ((LocalP.boxed _ _ (by simp)).and (LocalP.below _ (by simp; omega) (Nat.le_refl _))))))
    (fun c k => (LocalP.pure _ _).and ((LocalP.boxed _ _ (by simp; omega)).and ((LocalP.boxed _ _ (by simp; omega)).and ((LocalP.boxed _ _ (by simp; omega)).and ((LocalP.boxed _ _ (by simp)).and (LocalP.below _ (by simp; omega) (Nat.le_refl _)))))))
    (fun k => (LocalP.cell _ _ (by simp; omega)).and (LocalP.row _ _ (fun x hx => by have := (hsa x hx).2; simp; omega)))
    ⟨hx0.alloc _, hx1.alloc _, hx2.alloc _, Boxed.new _ _ _, hbw.alloc (by omega) _⟩
    ⟨(LocalP.cell _ _ hB2) _ _ hnd.1 (Still.of_grown (World.grownBy_alloc _ _ none) (fun r e => by cases e)), hnd.2.alloc _⟩
    ?assign ?body ?done ?stop
  case assign =>
    intro l k W K hk hK
    dsimp only [tellEnc]
    gi_wp2
    exact hK
  case body =>
    rintro l k W hk ⟨h0, h1, h2, h3, hB⟩ hN
    have c0 := h0.cell
    have c1 := h1.cell
    have c3 := h3.cell
    have f3 := h3.frozen
    have f4 : Hid (fits 4 len0 (4 * (k : Int)) = true) := fits_yes ⟨by omega, by omega⟩
    have e4 : Hid ((4 * (k : Int)).toNat = 4 * k) := by show _ = _; omega
    have hrW := hr.below hB (Nat.le_refl _)
    have q1 : (4 * (k : Int) != 4 * (k : Int)) = false := by simp
    have q2 : (g32 z (4 * k) != g32 z (4 * k)) = false := by simp
    have hO : Hid (∀ m, Only w1.heap.size W ((W.drewN m).setCell ⟨w1.heap.size, 0, none⟩ (.int .i64 ((k : Int) + 1)))) := fun m => ((Only.refl _ _).drewN m).trans (Only.setCell _ ⟨w1.heap.size, 0, none⟩ _)
    have fin : Hid (∀ m, KeepsFrom (w1.alloc (Obj.cells #[Value.int IntKind.i64 0] 3)).heap.size W ((W.drewN m).setCell ⟨w1.heap.size, 0, none⟩ (.int .i64 ((k : Int) + 1))) ∧ Boxed ((W.drewN m).setCell ⟨w1.heap.size, 0, none⟩ (.int .i64 ((k : Int) + 1))) w.heap.size 22 (.slice a0 len0 cap0) ∧ Boxed ((W.drewN m).setCell ⟨w1.heap.size, 0, none⟩ (.int .i64 ((k : Int) + 1))) (w.heap.size + 1) 3 (.int .i64 a1) ∧ Boxed ((W.drewN m).setCell ⟨w1.heap.size, 0, none⟩ (.int .i64 ((k : Int) + 1))) (w.heap.size + 1 + 1) 4 (.bool false) ∧ Boxed ((W.drewN m).setCell ⟨w1.heap.size, 0, none⟩ (.int .i64 ((k : Int) + 1))) w1.heap.size 3 (.int .i64 ((k : Int) + 1)) ∧ Below w.heap.size w ((W.drewN m).setCell ⟨w1.heap.size, 0, none⟩ (.int .i64 ((k : Int) + 1))) ∧ TellNeed B sa len0 cap' z k ((W.drewN m).setCell ⟨w1.heap.size, 0, none⟩ (.int .i64 ((k : Int) + 1)))) := by
      intro m
      have h0 : Boxed (W.drewN m) w.heap.size 22 (.slice a0 len0 cap0) := h0
      have h1 : Boxed (W.drewN m) (w.heap.size + 1) 3 (.int .i64 a1) := h1
      have h2 : Boxed (W.drewN m) (w.heap.size + 1 + 1) 4 (.bool false) := h2
      have h3 : Boxed (W.drewN m) w1.heap.size 3 (.int .i64 (k : Int)) := h3
      exact ⟨(hO.out m).keeps c3, h0.other (by omega) _, h1.other (by omega) _, h2.other (by omega) _, h3.set _, hB.trans ((hO.out m).below (by omega)),
        ((hO.out m).cell (p := ⟨B, 0, none⟩) (by simp; omega)).trans hN.1, (hO.out m).row (fun x hx => by have := hsa x hx; omega) hN.2⟩
    by_cases hst : (k : Int) + 1 = a1
    · have q3 : ((k : Int) + 1 == a1) = true := by simp [hst]
      have HST := Lib.hid hst
      clear hst
      gi_wp2_with (refine ⟨trivial, ?_⟩; gi_at_call 21; refine (CallsIn.inRound l (callsIn_wide.2 (rget32_any _ _ _ _ z _ (by omega) (by exact hrW) hz))).mono ?_; rintro e w' ⟨rfl, m, rfl⟩; rw [o32, f4.out, if_pos rfl, e4.out])
      obtain ⟨k1, k2, k3, k4, k5, k6, k7⟩ := fin.out m
      exact ⟨k1, ⟨rfl, HST.out⟩, k2, k3, k4, k5, k6⟩
    · have q3 : ((k : Int) + 1 == a1) = false := by simp [hst]
      clear hst
      gi_wp2_with (refine ⟨trivial, ?_⟩; gi_at_call 21; refine (CallsIn.inRound l (callsIn_wide.2 (rget32_any _ _ _ _ z _ (by omega) (by exact hrW) hz))).mono ?_; rintro e w' ⟨rfl, m, rfl⟩; rw [o32, f4.out, if_pos rfl, e4.out])
      obtain ⟨k1, k2, k3, k4, k5, k6, k7⟩ := fin.out m
      exact ⟨k1, ⟨k2, k3, k4, by rw [show ((k + 1 : Nat) : Int) = (k : Int) + 1 by omega]; exact k5, k6⟩, k7⟩
  case done =>
    rintro D W hD ⟨h0, h1, h2, h3, hB⟩ hK
    have c0 := h0.cell
    have c1 := h1.cell
    have c2 := h2.cell
    have g2 := h2.frozen
    have c3 := h3.cell
    have q1 : (((len0 / 4 : Nat) : Int) == (len0 : Int) / 4) = true := by simp
    have q2 : (((len0 : Int) / 4) == (len0 : Int) / 4) = true := by simp
    go_wp2_with fail
    refine bodyPostM_done (v := .bool true) (D := D) (by rw [Below.heap_setCell _ _ _ D (by simp at hD ⊢; omega)]; exact hK) ?_ ⟨rfl, below_putObj (hB.trans ((Only.setCell _ _ _).below (by simp; omega))) _ (Nat.le_refl _) (by simp at hD; omega)⟩
    have hc := cell_putObj (D := D) (o' := .deferred none) (by rw [Below.heap_setCell _ _ _ D (by simp at hD ⊢; omega)]; exact hK) rfl (h2.set (.bool true)).cell
    simp [results, Try.f5, go_sem, hc]
  case stop =>
    rintro D c k W hD hk ⟨⟨rfl, hst⟩, h0, h1, h2, h3, hB⟩ hK
    have c0 := h0.cell
    have c1 := h1.cell
    have c2 := h2.cell
    have g2 := h2.frozen
    have c3 := h3.cell
    have q3 : ((k : Int) + 1 == a1) = true := by simp [hst]
    clear hst
    by_cases hq : (k : Int) + 1 = (len0 : Int) / 4
    · have q1 : ((k : Int) + 1 == (len0 : Int) / 4) = true := by simp [hq]
      clear hq
      go_wp2_with fail
      refine bodyPostM_done (v := .bool true) (D := D) (by rw [Below.heap_setCell _ _ _ D (by simp at hD ⊢; omega)]; exact hK) ?_ ⟨rfl, below_putObj (hB.trans ((Only.setCell _ _ _).below (by simp; omega))) _ (Nat.le_refl _) (by simp at hD; omega)⟩
      have hc := cell_putObj (D := D) (o' := .deferred none) (by rw [Below.heap_setCell _ _ _ D (by simp at hD ⊢; omega)]; exact hK) rfl (h2.set (.bool true)).cell
      simp [results, Try.f5, go_sem, hc]
    · have q1 : ((k : Int) + 1 == (len0 : Int) / 4) = false := by simp [hq]
      clear hq
      go_wp2_with fail
      refine bodyPostM_done (v := .bool true) (D := D) (by rw [Below.heap_setCell _ _ _ D (by simp at hD ⊢; omega)]; exact hK) ?_ ⟨rfl, below_putObj (hB.trans ((Only.setCell _ _ _).below (by simp; omega))) _ (Nat.le_refl _) (by simp at hD; omega)⟩
      have hc := cell_putObj (D := D) (o' := .deferred none) (by rw [Below.heap_setCell _ _ _ D (by simp at hD ⊢; omega)]; exact hK) rfl (h2.set (.bool true)).cell
      simp [results, Try.f5, go_sem, hc]
end Go.Proofs.Ytchljjlpennniaa
