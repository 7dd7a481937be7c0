/- SuperUnlike. -/
import Derived.Test.YtbbcckopkbiojaaDoorW6b
import Derived.Test.YtbbcckopkbiojaaDoorU6i
namespace Go.Proofs.YtbbcckopkbiojaaDoor
open Go.RowKit
set_option linter.unusedVariables false

theorem supH_at (G S I J O : Int) : supH G S I J O 4 = G ∧ supH G S I J O 5 = S ∧ supH G S I J O 6 = I ∧ supH G S I J O 7 = J ∧ supH G S I J O 8 = O % 65536 ∧ supH G S I J O 9 = O / 65536 := by
  simp [supH, geoH, upd2, upd]
/-- two superblocks that may be have one block just if they are the same -/
theorem unlike {G S I J O G' S' I' J' O' : Int} (h : supOk G S I J O = true) (h' : supOk G' S' I' J' O' = true) (hO : 0 ≤ O ∧ O < 4294967296) (hO' : 0 ≤ O' ∧ O' < 4294967296) :
    eqB (supZ G S I J O) (supZ G' S' I' J' O') 256 = eqS G S I J O G' S' I' J' O' := by
  rw [Bool.eq_iff_iff, eqS_iff]
  constructor
  · intro he
    rw [eqB_iff] at he
    have hh : ∀ k, k < 126 → supH G S I J O k = supH G' S' I' J' O' k := fun k hk => by
      rw [← hd_seal (supH_hvs (supOk_iff.1 h).1 hO) hk, ← hd_seal (supH_hvs (supOk_iff.1 h').1 hO') hk, ← supZ_yes h, ← supZ_yes h']
      unfold hd g16
      rw [he _ (by omega), he _ (by omega)]
    obtain ⟨a4, a5, a6, a7, a8, a9⟩ := supH_at G S I J O
    obtain ⟨b4, b5, b6, b7, b8, b9⟩ := supH_at G' S' I' J' O'
    have e4 := hh 4 (by omega); have e5 := hh 5 (by omega); have e6 := hh 6 (by omega); have e7 := hh 7 (by omega); have e8 := hh 8 (by omega); have e9 := hh 9 (by omega)
    rw [a4, b4] at e4; rw [a5, b5] at e5; rw [a6, b6] at e6; rw [a7, b7] at e7; rw [a8, b8] at e8; rw [a9, b9] at e9
    exact ⟨e4, e5, e6, e7, by omega⟩
  · rintro ⟨rfl, rfl, rfl, rfl, rfl⟩
    exact eqB_refl _ _

structure L6 (w : World) (G S I J O G' S' I' J' O' : Int) (W : World) : Prop where
  s : At W w.heap.size 26 (scells G S I J O)
  q : At W (w.heap.size + 1) 26 (scells G' S' I' J' O')
  t : Tab W
  bel : Below w.heap.size w W
theorem L6.below {w : World} {G S I J O G' S' I' J' O' : Int} {W W' : World} (h : L6 w G S I J O G' S' I' J' O' W) (hb : Below W.heap.size W W') : L6 w G S I J O G' S' I' J' O' W' := ⟨h.s.below hb h.s.lt, h.q.below hb h.q.lt, h.t.below hb (Nat.le_refl _), h.bel.trans (hb.mono h.bel.size)⟩
theorem L6.only {w : World} {G S I J O G' S' I' J' O' : Int} {W W' : World} {g : Nat} (h : L6 w G S I J O G' S' I' J' O' W) (hb : Only g W W') (hg : w.heap.size + 2 ≤ g) (hT : 0 < w.heap.size) : L6 w G S I J O G' S' I' J' O' W' :=
  ⟨h.s.only hb (by omega), h.q.only hb (by omega), h.t.only hb (by omega), h.bel.trans (hb.below (by omega))⟩
structure L6r (w : World) (x1 x2 : List Value) (g1 g2 : Nat) (z1 z2 : Nat → Int) (W : World) : Prop where
  s : W.rangeAt w.heap.size 0 x1
  q : W.rangeAt (w.heap.size + 1) 0 x2
  b1 : Blk W g1 29 256 z1
  b2 : Blk W g2 29 256 z2
  bel : Below w.heap.size w W

set_option maxRecDepth 100000 in
set_option maxHeartbeats 4000000 in
theorem superUnlike_walk (G S I J O : Int) (hO : 0 ≤ O ∧ O < 4294967296) (G' S' I' J' O' : Int) (hO' : 0 ≤ O' ∧ O' < 4294967296) (w : World) (hT : Tab w) :
    Calls Tryd.prog 5 #[sval G S I J O, sval G' S' I' J' O'] w fun e w' => e = .returned (.bool true) ∧ Below w.heap.size w w' := by
  have hal := zero_block
  have hTl := hT.lt
  have st0 : Hid (L6 w G S I J O G' S' I' J' O' ((w.alloc (.cells (scells G S I J O) 26)).alloc (.cells (scells G' S' I' J' O') 26))) := by
    refine ⟨(At.new w _ _).alloc _, ?_, (hT.alloc _).alloc _, ((Below.refl _ _).alloc (Nat.le_refl _) _).alloc (by simp) _⟩
    have := At.new (w.alloc (.cells (scells G S I J O) 26)) 26 (scells G' S' I' J' O')
    simp only [World.size_alloc] at this
    exact this
  have H1 : Hid (supE G S I J O = 0 → supE G' S' I' J' O' = 0 → eqB (supZ G S I J O) (supZ G' S' I' J' O') 256 = eqS G S I J O G' S' I' J' O') := fun h h' => unlike (supE_iff.1 h) (supE_iff.1 h') hO hO'
  clear hT
  go_enter Tryd.func5, Tryd.ntmps5
  go_wp2_with fail
  refine (awake6 _ st0.out.t).mono ?_
  rintro e w1 ⟨rfl, hb1⟩
  have st1 := st0.out.below hb1
  have hs1 := st1.s
  clear st0 hb1
  go_wp2_with (first | (refine wp_loadAtG rfl 26 (.tmp 2) rfl _ _ _ rfl hs1 Tryd.underlying26 rfl (by kernel_rfl) ?_))
  refine (superWrite_any G S I J O hO _ st1.t).mono ?_
  rintro e w2 ⟨rfl, hb2⟩
  have st2 := st1.below hb2
  have hn2 := Blk.new w2 29 256 (fun _ => 0)
  have hlt2 := st2.q.lt
  clear st1 hs1 hb2
  go_wp2_with (first | (refine wp_storeBlk rfl (.tmp 5) (.tmp 14) rfl w2.heap.size (supZ G S I J O) _ rfl rfl hn2 ?_))
  intro w3 hB3 ho3
  have st3 := (st2.below ((Below.refl _ _).alloc (Nat.le_refl _) (.cells (Ks .u8 256 (fun _ => 0)).toArray 29))).only ho3 (by omega) hTl
  have hq3 := st3.q
  obtain ⟨g1, hg1⟩ : ∃ g1, w2.heap.size = g1 := ⟨_, rfl⟩
  rw [hg1] at hB3 hlt2 ⊢
  clear st2 hn2 ho3 hg1
  go_wp2_with (first | (refine wp_loadAtG rfl 26 (.tmp 3) rfl _ _ _ rfl hq3 Tryd.underlying26 rfl (by kernel_rfl) ?_))
  refine (superWrite_any G' S' I' J' O' hO' _ st3.t).mono ?_
  rintro e w4 ⟨rfl, hb4⟩
  have st4 := st3.below hb4
  have hB4 := hB3.below hb4 hB3.lt
  have hn4 := Blk.new w4 29 256 (fun _ => 0)
  have hlt4 := hB4.lt
  clear st3 hq3 hb4 hB3
  go_wp2_with (first | (refine wp_storeBlk rfl (.tmp 7) (.tmp 19) rfl w4.heap.size (supZ G' S' I' J' O') _ rfl rfl hn4 ?_))
  intro w5 hB5 ho5
  have st5 := (st4.below ((Below.refl _ _).alloc (Nat.le_refl _) (.cells (Ks .u8 256 (fun _ => 0)).toArray 29))).only ho5 (by omega) hTl
  have hC5 : Blk w5 g1 29 256 (supZ G S I J O) := (hB4.alloc _).only ho5 (by omega)
  obtain ⟨g2, hg2⟩ : ∃ g2, w4.heap.size = g2 := ⟨_, rfl⟩
  rw [hg2] at hB5 hlt4 ⊢
  clear st4 hn4 ho5 hB4 hg2
  have st6 : L6r w (scells G S I J O).toList (scells G' S' I' J' O').toList g1 g2 (supZ G S I J O) (supZ G' S' I' J' O') w5 := ⟨st5.s.range, st5.q.range, hC5, hB5, st5.bel⟩
  clear st5 hC5 hB5
  have hq1 : ∀ W, (binOp .eql 29 (bval (supZ G S I J O)) (bval (supZ G' S' I' J' O'))).run Tryd.prog W = .ok (.bool (eqB (supZ G S I J O) (supZ G' S' I' J' O') 256)) W := fun W => run_eql_block _ _ W
  have hq2 : ∀ W, (binOp .eql 26 (sval G S I J O) (sval G' S' I' J' O')).run Tryd.prog W = .ok (.bool (eqS G S I J O G' S' I' J' O')) W := fun W => run_eql_super _ _ _ _ _ _ _ _ _ _ W
  have HQ1 := Lib.hid hq1
  have HQ2 := Lib.hid hq2
  clear hq1 hq2
  generalize supE G S I J O = e1 at *
  generalize supE G' S' I' J' O' = e2 at *
  generalize eqB (supZ G S I J O) (supZ G' S' I' J' O') 256 = q1 at *
  generalize eqS G S I J O G' S' I' J' O' = q2 at *
  obtain ⟨c1, hc1⟩ : ∃ c, (e1 != 0) = c := ⟨_, rfl⟩
  obtain ⟨c2, hc2⟩ : ∃ c, (e2 != 0) = c := ⟨_, rfl⟩
  have HX : Hid (c1 = false → c2 = false → q1 = q2) := fun h h' => H1.out (by rw [h] at hc1; simpa using hc1) (by rw [h'] at hc2; simpa using hc2)
  clear H1
  cases c1 with
  | true =>
    clear HX HQ1 HQ2
    go_wp2_with fail
    refine wp_region_S (L6r w (scells G S I J O).toList (scells G' S' I' J' O').toList g1 g2 (supZ G S I J O) (supZ G' S' I' J' O')) (by kernel_rfl) (by kernel_rfl) ⟨st6.s, st6.q, st6.b1, st6.b2, st6.bel.drew⟩ ?_
    clear st6
    intro hne
    repeat first | go_big_quiet_skip | (go_big_quiet_want; go_big_quiet_op; go_big_quiet_on)
    refine wpQuiet_nil ?_
    intro w6 h6
    have hL6 : Below w.heap.size w w6 := h6.out.bel
    clear h6 hne
    go_wp2_with fail
    go_ret
    exact ⟨rfl, hL6⟩
  | false =>
  cases c2 with
  | true =>
    clear HX HQ1 HQ2
    go_wp2_with fail
    refine wp_region_S (L6r w (scells G S I J O).toList (scells G' S' I' J' O').toList g1 g2 (supZ G S I J O) (supZ G' S' I' J' O')) (by kernel_rfl) (by kernel_rfl) ⟨st6.s, st6.q, st6.b1, st6.b2, st6.bel.drew⟩ ?_
    clear st6
    intro hne
    repeat first | go_big_quiet_skip | (go_big_quiet_want; go_big_quiet_op; go_big_quiet_on)
    refine wpQuiet_nil ?_
    intro w6 h6
    have hL6 : Below w.heap.size w w6 := h6.out.bel
    clear h6 hne
    go_wp2_with fail
    go_ret
    exact ⟨rfl, hL6⟩
  | false =>
    have hqq := HX.out rfl rfl
    subst hqq
    have hqe : (q1 == q1) = true := by cases q1 <;> rfl
    have hq1 := HQ1.out
    have hq2 := HQ2.out
    clear HX HQ1 HQ2
    go_wp2_with fail
    refine wp_region_S (L6r w (scells G S I J O).toList (scells G' S' I' J' O').toList g1 g2 (supZ G S I J O) (supZ G' S' I' J' O')) (by kernel_rfl) (by kernel_rfl) ⟨st6.s, st6.q, st6.b1, st6.b2, st6.bel.drew⟩ ?_
    clear st6
    intro hne
    first | go_big_quiet_skip | (go_big_quiet_want; go_big_quiet_op; go_big_quiet_on)
    first | go_big_quiet_skip | (go_big_quiet_want; go_big_quiet_op; go_big_quiet_on)
    first | go_big_quiet_skip | (go_big_quiet_want; go_big_quiet_op; go_big_quiet_on)
    first | go_big_quiet_skip | (go_big_quiet_want; go_big_quiet_op; go_big_quiet_on)
    first | go_big_quiet_skip | (go_big_quiet_want; go_big_quiet_op; go_big_quiet_on)
    first | go_big_quiet_skip | (go_big_quiet_want; go_big_quiet_op; go_big_quiet_on)
    first | go_big_quiet_skip | (go_big_quiet_want; go_big_quiet_op; go_big_quiet_on)
    refine q_load rfl 29 (.tmp 5) rfl _ _ rfl (Ks .u8 256 (supZ G S I J O)) _ (fun W h => h.b1.range) Tryd.underlying29 rfl (by rw [Ks_length]; exact info_block) ?_
    refine wpQuiet_frame (by simp only [Act.put, List.setIfInBounds_toArray, List.set_cons_succ, List.set_cons_zero]; exact rfl) ?_
    refine q_load rfl 29 (.tmp 7) rfl _ _ rfl (Ks .u8 256 (supZ G' S' I' J' O')) _ (fun W h => h.b2.range) Tryd.underlying29 rfl (by rw [Ks_length]; exact info_block) ?_
    refine wpQuiet_frame (by simp only [Act.put, List.setIfInBounds_toArray, List.set_cons_succ, List.set_cons_zero]; exact rfl) ?_
    first | go_big_quiet_skip | (go_big_quiet_want; go_big_quiet_op; go_big_quiet_on)
    refine q_load rfl 26 (.tmp 2) rfl _ _ rfl (scells G S I J O).toList _ (fun W h => h.s) Tryd.underlying26 rfl (by kernel_rfl) ?_
    refine wpQuiet_frame (by simp only [Act.put, List.setIfInBounds_toArray, List.set_cons_succ, List.set_cons_zero]; exact rfl) ?_
    refine q_load rfl 26 (.tmp 3) rfl _ _ rfl (scells G' S' I' J' O').toList _ (fun W h => h.q) Tryd.underlying26 rfl (by kernel_rfl) ?_
    refine wpQuiet_frame (by simp only [Act.put, List.setIfInBounds_toArray, List.set_cons_succ, List.set_cons_zero]; exact rfl) ?_
    repeat first | go_big_quiet_skip | (go_big_quiet_want; go_big_quiet_op; go_big_quiet_on)
    refine wpQuiet_nil ?_
    intro w6 h6
    have hL6 : Below w.heap.size w w6 := h6.out.bel
    clear h6 hne
    go_wp2_with fail
    go_ret
    exact ⟨rfl, hL6⟩
end Go.Proofs.YtbbcckopkbiojaaDoor
