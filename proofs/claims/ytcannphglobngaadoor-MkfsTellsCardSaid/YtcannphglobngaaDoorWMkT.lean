/- MkfsTells. -/
import Derived.Test.YtcannphglobngaaDoorMkG
import Derived.Test.YtcannphglobngaaDoorU6i
import Derived.Test.YtcannphglobngaaDoorU6j
import Derived.Test.YtcannphglobngaaDoorNew
namespace Go.Proofs.YtcannphglobngaaDoor
open Go.RowKit
set_option linter.unusedVariables false

/-- what stands while the image is read -/
structure TlR (w : World) (g s i j q n p : Nat) (t : Mv.St) (W : World) : Prop where
  ge : At W w.heap.size 23 (gcells g s i j)
  im : RArr W q 32 256 n (fun b => Ks .u8 256 (mkB g s i j b))
  su : At W p 42 (scells g s i j 0)
  ta : Tab W
  bel : Below w.heap.size w W
  d : t.n = 1 → RMine W (w.heap.size + 1) 50 3 t.v g (df (dkB g s i j) (dkI i) dkD)
/-- what stands while the descriptors are gone over -/
structure TlS (w : World) (g s i j gd : Nat) (W : World) : Prop where
  ge : At W w.heap.size 23 (gcells g s i j)
  d : ∀ k, k < g → W.rangeAt gd (k * 3) (df (dkB g s i j) (dkI i) dkD k)
  l : gd < W.heap.size
  n : w.heap.size < gd
  bel : Below w.heap.size w W
theorem TlS.below {w W W' : World} {g s i j gd : Nat} (h : TlS w g s i j gd W) (hb : Below W.heap.size W W') : TlS w g s i j gd W' :=
  ⟨h.ge.below hb h.ge.lt, fun k hk => rangeAt_below (h.d k hk) hb h.l, Nat.lt_of_lt_of_le h.l hb.size, h.n, h.bel.trans (hb.mono h.bel.size)⟩
theorem TlS.only {w W W' : World} {g s i j gd p : Nat} (h : TlS w g s i j gd W) (ho : Only p W W') (h1 : w.heap.size < p) (h2 : gd ≠ p) : TlS w g s i j gd W' :=
  ⟨h.ge.only ho (by omega), fun k hk n v hv => (ho.cell (p := ⟨gd, k * 3 + n, none⟩) h2).trans (h.d k hk n v hv), by rw [ho.size]; exact h.l, h.n, h.bel.trans (ho.below (by omega))⟩
structure TlV (w : World) (g s i j gd p : Nat) (x y v : Int) (W : World) : Prop where
  st : TlS w g s i j gd W
  v : At W p 50 (dcells x y v)

set_option maxRecDepth 100000 in
set_option maxHeartbeats 8000000 in
theorem mkfsTells_walk (G S I J : Int) (w : World) (hT : Tab w) :
    Calls Tryd.prog 6 #[gval G S I J] w fun e w' => e = .returned (.bool true) ∧ Below w.heap.size w w' := by
  have hal := zero_block
  have hals := zero_super
  have hald := zero_desc
  have hs0 := At.new w 23 (gcells G S I J)
  have HL0 : Hid (Below w.heap.size w (w.alloc (.cells (gcells G S I J) 23))) := (Below.refl _ _).alloc (Nat.le_refl _) _
  have HT0 := Lib.hid (hT.alloc (.cells (gcells G S I J) 23))
  have hTl := hT.lt
  clear hT
  go_enter Tryd.func6, Tryd.ntmps6
  go_wp2_with fail
  refine (awake21 _ HT0.out).mono ?_
  rintro e w1 ⟨rfl, hb1⟩
  have hs1 := hs0.below hb1 hs0.lt
  have HL1 := Lib.hid (HL0.out.trans (hb1.mono HL0.out.size))
  have HT1 := Lib.hid (HT0.out.below hb1 (Nat.le_refl _))
  clear hs0 HL0 HT0 hb1
  go_wp2_with (first | (refine wp_loadAtG rfl 23 (.tmp 1) rfl _ _ _ rfl hs1 Tryd.underlying23 rfl (by kernel_rfl) ?_))
  cases hm : mayG G S I J with
  | false =>
    refine (make_no G S I J hm _).mono ?_
    rintro e w2 ⟨rfl, hb2⟩
    have hs2 := hs1.below hb2 hs1.lt
    have HL2 := Lib.hid (HL1.out.trans (hb2.mono HL1.out.size))
    have HM := Lib.hid hm
    clear hm hs1 HL1 HT1 hb2
    go_wp2_with (first | (refine wp_loadAtG rfl 23 (.tmp 1) rfl _ _ _ rfl hs2 Tryd.underlying23 rfl (by kernel_rfl) ?_))
    refine (geoMay_any G S I J _).mono ?_
    rintro e w3 ⟨rfl, hb3⟩
    rw [HM.out]
    have HL3 := Lib.hid (HL2.out.trans (hb3.mono HL2.out.size))
    clear hs2 HL2 hb3
    go_wp2_with fail
    go_ret
    exact ⟨rfl, HL3.out⟩
  | true =>
  obtain ⟨a1, a2, a3, a4, a5, a6, a7, a8, a9, a10, a11⟩ := (mayG_iff G S I J).1 hm
  obtain ⟨g, rfl⟩ : ∃ g : Nat, G = (g : Int) := ⟨G.toNat, by omega⟩
  obtain ⟨s, rfl⟩ : ∃ s : Nat, S = (s : Int) := ⟨S.toNat, by omega⟩
  obtain ⟨i, rfl⟩ : ∃ i : Nat, I = (i : Int) := ⟨I.toNat, by omega⟩
  obtain ⟨j, rfl⟩ : ∃ j : Nat, J = (j : Int) := ⟨J.toNat, by omega⟩
  clear a1 a2 a3 a4 a5 a6 a7 a8 a9 a10 a11
  have HM := Lib.hid hm
  refine (make_yes g s i j hm _ HT1.out).mono ?_
  rintro e w2 ⟨q, rfl, hi2⟩
  obtain ⟨b1, b2, b3, b4, b5, b6, b7, b8, b9, b10, b11⟩ := mayN hm
  have hrg0 : w2.rangeAt q 0 (Ks .u8 256 (supZ g s i j 0)) := by
    have := hi2.a.seg.range 0 (by omega)
    rw [Nat.zero_add, Nat.zero_mul, mkB_0 b8] at this
    exact this
  have hs2 := hs1.below hi2.bel hs1.lt
  have HL2 := Lib.hid (HL1.out.trans (hi2.bel.mono HL1.out.size))
  have HT2 := Lib.hid (HT1.out.below hi2.bel (Nat.le_refl _))
  have hsup := sup_back (supOk0 hm) (by decide : (0 : Int) ≤ 0 ∧ (0 : Int) < 4294967296)
  have HSUP := Lib.hid hsup
  have hds := desc_back (descOk0 hm)
  have HDS := Lib.hid hds
  obtain ⟨n, hn⟩ : ∃ n, n = 2 + j + g * s := ⟨_, rfl⟩
  have hn2 : 1 < n := by omega
  have HI : Hid (MkImg w1 g s i j q w2 ∧ n = 2 + j + g * s) := ⟨hi2, hn⟩
  rw [← hn]
  clear hn hds
  clear hm hs1 HL1 HT1 hi2 hsup
  have HS2 := Lib.hid hs2
  clear hs2
  go_wp2_with (first | (refine wp_loadRange rfl 32 _ rfl q 0 (Ks .u8 256 (supZ g s i j 0)) _ rfl hrg0 Tryd.underlying32 rfl (by rw [Ks_length]; exact info_block) ?_))
  refine (superRead_any (supZ g s i j 0) (supZ_byt _ _ _ _ _) _ HT2.out).mono ?_
  rintro e w3 ⟨rfl, hb3⟩
  rw [HSUP.out.1, HSUP.out.2]
  obtain ⟨p, hp⟩ : ∃ p, p = w3.heap.size := ⟨_, rfl⟩
  have hwp : w.heap.size < p := by have := (HS2.out.below hb3 HS2.out.lt).lt; omega
  obtain ⟨W4, hW4⟩ : ∃ W4, W4 = w3.alloc (.cells (scells g s i j 0) 42) := ⟨_, rfl⟩
  have st4 : TlR w g s i j q n p ⟨0, undef⟩ W4 := by
    have hL3 := HL2.out.trans (hb3.mono HL2.out.size)
    have ha := HI.out.1.a
    rw [← HI.out.2] at ha
    rw [hW4, hp]
    exact ⟨(HS2.out.below hb3 HS2.out.lt).alloc _, (ha.below hb3).alloc _, At.new _ _ _, (HT2.out.below hb3 (Nat.le_refl _)).alloc _, hL3.alloc hL3.size _, fun h => by cases h⟩
  have ST4 := Lib.hid st4
  have HW4 := Lib.hid hW4
  have HP := Lib.hid hp
  clear st4 hW4 hp hb3 HS2 HL2 HT2 HI HSUP hrg0
  go_wp2_with fail
  rw [← HW4.out, ← HP.out]
  clear HW4 HP
  refine Mv.wp_region_mc (TlR w g s i j q n p) ⟨0, undef⟩ (by kernel_rfl) (by kernel_rfl) (by kernel_rfl) ⟨ST4.out.ge, ST4.out.im.of_block rfl, ST4.out.su, ST4.out.ta, ST4.out.bel.drew, fun h => by cases h⟩ ?_
  clear ST4
  intro hne
  (refine Mv.lin_take 4 (by kernel_rfl) ?_; simp only [List.take_succ_cons, List.take_zero, List.drop_succ_cons, List.drop_zero])
  refine q_load rfl 23 (.tmp 1) rfl _ _ rfl (gcells g s i j).toList _ (fun W h => by obtain ⟨_, h⟩ := h; exact h.ge.range) Tryd.underlying23 rfl (by kernel_rfl) ?_
  refine wpQuiet_frame (by simp only [Act.put, List.setIfInBounds_toArray, List.set_cons_succ, List.set_cons_zero]; exact rfl) ?_
  first | go_big_quiet_skip | (go_big_quiet_want; go_big_quiet_op; go_big_quiet_on)
  first | go_big_quiet_skip | (go_big_quiet_want; go_big_quiet_op; go_big_quiet_on)
  refine q_load rfl 32 (.tmp 38) rfl _ _ rfl (Ks .u8 256 (descZ g s i j g (dkB g s i j) (dkI i) dkD)) _ (fun W h => by
    obtain ⟨_, h⟩ := h
    have := h.im.seg.range 1 hn2
    rw [mkB_1 b8] at this
    exact this) Tryd.underlying32 rfl (by rw [Ks_length]; exact info_block) ?_
  refine wpQuiet_frame (by simp only [Act.put, List.setIfInBounds_toArray, List.set_cons_succ, List.set_cons_zero]; exact rfl) ?_
  refine wpQuiet_nil ?_
  refine Mv.lin_callE rfl rfl 15 #[gval g s i j, bval (descZ g s i j g (dkB g s i j) (dkI i) dkD)] (fun W => by kernel_rfl) (fun W hW => ?_)
  refine (superReadDescs_any g s i j _ (descZ_byt _ _ _ _ _ _ _ _) W hW.ta).mono ?_
  rintro e w5 ⟨v, E, rfl, hpost, hb5⟩
  obtain ⟨d1, d2, d3⟩ := HDS.out
  rcases hpost with ⟨_, rfl, hM⟩ | ⟨hno, _⟩
  rotate_left
  · rw [d1] at hno; cases hno
  rw [d2] at hM
  have hM2 : RMine w5 (w.heap.size + 1) 50 3 v g (df (dkB g s i j) (dkI i) dkD) := (hM.low (by have := hW.ge.lt; omega)).congr fun k hk => by
    obtain ⟨r1, r2, r3⟩ := d3 k hk
    unfold df; rw [r1, r2, r3]
  obtain ⟨gd, cap, rfl, hgd, hgl, _, _⟩ := hM2.form' (by omega)
  refine ⟨_, ⟨1, .slice (some ⟨gd, 0, none⟩) g cap⟩, rfl, ⟨hW.ge.below hb5 hW.ge.lt, hW.im.below hb5, hW.su.below hb5 hW.su.lt, hW.ta.below hb5 (Nat.le_refl _), hW.bel.trans (hb5.mono hW.bel.size), fun _ => hM2⟩, ?_⟩
  clear hW hb5 hM hM2 d1 d2 d3 hgl HDS
  refine Mv.frame (by simp only [Act.put, List.setIfInBounds_toArray, List.set_cons_succ, List.set_cons_zero]; exact rfl) ?_
  (refine Mv.lin_take 5 (by kernel_rfl) ?_; simp only [List.take_succ_cons, List.take_zero, List.drop_succ_cons, List.drop_zero])
  first | go_big_quiet_skip | (go_big_quiet_want; go_big_quiet_op; go_big_quiet_on)
  first | go_big_quiet_skip | (go_big_quiet_want; go_big_quiet_op; go_big_quiet_on)
  first | go_big_quiet_skip | (go_big_quiet_want; go_big_quiet_op; go_big_quiet_on)
  first | go_big_quiet_skip | (go_big_quiet_want; go_big_quiet_op; go_big_quiet_on)
  first | go_big_quiet_skip | (go_big_quiet_want; go_big_quiet_op; go_big_quiet_on)
  refine wpQuiet_nil ?_
  refine Mv.wpLin_nil ?_
  intro w6 h6
  have hgs := h6.ge
  have hss := h6.su
  have hc0 : w6.cell? ⟨w.heap.size, 0, none⟩ = some (.int .i64 (g : Int)) := hgs.cell (i := 0) rfl
  have hM6 := h6.d rfl
  obtain ⟨gd', cap', he, _, hgl6, _, _⟩ := hM6.form' (by omega)
  injection he with he1 he2 he3
  injection he1 with he1
  injection he1 with he1
  subst he1
  have st6 : Hid (TlS w g s i j gd w6) := ⟨hgs, fun k hk => by
    have := (hM6.seg (df_len _ _ _)).range k hk
    rwa [Nat.zero_add] at this, hgl6, by omega, h6.bel⟩
  have hne0 : ∀ W, (binOp .neq 42 (sval g s i j 0) (sval g s i j 0)).run Tryd.prog W = .ok (.bool false) W := fun W => by
    rw [run_neq_super, eqS_iff.2 ⟨rfl, rfl, rfl, rfl, rfl⟩]; rfl
  clear he3 hM6 h6 hne
  go_wp2_with (first | (refine wp_loadAtG rfl 42 (.tmp 5) rfl _ _ _ rfl hss Tryd.underlying42 rfl (by kernel_rfl) ?_) | (refine wp_loadAtG rfl 23 (.tmp 1) rfl _ _ _ rfl hgs Tryd.underlying23 rfl (by kernel_rfl) ?_))
  clear hgs hss hc0 hne0 he2
  go_loopw [9, 10] (fun u _ wr => ∃ k : Nat, k ≤ g ∧ u = .int .i64 (k : Int) ∧ TlS w g s i j gd wr) (fun u _ _ => g - (intOf u).toNat)
  case atStart => exact ⟨0, by omega, rfl, st6.out⟩
  case round =>
    clear st6
    obtain ⟨k, hk, rfl, st⟩ := hrel
    by_cases hlt : k < g
    · have hlt' : (k : Int) < (g : Int) := by omega
      go_wp2_with fail
      apply wp_region_new (TlS w g s i j gd) 5 10 50 (dcells 0 0 0) (gd + 1) (A := _) (by kernel_rfl) (by kernel_rfl) (by kernel_rfl) (by kernel_rfl) (by kernel_rfl) (by kernel_rfl) (by kernel_rfl) _ rfl rfl rfl (fun a W => by kernel_rfl) (fun W W' h hb => h.below hb) (fun W h => h.l) ⟨st.ge, st.d, st.l, st.n, st.bel.drew⟩
      case h =>
        intro R hR hne
        have hc2 : ∀ y : InW (fun W => TlS w g s i j gd W ∧ R W), y.W.cell? ⟨w.heap.size, 2, none⟩ = some (.int .i64 (i : Int)) := fun y => y.h.1.ge.cell (i := 2) rfl
        simp only [List.take_succ_cons, List.take_zero]
        refine q_load rfl 23 (.tmp 1) rfl _ _ rfl (gcells g s i j).toList _ (fun W h => h.1.ge.range) Tryd.underlying23 rfl (by kernel_rfl) ?_
        refine wpQuiet_frame (by simp only [Act.put, List.setIfInBounds_toArray, List.set_cons_succ, List.set_cons_zero]; exact rfl) ?_
        go_big_quiet_want
        go_big_quiet_op
        refine ⟨_, fun y => q_call y (fun W hW => (geoData_any g s i j W).mono fun e w' h => ⟨h.1, hW.1.below h.2, hR W w' hW.2 h.2⟩), ?_⟩
        go_big_quiet_on
        first | go_big_quiet_skip | (go_big_quiet_want; go_big_quiet_op; go_big_quiet_on)
        first | go_big_quiet_skip | (go_big_quiet_want; go_big_quiet_op; go_big_quiet_on)
        first | go_big_quiet_skip | (go_big_quiet_want; go_big_quiet_op; go_big_quiet_on)
        exact wpQuiet_nil rfl
      case hcont =>
      intro w7 pd st7 hp hbp
      simp only [List.drop_succ_cons, List.drop_zero, Act.put, List.setIfInBounds_toArray, List.set_cons_succ, List.set_cons_zero]
      have hV7 : At w7 pd 50 (dcells 0 0 0) := hp
      clear hp st
      go_wp2_with (first | (refine wp_storeAt rfl 50 _ _ rfl _ (dcells (nDa g s i j) i 0) _ rfl rfl hV7 info_desc rfl (all_d _ _ _) ?_))
      intro w8 hV8 ho8
      have st8 : Hid (TlV w g s i j gd pd (nDa g s i j) i 0 w8) := ⟨st7.only ho8 (by have := st7.n; omega) (by omega), hV8⟩
      have hpd : w.heap.size < pd ∧ gd ≠ pd := ⟨by have := st7.n; omega, by omega⟩
      have ee : IntKind.i64.wrap ((i : Int) - 1) = (i : Int) - 1 := IntWalk.i64_in _ (by omega)
      have c2 : w8.cell? ⟨w.heap.size, 2, none⟩ = some (.int .i64 (i : Int)) := st8.out.st.ge.cell (i := 2) rfl
      have d1 : w8.cell? ⟨pd, 1, none⟩ = some (.int .i64 (i : Int)) := hV8.cell (i := 1) rfl
      have d2 : w8.cell? ⟨pd, 2, none⟩ = some (.int .i64 0) := hV8.cell (i := 2) rfl
      have f1 : w8.frozen? ⟨pd, 1, none⟩ = false := soft_of_heap hV8 1
      have f2 : w8.frozen? ⟨pd, 2, none⟩ = false := soft_of_heap hV8 2
      clear st7 hV7 ho8 hV8
      by_cases hk0 : k = 0
      · have hkz : ((k : Int) == 0) = true := by rw [beq_iff_eq]; omega
        have HD : Hid (df (dkB g s i j) (dkI i) dkD k = (dcells (nDa g s i j) ((i : Int) - 1) 1).toList) := by show _ = _; subst hk0; rfl
        have st9 : Hid (TlV w g s i j gd pd (nDa g s i j) ((i : Int) - 1) 1 ((w8.setCell ⟨pd, 1, none⟩ (.int .i64 ((i : Int) - 1))).setCell ⟨pd, 2, none⟩ (.int .i64 1))) :=
          ⟨(st8.out.st.only (Only.setCell _ ⟨pd, 1, none⟩ _) hpd.1 hpd.2).only (Only.setCell _ ⟨pd, 2, none⟩ _) hpd.1 hpd.2, (st8.out.v.setCell 1 _).setCell 2 _⟩
        clear hk0 st8
        go_wp2_with fail
        refine wp_region_S (TlV w g s i j gd pd (nDa g s i j) ((i : Int) - 1) 1) (by kernel_rfl) (by kernel_rfl) ⟨⟨st9.out.st.ge, st9.out.st.d, st9.out.st.l, st9.out.st.n, st9.out.st.bel.drew⟩, st9.out.v⟩ ?_
        clear st9
        intro hne
        first | go_big_quiet_skip | (go_big_quiet_want; go_big_quiet_op; go_big_quiet_on)
        first | go_big_quiet_skip | (go_big_quiet_want; go_big_quiet_op; go_big_quiet_on)
        first | go_big_quiet_skip | (go_big_quiet_want; go_big_quiet_op; go_big_quiet_on)
        refine q_load rfl 50 (.tmp 82) rfl _ _ rfl (dcells (nDa g s i j) ((i : Int) - 1) 1).toList _ (fun W h => by
          have := h.st.d k hlt
          rw [HD.out] at this
          exact this) Tryd.underlying50 rfl (by kernel_rfl) ?_
        refine wpQuiet_frame (by simp only [Act.put, List.setIfInBounds_toArray, List.set_cons_succ, List.set_cons_zero]; exact rfl) ?_
        refine q_load rfl 50 (.tmp 10) rfl _ _ rfl (dcells (nDa g s i j) ((i : Int) - 1) 1).toList _ (fun W h => h.v.range) Tryd.underlying50 rfl (by kernel_rfl) ?_
        refine wpQuiet_frame (by simp only [Act.put, List.setIfInBounds_toArray, List.set_cons_succ, List.set_cons_zero]; exact rfl) ?_
        refine q_val rfl (.bool false) (fun W => by
          refine Eq.trans (b := ((do pure (.value (← binOp .neq 50 (dval (nDa g s i j) ((i : Int) - 1) 1) (dval (nDa g s i j) ((i : Int) - 1) 1)))) : Sem Next).run Tryd.prog W) (by kernel_rfl) ?_
          rw [Sem.run_bind, run_neq_desc, show eqD (nDa g s i j) ((i : Int) - 1) 1 (nDa g s i j) ((i : Int) - 1) 1 = true by unfold eqD; simp]; rfl) ?_
        refine wpQuiet_frame (by simp only [Act.put, List.setIfInBounds_toArray, List.set_cons_succ, List.set_cons_zero]; exact rfl) ?_
        refine wpQuiet_nil ?_
        intro w9 h9
        have st9 := h9.out.st
        clear h9 hne
        go_wp2_with fail
        go_roundw
        case rel => first | exact ⟨k + 1, by omega, by go_num, st9⟩ | exact ⟨k + 1, by omega, rfl, st9⟩
        case measure => simp [intOf]; omega
      · have hkz : ((k : Int) == 0) = false := by rw [beq_eq_false_iff_ne]; omega
        have HD : Hid (df (dkB g s i j) (dkI i) dkD k = (dcells (nDa g s i j) (i : Int) 0).toList) := by show _ = _; unfold df dkB dkI dkD; rw [if_neg hk0, if_neg hk0]
        clear hk0
        go_wp2_with fail
        refine wp_region_S (TlV w g s i j gd pd (nDa g s i j) (i : Int) 0) (by kernel_rfl) (by kernel_rfl) ⟨⟨st8.out.st.ge, st8.out.st.d, st8.out.st.l, st8.out.st.n, st8.out.st.bel.drew⟩, st8.out.v⟩ ?_
        clear st8
        intro hne
        first | go_big_quiet_skip | (go_big_quiet_want; go_big_quiet_op; go_big_quiet_on)
        first | go_big_quiet_skip | (go_big_quiet_want; go_big_quiet_op; go_big_quiet_on)
        first | go_big_quiet_skip | (go_big_quiet_want; go_big_quiet_op; go_big_quiet_on)
        refine q_load rfl 50 (.tmp 82) rfl _ _ rfl (dcells (nDa g s i j) (i : Int) 0).toList _ (fun W h => by
          have := h.st.d k hlt
          rw [HD.out] at this
          exact this) Tryd.underlying50 rfl (by kernel_rfl) ?_
        refine wpQuiet_frame (by simp only [Act.put, List.setIfInBounds_toArray, List.set_cons_succ, List.set_cons_zero]; exact rfl) ?_
        refine q_load rfl 50 (.tmp 10) rfl _ _ rfl (dcells (nDa g s i j) (i : Int) 0).toList _ (fun W h => h.v.range) Tryd.underlying50 rfl (by kernel_rfl) ?_
        refine wpQuiet_frame (by simp only [Act.put, List.setIfInBounds_toArray, List.set_cons_succ, List.set_cons_zero]; exact rfl) ?_
        refine q_val rfl (.bool false) (fun W => by
          refine Eq.trans (b := ((do pure (.value (← binOp .neq 50 (dval (nDa g s i j) (i : Int) 0) (dval (nDa g s i j) (i : Int) 0)))) : Sem Next).run Tryd.prog W) (by kernel_rfl) ?_
          rw [Sem.run_bind, run_neq_desc, show eqD (nDa g s i j) (i : Int) 0 (nDa g s i j) (i : Int) 0 = true by unfold eqD; simp]; rfl) ?_
        refine wpQuiet_frame (by simp only [Act.put, List.setIfInBounds_toArray, List.set_cons_succ, List.set_cons_zero]; exact rfl) ?_
        refine wpQuiet_nil ?_
        intro w9 h9
        have st9 := h9.out.st
        clear h9 hne
        go_wp2_with fail
        go_roundw
        case rel => first | exact ⟨k + 1, by omega, by go_num, st9⟩ | exact ⟨k + 1, by omega, rfl, st9⟩
        case measure => simp [intOf]; omega
    · obtain rfl : k = g := by omega
      have HL := Lib.hid st.bel
      clear st
      go_wp2_with fail
      go_ret
      exact ⟨rfl, HL.out⟩
end Go.Proofs.YtcannphglobngaaDoor
