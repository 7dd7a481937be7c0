/- Texts of this claim, merged by a program (a claim may have 60 files): Sw2. -/
import Derived.Test.YtnbmmhoofilmfaaDoorK40
/- quernlaw18: Many, great, outside; quernref18.SameAll. -/
namespace Go.Proofs.YtnbmmhoofilmfaaDoor
open Go.RowKit
set_option linter.unusedVariables false

/-- few transactions -/
def Few (n : Nat) (D : Nat → TD) : Prop := n ≤ 60 ∧ ∀ i, i < n → (D i).rn ≤ 2000 ∧ (D i).vn ≤ 2000
def FewPost (n : Nat) (D : Nat → TD) (w : World) (e : Ending) (w' : World) : Prop := ∃ x : Bool, e = .returned (.bool x) ∧ (x = false → Few n D) ∧ Below w.heap.size w w'
theorem Tds.drew {W : World} {a : Option Addr} {n : Nat} {D : Nat → TD} (h : Tds W a n D) (k : Nat) : Tds { W with drawn := k } a n D := h.below ⟨rfl, rfl, rfl, Nat.le_refl _, fun _ _ => rfl⟩
theorem Tds.at {W : World} {a : Option Addr} {n : Nat} {D : Nat → TD} (h : Tds W a n D) {i : Nat} (hi : i < n) : ∃ b off, a = some ⟨b, off, none⟩ := by
  rcases h.row with h0 | ⟨b, off, e, _⟩
  · omega
  · exact ⟨b, off, e⟩
theorem Tds.cell {W : World} {b off : Nat} {n : Nat} {D : Nat → TD} (h : Tds W (some ⟨b, off, none⟩) n D) {i : Nat} (hi : i < n) : W.cell? ⟨b, off + i * 4 + 1, none⟩ = some (.slice (D i).ra (D i).rn (D i).rc) ∧ W.cell? ⟨b, off + i * 4 + 2, none⟩ = some (.slice (D i).va (D i).vn (D i).vc) := by
  rcases h.row with h0 | ⟨b', off', e, hs⟩
  · omega
  · injection e with e
    injection e with e1 e2
    subst e1 e2
    exact ⟨hs i hi 1 _ rfl, hs i hi 2 _ rfl⟩
structure MnS (w : World) (b off n : Nat) (D : Nat → TD) (W : World) : Prop where
  t : Tds W (some ⟨b, off, none⟩) n D
  bel : Below w.heap.size w W

set_option maxRecDepth 100000 in
set_option maxHeartbeats 4000000 in
theorem many18 (a : Option Addr) (n cap : Nat) (D : Nat → TD) (w : World) (h : Tds w a n D) :
    Calls Tryd.prog 44 #[.slice a n cap, .int .i64 2000] w fun e w' => FewPost n D w e w' := by
  have HT := Lib.hid h
  have HL := h.len
  clear h
  go_enter Tryd.func44, Tryd.ntmps44
  by_cases h60 : (60 : Int) < (n : Int)
  · go_wp2_with fail
    go_ret
    exact ⟨true, rfl, (fun e => by cases e), Below.refl _ _⟩
  · go_wp2_with fail
    go_loopw [5, 6] (fun u v wr => ∃ (k : Nat) (r : Int), u = .int .i64 r ∧ v = .int .i64 (k : Int) ∧ 0 ≤ r ∧ r ≤ 2000 ∧ k ≤ n ∧ (∀ i, i < k → (D i).rn ≤ 2000 ∧ (D i).vn ≤ 2000) ∧ Tds wr a n D ∧ Below w.heap.size w wr) (fun _ v _ => n - (intOf v).toNat)
    case atStart => exact ⟨0, 2000, rfl, rfl, by decide, by decide, Nat.zero_le _, fun i hi => absurd hi (Nat.not_lt_zero _), HT.out, Below.refl _ _⟩
    case round =>
      clear HT
      obtain ⟨k, r, rfl, rfl, r0, r9, hk, hall, st, bel⟩ := hrel
      have HALL := Lib.hid hall
      clear hall
      by_cases hlt : k < n
      · have hlt' : (k : Int) < (n : Int) := by omega
        have k0 : (0 : Int) ≤ (k : Int) := by omega
        obtain ⟨b, off, rfl⟩ := st.at hlt
        have hrl := (st.all k hlt).rl
        have hvl := (st.all k hlt).vl
        obtain ⟨x, hx⟩ : ∃ x, x = (D k).rn := ⟨_, rfl⟩
        obtain ⟨y, hy⟩ : ∃ y, y = (D k).vn := ⟨_, rfl⟩
        have HX := Lib.hid hx
        have HY := Lib.hid hy
        rw [← hx] at hrl
        rw [← hy] at hvl
        have HC : Hid (∀ W, MnS w b off n D W → W.cell? ⟨b, off + k * 4 + 1, none⟩ = some (.slice (D k).ra x (D k).rc) ∧ W.cell? ⟨b, off + k * 4 + 2, none⟩ = some (.slice (D k).va y (D k).vc)) := fun W h => by
          rw [hx, hy]; exact h.t.cell hlt
        have ST : Hid (MnS w b off n D wr) := ⟨st, bel⟩
        clear st bel hx hy
        by_cases h1 : r < (x : Int)
        · go_wp2_with fail
          refine wp_region_S (MnS w b off n D) (by kernel_rfl) (by kernel_rfl) ⟨ST.out.t.drew _, ST.out.bel.drew⟩ ?_
          intro hne
          have d1 : ∀ y : InW (MnS w b off n D), y.W.cell? ⟨b, off + k * 4 + 1, none⟩ = some (.slice (D k).ra x (D k).rc) := fun y => (HC.out _ y.h).1
          have d2 : ∀ y' : InW (MnS w b off n D), y'.W.cell? ⟨b, off + k * 4 + 2, none⟩ = some (.slice (D k).va y (D k).vc) := fun y' => (HC.out _ y'.h).2
          repeat (first | go_big_quiet_skip | (go_big_quiet_want; go_big_quiet_op; go_big_quiet_on))
          refine wpQuiet_nil ?_
          intro w5 h5
          have st5 := Lib.hid h5.out
          clear h5 hne d1 d2 ST
          go_wp2_with fail
          go_ret
          exact ⟨true, rfl, (fun e => by cases e), st5.out.bel⟩
        · have h1' : (x : Int) ≤ r := by omega
          have hd1 : decide (r < (x : Int)) = false := by simpa using h1'
          by_cases h2 : r - (x : Int) < (y : Int)
          · have hd2 : decide (r - (x : Int) < (y : Int)) = true := by simpa using h2
            go_wp2_with fail
            refine wp_region_S (MnS w b off n D) (by kernel_rfl) (by kernel_rfl) ⟨ST.out.t.drew _, ST.out.bel.drew⟩ ?_
            intro hne
            have d1 : ∀ y : InW (MnS w b off n D), y.W.cell? ⟨b, off + k * 4 + 1, none⟩ = some (.slice (D k).ra x (D k).rc) := fun y => (HC.out _ y.h).1
            have d2 : ∀ y' : InW (MnS w b off n D), y'.W.cell? ⟨b, off + k * 4 + 2, none⟩ = some (.slice (D k).va y (D k).vc) := fun y' => (HC.out _ y'.h).2
            have hd1 : decide (r < (x : Int)) = false := by simpa using h1'
            repeat (first | go_big_quiet_skip | (go_big_quiet_want; go_big_quiet_op; go_big_quiet_on))
            refine wpQuiet_nil ?_
            intro w5 h5
            have st5 := Lib.hid h5.out
            clear h5 hne d1 d2 ST
            go_wp2_with fail
            go_ret
            exact ⟨true, rfl, (fun e => by cases e), st5.out.bel⟩
          · have h2' : (y : Int) ≤ r - (x : Int) := by omega
            go_wp2_with fail
            refine wp_region_S (MnS w b off n D) (by kernel_rfl) (by kernel_rfl) ⟨ST.out.t.drew _, ST.out.bel.drew⟩ ?_
            intro hne
            have d1 : ∀ y : InW (MnS w b off n D), y.W.cell? ⟨b, off + k * 4 + 1, none⟩ = some (.slice (D k).ra x (D k).rc) := fun y => (HC.out _ y.h).1
            have d2 : ∀ y' : InW (MnS w b off n D), y'.W.cell? ⟨b, off + k * 4 + 2, none⟩ = some (.slice (D k).va y (D k).vc) := fun y' => (HC.out _ y'.h).2
            have hd1 : decide (r < (x : Int)) = false := by simpa using h1'
            have hd2 : decide (r - (x : Int) < (y : Int)) = false := by simpa using h2'
            repeat (first | go_big_quiet_skip | (go_big_quiet_want; go_big_quiet_op; go_big_quiet_on))
            refine wpQuiet_nil ?_
            intro w5 h5
            have st5 := Lib.hid h5.out
            clear h5 hne d1 d2 ST
            go_wp2_with fail
            refine wp_region_S (MnS w b off n D) (by kernel_rfl) (by kernel_rfl) ⟨st5.out.t.drew _, st5.out.bel.drew⟩ ?_
            intro hne
            have d1 : ∀ y : InW (MnS w b off n D), y.W.cell? ⟨b, off + k * 4 + 1, none⟩ = some (.slice (D k).ra x (D k).rc) := fun y => (HC.out _ y.h).1
            have d2 : ∀ y' : InW (MnS w b off n D), y'.W.cell? ⟨b, off + k * 4 + 2, none⟩ = some (.slice (D k).va y (D k).vc) := fun y' => (HC.out _ y'.h).2
            repeat (first | go_big_quiet_skip | (go_big_quiet_want; go_big_quiet_op; go_big_quiet_on))
            refine wpQuiet_nil ?_
            intro w6 h6
            have st6 := Lib.hid h6.out
            clear h6 hne d1 d2 st5
            have HALL' : Hid (∀ i, i < k + 1 → (D i).rn ≤ 2000 ∧ (D i).vn ≤ 2000) := fun i hi => by
              by_cases e : i = k
              · subst e
                have := HX.out
                have := HY.out
                omega
              · exact HALL.out i (by omega)
            clear hd1 hd2
            go_wp2_with fail
            go_roundw
            case rel => first | exact ⟨k + 1, r - (x : Int) - (y : Int), by first | rfl | go_num, by first | rfl | go_num, by omega, by omega, by omega, HALL'.out, st6.out.t, st6.out.bel⟩ | ((repeat apply Exists.intro); exact ⟨⟨k + 1, r - (x : Int) - (y : Int), by first | rfl | go_num, by first | rfl | go_num, by omega, by omega, by omega, HALL'.out, st6.out.t, st6.out.bel⟩, rfl⟩)
            case measure => simp [intOf]; omega
      · obtain rfl : k = n := by omega
        have BEL := Lib.hid bel
        clear st bel
        go_wp2_with fail
        go_ret
        exact ⟨false, rfl, fun _ => ⟨by omega, HALL.out⟩, BEL.out⟩

set_option maxRecDepth 100000 in
set_option maxHeartbeats 4000000 in
theorem outside18_any (G S I J s : Int) (n m : Nat) (cb : Nat → Int) (cd : Nat → Nat → Int) (rv : Nat → Int) (ca : Option Addr) (cc : Nat) (ra : Option Addr) (rc : Nat) (hcb : ∀ i, -9223372036854775808 ≤ cb i ∧ cb i ≤ 9223372036854775807) (hrv : ∀ i, -9223372036854775808 ≤ rv i ∧ rv i ≤ 9223372036854775807) (hn : (n : Int) ≤ 9223372036854775807) (hm : (m : Int) ≤ 9223372036854775807)
    (w : World) (hc : RRow w ca 257 n (cpF cb cd)) (hr : RRow w ra 1 m (inF rv)) :
    Calls Tryd.prog 18 #[gval G S I J, tval s ca n cc ra m rc] w fun e w' => e = .returned (.bool (outT G S I J n cb m rv)) ∧ Below w.heap.size w w' := by
  have hW : Hid (OuS w G S I J s ca n cc cb cd ra m rc rv ((w.alloc (.cells (gcells G S I J) 23)).alloc (.cells (tcells s ca n cc ra m rc) 51))) := by
    have h2 := At.new (w.alloc (.cells (gcells G S I J) 23)) 51 (tcells s ca n cc ra m rc)
    rw [World.size_alloc] at h2
    exact ⟨(At.new w _ _).alloc _, h2, (hc.alloc _).alloc _, (hr.alloc _).alloc _, ((Below.refl _ _).alloc (Nat.le_refl _) _).alloc (by simp) _⟩
  have HT : Hid (outT G S I J n cb m rv = (allQ (fun i => outB G S I J (cb i)) n && allQ (fun i => outB G S I J (rv i)) m)) := rfl
  have HCB := Lib.hid hcb
  have HRV := Lib.hid hrv
  have hc1 := hW.out.t.cell (i := 1) (v := .slice ca n cc) rfl
  clear hc hr hcb hrv
  go_enter Tryd.func18, Tryd.ntmps18
  go_wp2_with fail
  go_loopw [5] (fun u wr => ∃ k : Nat, u = .int .i64 (k : Int) ∧ k ≤ n ∧ (∀ i, i < k → outB G S I J (cb i) = true) ∧ OuS w G S I J s ca n cc cb cd ra m rc rv wr) (fun u _ => n - (intOf u).toNat)
  case atStart => exact ⟨0, rfl, Nat.zero_le _, fun i hi => absurd hi (Nat.not_lt_zero _), hW.out⟩
  case round =>
    clear hW hc1
    obtain ⟨k, rfl, hk, hall, st⟩ := hrel
    have HALL := Lib.hid hall
    clear hall
    by_cases hlt : k < n
    · have hlt' : (k : Int) < (n : Int) := by omega
      have k0 : (0 : Int) ≤ (k : Int) := by omega
      obtain ⟨b, off, rfl, hsg⟩ : ∃ b off, ca = some ⟨b, off, none⟩ ∧ RSeg wr b off 257 n (cpF cb cd) := by
        rcases st.c with h | h
        · omega
        · exact h
      have hcx := HCB.out k
      have st2 := Lib.hid st
      have HC : Hid (∀ W, OuS w G S I J s (some ⟨b, off, none⟩) n cc cb cd ra m rc rv W → W.cell? ⟨b, off + k * 257, none⟩ = some (.int .i64 (cb k))) := fun W h => by
        rcases h.c with h0 | ⟨b', off', e, hs⟩
        · omega
        · injection e with e
          injection e with e1 e2
          subst e1 e2
          exact hs k hlt 0 _ rfl
      clear hsg
      have hc3 : wr.cell? ⟨w.heap.size + 1, 1, none⟩ = some (.slice (some ⟨b, off, none⟩) n cc) := st.t.cell (i := 1) rfl
      clear st
      go_wp2_with fail
      refine wp_region_S (OuS w G S I J s (some ⟨b, off, none⟩) n cc cb cd ra m rc rv) (by kernel_rfl) (by kernel_rfl) (st2.out.below ⟨rfl, rfl, rfl, Nat.le_refl _, fun _ _ => rfl⟩) ?_
      clear st2 hc3
      intro hne
      have d1 : ∀ y : InW (OuS w G S I J s (some ⟨b, off, none⟩) n cc cb cd ra m rc rv), y.W.cell? ⟨w.heap.size + 1, 1, none⟩ = some (.slice (some ⟨b, off, none⟩) n cc) := fun y => y.h.t.cell (i := 1) rfl
      have d2 : ∀ y : InW (OuS w G S I J s (some ⟨b, off, none⟩) n cc cb cd ra m rc rv), y.W.cell? ⟨b, off + k * 257, none⟩ = some (.int .i64 (cb k)) := fun y => HC.out _ y.h
      refine q_load rfl 23 (.tmp 2) rfl _ _ rfl (gcells G S I J).toList _ (fun W h => h.g.range) Tryd.underlying23 rfl (by kernel_rfl) ?_
      refine wpQuiet_frame (by simp only [Act.put, List.setIfInBounds_toArray, List.set_cons_succ, List.set_cons_zero]; exact rfl) ?_
      first | go_big_quiet_skip | (go_big_quiet_want; go_big_quiet_op; go_big_quiet_on)
      first | go_big_quiet_skip | (go_big_quiet_want; go_big_quiet_op; go_big_quiet_on)
      first | go_big_quiet_skip | (go_big_quiet_want; go_big_quiet_op; go_big_quiet_on)
      first | go_big_quiet_skip | (go_big_quiet_want; go_big_quiet_op; go_big_quiet_on)
      first | go_big_quiet_skip | (go_big_quiet_want; go_big_quiet_op; go_big_quiet_on)
      first | go_big_quiet_skip | (go_big_quiet_want; go_big_quiet_op; go_big_quiet_on)
      go_big_quiet_want
      go_big_quiet_op
      refine ⟨_, fun s => q_call s (fun W hW => (outside_any G S I J (cb k) (HCB.out k).1 (HCB.out k).2 W).mono fun e w' h => ⟨h.1, hW.below h.2⟩), ?_⟩
      go_big_quiet_on
      first | go_big_quiet_skip | (go_big_quiet_want; go_big_quiet_op; go_big_quiet_on)
      refine wpQuiet_nil ?_
      intro w5 h5
      have ST1 := Lib.hid h5.out
      clear h5 hne d1 d2 HC
      cases ho : outB G S I J (cb k) with
      | false =>
        have HO : Hid (outT G S I J n cb m rv = false) := by
          show _ = _
          rw [HT.out, allQ_no (p := fun i => outB G S I J (cb i)) hlt ho, Bool.false_and]
        clear ho
        go_wp2_with fail
        go_ret
        exact ⟨by rw [HO.out]; rfl, ST1.out.bel⟩
      | true =>
        have HALL' : Hid (∀ i, i < k + 1 → outB G S I J (cb i) = true) := fun i hi => by
          rcases Nat.lt_succ_iff_lt_or_eq.1 hi with h | h
          · exact HALL.out i h
          · rw [h]; exact ho
        clear ho HALL
        go_wp2_with fail
        go_roundw
        case rel => first | exact ⟨k + 1, by first | rfl | go_num, by omega, HALL'.out, ST1.out⟩ | ((repeat apply Exists.intro); exact ⟨⟨k + 1, by first | rfl | go_num, by omega, HALL'.out, ST1.out⟩, rfl⟩)
        case measure => simp [intOf]; omega
    · obtain rfl : k = n := by omega
      have hc2 := st.t.cell (i := 2) (v := .slice ra m rc) rfl
      have hc1 := st.t.cell (i := 1) (v := .slice ca k cc) rfl
      have ST := Lib.hid st
      have HA1 : Hid (allQ (fun i => outB G S I J (cb i)) k = true) := (allQ_iff _ _).2 HALL.out
      clear st HALL
      go_wp2_with fail
      go_loopw [6] (fun u wr => ∃ q : Nat, u = .int .i64 (q : Int) ∧ q ≤ m ∧ (∀ i, i < q → outB G S I J (rv i) = true) ∧ OuS w G S I J s ca k cc cb cd ra m rc rv wr) (fun u _ => m - (intOf u).toNat)
      case atStart => exact ⟨0, rfl, Nat.zero_le _, fun i hi => absurd hi (Nat.not_lt_zero _), ST.out⟩
      case round =>
        clear ST hc2 hc1
        obtain ⟨q, rfl, hq, hall, st⟩ := hrel
        have HALL := Lib.hid hall
        clear hall
        by_cases hlt : q < m
        · have hlt' : (q : Int) < (m : Int) := by omega
          have q0 : (0 : Int) ≤ (q : Int) := by omega
          obtain ⟨b, off, rfl, hsg⟩ : ∃ b off, ra = some ⟨b, off, none⟩ ∧ RSeg wr b off 1 m (inF rv) := by
            rcases st.v with h | h
            · omega
            · exact h
          have HC : Hid (∀ W, OuS w G S I J s ca k cc cb cd (some ⟨b, off, none⟩) m rc rv W → W.cell? ⟨b, off + q, none⟩ = some (.int .i64 (rv q))) := fun W h => by
            rcases h.v with h0 | ⟨b', off', e, hs⟩
            · omega
            · injection e with e
              injection e with e1 e2
              subst e1 e2
              have := hs q hlt 0 (.int .i64 (rv q)) rfl
              rwa [Nat.mul_one, Nat.add_zero] at this
          have hx := HRV.out q
          have ST := Lib.hid st
          have hc2 : wr.cell? ⟨w.heap.size + 1, 2, none⟩ = some (.slice (some ⟨b, off, none⟩) m rc) := st.t.cell (i := 2) rfl
          clear st hsg
          go_wp2_with fail
          refine wp_region_S (OuS w G S I J s ca k cc cb cd (some ⟨b, off, none⟩) m rc rv) (by kernel_rfl) (by kernel_rfl) (ST.out.below ⟨rfl, rfl, rfl, Nat.le_refl _, fun _ _ => rfl⟩) ?_
          clear ST hc2
          intro hne
          have d1 : ∀ y : InW (OuS w G S I J s ca k cc cb cd (some ⟨b, off, none⟩) m rc rv), y.W.cell? ⟨w.heap.size + 1, 2, none⟩ = some (.slice (some ⟨b, off, none⟩) m rc) := fun y => y.h.t.cell (i := 2) rfl
          have d2 : ∀ y : InW (OuS w G S I J s ca k cc cb cd (some ⟨b, off, none⟩) m rc rv), y.W.cell? ⟨b, off + q, none⟩ = some (.int .i64 (rv q)) := fun y => HC.out _ y.h
          refine q_load rfl 23 (.tmp 2) rfl _ _ rfl (gcells G S I J).toList _ (fun W h => h.g.range) Tryd.underlying23 rfl (by kernel_rfl) ?_
          refine wpQuiet_frame (by simp only [Act.put, List.setIfInBounds_toArray, List.set_cons_succ, List.set_cons_zero]; exact rfl) ?_
          first | go_big_quiet_skip | (go_big_quiet_want; go_big_quiet_op; go_big_quiet_on)
          first | go_big_quiet_skip | (go_big_quiet_want; go_big_quiet_op; go_big_quiet_on)
          first | go_big_quiet_skip | (go_big_quiet_want; go_big_quiet_op; go_big_quiet_on)
          first | go_big_quiet_skip | (go_big_quiet_want; go_big_quiet_op; go_big_quiet_on)
          first | go_big_quiet_skip | (go_big_quiet_want; go_big_quiet_op; go_big_quiet_on)
          go_big_quiet_want
          go_big_quiet_op
          refine ⟨_, fun s => q_call s (fun W hW => (outside_any G S I J (rv q) (HRV.out q).1 (HRV.out q).2 W).mono fun e w' h => ⟨h.1, hW.below h.2⟩), ?_⟩
          go_big_quiet_on
          first | go_big_quiet_skip | (go_big_quiet_want; go_big_quiet_op; go_big_quiet_on)
          refine wpQuiet_nil ?_
          intro w5 h5
          have ST1 := Lib.hid h5.out
          clear h5 hne d1 d2 HC
          cases ho : outB G S I J (rv q) with
          | false =>
            have HO : Hid (outT G S I J k cb m rv = false) := by
              show _ = _
              rw [HT.out, allQ_no (p := fun i => outB G S I J (rv i)) hlt ho, Bool.and_false]
            clear ho
            go_wp2_with fail
            go_ret
            exact ⟨by rw [HO.out]; rfl, ST1.out.bel⟩
          | true =>
            have HALL' : Hid (∀ i, i < q + 1 → outB G S I J (rv i) = true) := fun i hi => by
              rcases Nat.lt_succ_iff_lt_or_eq.1 hi with h | h
              · exact HALL.out i h
              · rw [h]; exact ho
            clear ho HALL
            go_wp2_with fail
            go_roundw
            case rel => first | exact ⟨q + 1, by first | rfl | go_num, by omega, HALL'.out, ST1.out⟩ | ((repeat apply Exists.intro); exact ⟨⟨q + 1, by first | rfl | go_num, by omega, HALL'.out, ST1.out⟩, rfl⟩)
            case measure => simp [intOf]; omega
        · obtain rfl : q = m := by omega
          have HO : Hid (outT G S I J k cb q rv = true) := by
            show _ = _
            rw [HT.out, HA1.out, (allQ_iff _ _).2 HALL.out]; rfl
          have hc2 := st.t.cell (i := 2) (v := .slice ra q rc) rfl
          have ST := Lib.hid st
          clear st
          go_wp2_with fail
          go_ret
          exact ⟨by rw [HO.out]; rfl, ST.out.bel⟩


set_option maxRecDepth 100000 in
set_option maxHeartbeats 4000000 in
theorem great18 (G S I J s t : Int) (ta : Option Addr) (tn tc : Nat) (ca : Option Addr) (cn cc : Nat) (oa : Option Addr) (on oc : Nat) (D : Nat → TD) (w : World) (h : Tds w ta tn D) :
    Calls Tryd.prog 11 #[.agg (jfull G S I J s t ta tn tc ca cn cc oa on oc)] w fun e w' => FewPost tn D w e w' := by
  have x0 := At.new w 41 (jfull G S I J s t ta tn tc ca cn cc oa on oc)
  have B0 : Hid (Below w.heap.size w (w.alloc (.cells (jfull G S I J s t ta tn tc ca cn cc oa on oc) 41))) := (Below.refl _ _).alloc (Nat.le_refl _) _
  have HT := Lib.hid (h.below B0.out)
  have c6 : (w.alloc (.cells (jfull G S I J s t ta tn tc ca cn cc oa on oc) 41)).cell? ⟨w.heap.size, 6, none⟩ = some (.slice ta tn tc) := x0.cell (i := 6) rfl
  have c7 : (w.alloc (.cells (jfull G S I J s t ta tn tc ca cn cc oa on oc) 41)).cell? ⟨w.heap.size, 7, none⟩ = some (.slice ca cn cc) := x0.cell (i := 7) rfl
  have c8 : (w.alloc (.cells (jfull G S I J s t ta tn tc ca cn cc oa on oc) 41)).cell? ⟨w.heap.size, 8, none⟩ = some (.slice oa on oc) := x0.cell (i := 8) rfl
  clear h x0
  by_cases h1 : (100 : Int) < (cn : Int)
  · go_enter Tryd.func11, Tryd.ntmps11
    go_wp2_with fail
    go_ret
    exact ⟨true, rfl, (fun e => by cases e), B0.out⟩
  by_cases h2 : (300 : Int) < (on : Int)
  · go_enter Tryd.func11, Tryd.ntmps11
    go_wp2_with fail
    go_ret
    exact ⟨true, rfl, (fun e => by cases e), B0.out⟩
  go_enter Tryd.func11, Tryd.ntmps11
  go_wp2_with fail
  refine (many18 ta tn tc D _ HT.out).mono ?_
  rintro e w1 ⟨x, rfl, hx, hb⟩
  have HX := Lib.hid hx
  have HB := Lib.hid (B0.out.trans (hb.mono B0.out.size))
  clear hx hb c6 c7 c8
  go_wp2_with fail
  go_ret
  exact ⟨x, rfl, HX.out, HB.out⟩
/-- lists of the same transactions -/
theorem TrR.at {W : World} {a : Option Addr} {l : List Tr} (h : TrR W a l) {i : Nat} (hi : i < l.length) : ∃ b off ca cc ra rc, a = some ⟨b, off, none⟩ ∧ W.rangeAt b (off + i * 3) (tcells l[i].s ca l[i].n cc ra l[i].m rc).toList ∧ RRow W ca 257 l[i].n (cpF l[i].cb l[i].cd) ∧ RRow W ra 1 l[i].m (inF l[i].rv) := by
  obtain ⟨ca, cc, ra, rc, h1, h2⟩ := h
  rcases h1 with h0 | ⟨b, off, e, hs⟩
  · omega
  · have hg : l[i]? = some l[i] := List.getElem?_eq_getElem hi
    refine ⟨b, off, ca i, cc i, ra i, rc i, e, ?_, (h2 i _ hg).1, (h2 i _ hg).2⟩
    have := hs.range i hi
    unfold trC at this
    rw [hg] at this
    exact this
set_option maxRecDepth 100000 in
set_option maxHeartbeats 4000000 in
theorem sameAll18 (l : List Tr) (hl : ∀ t ∈ l, t.Ok) (hl9 : (l.length : Int) ≤ 1000000) (a a' : Option Addr) (cap cap' : Nat) (w : World) (h : TrR w a l) (h' : TrR w a' l) :
    Calls Tryd.prog 20 #[.slice a l.length cap, .slice a' l.length cap'] w fun e w' => e = .returned (.bool true) ∧ Below w.heap.size w w' := by
  have qn : ((l.length : Int) != (l.length : Int)) = false := by simp
  have H := Lib.hid h
  have H' := Lib.hid h'
  have HL := Lib.hid hl
  obtain ⟨n, hn⟩ : ∃ n, n = l.length := ⟨_, rfl⟩
  have HN := Lib.hid hn
  rw [← hn] at qn hl9 ⊢
  clear h h' hl hn
  go_enter Tryd.func20, Tryd.ntmps20
  go_wp2_with fail
  go_loopw [5] (fun u wr => ∃ k : Nat, k ≤ n ∧ u = .int .i64 (k : Int) ∧ Below w.heap.size w wr) (fun u _ => n - (intOf u).toNat)
  case atStart => exact ⟨0, Nat.zero_le _, rfl, Below.refl _ _⟩
  case round =>
    obtain ⟨k, hk, rfl, bel⟩ := hrel
    by_cases hlt : k < n
    · have hlt' : (k : Int) < (n : Int) := by omega
      have k0 : (0 : Int) ≤ (k : Int) := by omega
      have hkl : k < l.length := by rw [← HN.out]; exact hlt
      obtain ⟨b, off, ca, cc, ra, rc, rfl, hr, hc, hv⟩ := (H.out.below bel).at hkl
      obtain ⟨b2, off2, ca2, cc2, ra2, rc2, rfl, hr2, hc2, hv2⟩ := (H'.out.below bel).at hkl
      have hok := HL.out _ (List.getElem_mem hkl)
      have HC := Lib.hid hc
      have HC2 := Lib.hid hc2
      have HV := Lib.hid hv
      have HV2 := Lib.hid hv2
      have HOK := Lib.hid hok
      have HB := Lib.hid bel
      clear hc hc2 hv hv2 hok bel
      have HR1 : Hid (∀ W, Below wr.heap.size wr W → W.rangeAt b (off + k * 3) (tcells l[k].s ca l[k].n cc ra l[k].m rc).toList ∧ W.rangeAt b2 (off2 + k * 3) (tcells l[k].s ca2 l[k].n cc2 ra2 l[k].m rc2).toList) := fun W hW =>
        ⟨rangeAt_below hr hW (World.block_lt_of_cell? wr _ (hr 0 _ rfl)), rangeAt_below hr2 hW (World.block_lt_of_cell? wr _ (hr2 0 _ rfl))⟩
      clear hr hr2
      go_wp2_with fail
      refine wp_region_S (fun W => Below wr.heap.size wr W) (by kernel_rfl) (by kernel_rfl) ⟨rfl, rfl, rfl, Nat.le_refl _, fun _ _ => rfl⟩ ?_
      intro hne
      first | go_big_quiet_skip | (go_big_quiet_want; go_big_quiet_op; go_big_quiet_on)
      first | go_big_quiet_skip | (go_big_quiet_want; go_big_quiet_op; go_big_quiet_on)
      first | go_big_quiet_skip | (go_big_quiet_want; go_big_quiet_op; go_big_quiet_on)
      refine q_load rfl 51 (.tmp 19) rfl b (off + k * 3) rfl (tcells l[k].s ca l[k].n cc ra l[k].m rc).toList _ (fun W h => (HR1.out W h).1) Tryd.underlying51 rfl (by kernel_rfl) ?_
      refine wpQuiet_frame (by simp only [Act.put, List.setIfInBounds_toArray, List.set_cons_succ, List.set_cons_zero]; exact rfl) ?_
      first | go_big_quiet_skip | (go_big_quiet_want; go_big_quiet_op; go_big_quiet_on)
      first | go_big_quiet_skip | (go_big_quiet_want; go_big_quiet_op; go_big_quiet_on)
      first | go_big_quiet_skip | (go_big_quiet_want; go_big_quiet_op; go_big_quiet_on)
      refine q_load rfl 51 (.tmp 23) rfl b2 (off2 + k * 3) rfl (tcells l[k].s ca2 l[k].n cc2 ra2 l[k].m rc2).toList _ (fun W h => (HR1.out W h).2) Tryd.underlying51 rfl (by kernel_rfl) ?_
      refine wpQuiet_frame (by simp only [Act.put, List.setIfInBounds_toArray, List.set_cons_succ, List.set_cons_zero]; exact rfl) ?_
      go_big_quiet_want
      go_big_quiet_op
      refine ⟨_, fun s => q_call s (fun W hW => (same15_any l[k].s l[k].n l[k].m l[k].cb l[k].cd l[k].rv ca cc ra rc ca2 cc2 ra2 rc2 HOK.out.n HOK.out.m W (HC.out.below (by intro e; cases e) hW) (HC2.out.below (by intro e; cases e) hW) (HV.out.below (by intro e; cases e) hW) (HV2.out.below (by intro e; cases e) hW)).mono fun e w' h => ⟨h.1, hW.trans (h.2.mono hW.size)⟩), ?_⟩
      go_big_quiet_on
      first | go_big_quiet_skip | (go_big_quiet_want; go_big_quiet_op; go_big_quiet_on)
      refine wpQuiet_nil ?_
      intro w5 h5
      have ST := Lib.hid (HB.out.trans (h5.out.mono HB.out.size))
      clear h5 hne
      go_wp2_with fail
      go_roundw
      case rel => first | exact ⟨k + 1, by omega, by go_num, ST.out⟩ | exact ⟨k + 1, by omega, rfl, ST.out⟩
      case measure => simp [intOf]; omega
    · obtain rfl : k = n := by omega
      have HB := Lib.hid bel
      clear bel
      go_wp2_with fail
      go_ret
      exact ⟨rfl, HB.out⟩
end Go.Proofs.YtnbmmhoofilmfaaDoor
