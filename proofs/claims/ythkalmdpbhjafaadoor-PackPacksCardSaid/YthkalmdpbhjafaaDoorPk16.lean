/- quernref15.Same of two that are the same. -/
import Derived.Test.YthkalmdpbhjafaaDoorPk15
namespace Go.Proofs.YthkalmdpbhjafaaDoor
open Go.RowKit
set_option linter.unusedVariables false

theorem neq_of_eql {P : Program} {t : TypeId} {x y : Array Value} {B : Bool} {w : World} (h : (binOp .eql t (.agg x) (.agg y)).run P w = .ok (.bool B) w) : (binOp .neq t (.agg x) (.agg y)).run P w = .ok (.bool (!B)) w := by
  rw [run_eql_struct] at h
  rw [run_neq_struct]
  generalize (Op.equalIn 10000 t (.agg x) (.agg y)).run P w = r at *
  cases r with
  | ok b w' => simp at h ⊢; exact ⟨by rw [h.1], h.2⟩
  | halt e w' => simp at h
theorem run_eql_copy (b : Int) (z : Nat → Int) (w : World) : (binOp .eql 61 (.agg (cpc b z).toArray) (.agg (cpc b z).toArray)).run Tryd.prog w = .ok (.bool true) w := by
  have hS : Tryd.prog.underlying 61 = some (.struct (Tryd.prog.fieldsOf 61)) := by kernel_rfl
  have hp : Tryd.prog.stoodInHeld 61 = false := by kernel_rfl
  have p0 : ∀ W, (part 3 (cpc b z).toArray 0).run Tryd.prog W = .ok (.int .i64 b) W := fun W => by kernel_rfl
  have p1 : ∀ W, (part 40 (cpc b z).toArray 1).run Tryd.prog W = .ok (bval z) W := fun W => by kernel_rfl
  have hq : ∀ W, (Op.equalIn 9999 40 (bval z) (bval z)).run Tryd.prog W = .ok true W := fun W => by
    obtain ⟨i, hi, _⟩ := info_parts info8
    have := run_equalIn_ints (P := Tryd.prog) W 9997 Tryd.underlying40 hi Tryd.underlying5 (by kernel_rfl) z z
    rw [eqB_refl] at this
    exact this
  have hn : ∀ W, (Op.equalIn 9999 3 (.int .i64 b) (.int .i64 b)).run Tryd.prog W = .ok true W := fun W => by
    have := run_equalIn_int (P := Tryd.prog) W 9998 3 .i64 .i64 b b Tryd.underlying3
    rw [beq_self_eq_true] at this
    exact this
  rw [run_eql_struct, show (10000 : Nat) = 9999 + 1 from rfl, run_equalIn_agg w 9999 _ _ _ hS hp]
  simp only [Program.fieldsOf, Tryd.underlying61]
  clear hS hp
  generalize (cpc b z).toArray = X at *
  simp only [Op.eqFields]
  rw [if_pos (by decide), if_pos (by decide)]
  simp only [p0, p1, hq, hn, Sem.run_bind, Result.andThen_ok, Sem.run_pure, Bool.not_true, Bool.false_eq_true, if_false]
theorem run_neq_copy (b : Int) (z : Nat → Int) (w : World) : (binOp .neq 61 (.agg (cpc b z).toArray) (.agg (cpc b z).toArray)).run Tryd.prog w = .ok (.bool false) w := neq_of_eql (run_eql_copy b z w)
structure SmW (w : World) (s : Int) (n m : Nat) (cb : Nat → Int) (cd : Nat → Nat → Int) (rv : Nat → Int) (ca : Option Addr) (cc : Nat) (ra : Option Addr) (rc : Nat) (ca' : Option Addr) (cc' : Nat) (ra' : Option Addr) (rc' : Nat) (W : World) : Prop where
  x : At W w.heap.size 28 (tcells s ca n cc ra m rc)
  y : At W (w.heap.size + 1) 28 (tcells s ca' n cc' ra' m rc')
  c : RRow W ca 257 n (cpF cb cd)
  c' : RRow W ca' 257 n (cpF cb cd)
  r : RRow W ra 1 m (inF rv)
  r' : RRow W ra' 1 m (inF rv)
  bel : Below w.heap.size w W

set_option maxRecDepth 100000 in
set_option maxHeartbeats 8000000 in
theorem same15_any (s : Int) (n m : Nat) (cb : Nat → Int) (cd : Nat → Nat → Int) (rv : Nat → Int) (ca : Option Addr) (cc : Nat) (ra : Option Addr) (rc : Nat) (ca' : Option Addr) (cc' : Nat) (ra' : Option Addr) (rc' : Nat) (hn : (n : Int) ≤ 9223372036854775807) (hm : (m : Int) ≤ 9223372036854775807) (w : World)
    (hc : RRow w ca 257 n (cpF cb cd)) (hc' : RRow w ca' 257 n (cpF cb cd)) (hr : RRow w ra 1 m (inF rv)) (hr' : RRow w ra' 1 m (inF rv)) :
    Calls Tryd.prog 17 #[tval s ca n cc ra m rc, tval s ca' n cc' ra' m rc'] w fun e w' => e = .returned (.bool true) ∧ Below w.heap.size w w' := by
  have st0 : Hid (SmW w s n m cb cd rv ca cc ra rc ca' cc' ra' rc' ((w.alloc (.cells (tcells s ca n cc ra m rc) 28)).alloc (.cells (tcells s ca' n cc' ra' m rc') 28))) := by
    refine ⟨(At.new w _ _).alloc _, ?_, (hc.alloc _).alloc _, (hc'.alloc _).alloc _, (hr.alloc _).alloc _, (hr'.alloc _).alloc _, ((Below.refl _ _).alloc (Nat.le_refl _) _).alloc (by simp) _⟩
    have := At.new (w.alloc (.cells (tcells s ca n cc ra m rc) 28)) 28 (tcells s ca' n cc' ra' m rc')
    simp only [World.size_alloc] at this; exact this
  clear hc hc' hr hr'
  have qn : ((n : Int) != (n : Int)) = false := by simp
  have qm : ((m : Int) != (m : Int)) = false := by simp
  have qs : (s != s) = false := by simp
  go_enter Tryd.func17, Tryd.ntmps17
  go_wp2_with fail
  go_loopw [5] (fun u wr => ∃ k : Nat, k ≤ n ∧ u = .int .i64 (k : Int) ∧ SmW w s n m cb cd rv ca cc ra rc ca' cc' ra' rc' wr) (fun u _ => n - (intOf u).toNat)
  case atStart => exact ⟨0, Nat.zero_le _, rfl, st0.out⟩
  case round =>
    clear st0
    obtain ⟨k, hk, rfl, st⟩ := hrel
    have c1 : wr.cell? ⟨w.heap.size, 1, none⟩ = some (.slice ca n cc) := st.x.cell (i := 1) rfl
    by_cases hlt : k < n
    · have hlt' : (k : Int) < (n : Int) := by omega
      have k0 : (0 : Int) ≤ (k : Int) := by omega
      obtain ⟨b, off, rfl, -⟩ : ∃ b off, ca = some ⟨b, off, none⟩ ∧ RSeg wr b off 257 n (cpF cb cd) := by
        rcases st.c with h | h
        · omega
        · exact h
      obtain ⟨b2, off2, rfl, -⟩ : ∃ b off, ca' = some ⟨b, off, none⟩ ∧ RSeg wr b off 257 n (cpF cb cd) := by
        rcases st.c' with h | h
        · omega
        · exact h
      have HSG : Hid (∀ W x o, RRow W (some ⟨x, o, none⟩) 257 n (cpF cb cd) → W.rangeAt x (o + k * 257) (cpF cb cd k)) := fun W x o h => by
        rcases h with h | ⟨b', off', e, h⟩
        · omega
        · injection e with e; injection e with e1 e2; subst e1 e2; exact h.range k hlt
      go_wp2_with fail
      refine wp_region_S (SmW w s n m cb cd rv (some ⟨b, off, none⟩) cc ra rc (some ⟨b2, off2, none⟩) cc' ra' rc') (by kernel_rfl) (by kernel_rfl) ⟨st.x, st.y, st.c, st.c', st.r, st.r', st.bel.drew⟩ ?_
      clear st c1
      intro hne
      have d1 : ∀ y : InW (SmW w s n m cb cd rv (some ⟨b, off, none⟩) cc ra rc (some ⟨b2, off2, none⟩) cc' ra' rc'), y.W.cell? ⟨w.heap.size, 1, none⟩ = some (.slice (some ⟨b, off, none⟩) n cc) := fun y => y.h.x.cell (i := 1) rfl
      have d2 : ∀ y : InW (SmW w s n m cb cd rv (some ⟨b, off, none⟩) cc ra rc (some ⟨b2, off2, none⟩) cc' ra' rc'), y.W.cell? ⟨w.heap.size + 1, 1, none⟩ = some (.slice (some ⟨b2, off2, none⟩) n cc') := fun y => y.h.y.cell (i := 1) rfl
      first | go_big_quiet_skip | (go_big_quiet_want; go_big_quiet_op; go_big_quiet_on)
      first | go_big_quiet_skip | (go_big_quiet_want; go_big_quiet_op; go_big_quiet_on)
      first | go_big_quiet_skip | (go_big_quiet_want; go_big_quiet_op; go_big_quiet_on)
      first | go_big_quiet_skip | (go_big_quiet_want; go_big_quiet_op; go_big_quiet_on)
      refine q_load rfl 61 (.tmp 40) rfl b (off + k * 257) rfl (cpF cb cd k) _ (fun W h => HSG.out W b off h.c) Tryd.underlying61 rfl (by rw [cpF_len]; exact info_copy) ?_
      refine wpQuiet_frame (by simp only [Act.put, List.setIfInBounds_toArray, List.set_cons_succ, List.set_cons_zero]; exact rfl) ?_
      first | go_big_quiet_skip | (go_big_quiet_want; go_big_quiet_op; go_big_quiet_on)
      first | go_big_quiet_skip | (go_big_quiet_want; go_big_quiet_op; go_big_quiet_on)
      first | go_big_quiet_skip | (go_big_quiet_want; go_big_quiet_op; go_big_quiet_on)
      first | go_big_quiet_skip | (go_big_quiet_want; go_big_quiet_op; go_big_quiet_on)
      refine q_load rfl 61 (.tmp 45) rfl b2 (off2 + k * 257) rfl (cpF cb cd k) _ (fun W h => HSG.out W b2 off2 h.c') Tryd.underlying61 rfl (by rw [cpF_len]; exact info_copy) ?_
      refine wpQuiet_frame (by simp only [Act.put, List.setIfInBounds_toArray, List.set_cons_succ, List.set_cons_zero]; exact rfl) ?_
      refine q_val rfl (.bool false) (fun W => by
        refine Eq.trans (b := ((do pure (.value (← binOp .neq 61 (.agg (cpc (cb k) (cd k)).toArray) (.agg (cpc (cb k) (cd k)).toArray)))) : Sem Next).run Tryd.prog W) (by kernel_rfl) ?_
        rw [Sem.run_bind, run_neq_copy]; rfl) ?_
      refine wpQuiet_frame (by simp only [Act.put, List.setIfInBounds_toArray, List.set_cons_succ, List.set_cons_zero]; exact rfl) ?_
      refine wpQuiet_nil ?_
      intro w5 h5
      have st5 := Lib.hid h5.out
      clear h5 hne d1 d2
      go_wp2_with fail
      go_roundw
      case rel => first | exact ⟨k + 1, by omega, by go_num, st5.out⟩ | exact ⟨k + 1, by omega, rfl, st5.out⟩
      case measure => simp [intOf]; omega
    · obtain rfl : k = n := by omega
      have ST := Lib.hid st
      clear st
      go_wp2_with fail
      go_loopw [6] (fun u wr => ∃ j : Nat, j ≤ m ∧ u = .int .i64 (j : Int) ∧ SmW w s k m cb cd rv ca cc ra rc ca' cc' ra' rc' wr) (fun u _ => m - (intOf u).toNat)
      case atStart => exact ⟨0, Nat.zero_le _, rfl, ST.out⟩
      case round =>
        clear ST c1
        obtain ⟨j, hj, rfl, st⟩ := hrel
        have c1 : wr.cell? ⟨w.heap.size, 2, none⟩ = some (.slice ra m rc) := st.x.cell (i := 2) rfl
        by_cases hlt : j < m
        · have hlt' : (j : Int) < (m : Int) := by omega
          have k0 : (0 : Int) ≤ (j : Int) := by omega
          obtain ⟨b, off, rfl, -⟩ : ∃ b off, ra = some ⟨b, off, none⟩ ∧ RSeg wr b off 1 m (inF rv) := by
            rcases st.r with h | h
            · omega
            · exact h
          obtain ⟨b2, off2, rfl, -⟩ : ∃ b off, ra' = some ⟨b, off, none⟩ ∧ RSeg wr b off 1 m (inF rv) := by
            rcases st.r' with h | h
            · omega
            · exact h
          have HSG : Hid (∀ W x o, RRow W (some ⟨x, o, none⟩) 1 m (inF rv) → W.cell? ⟨x, o + j, none⟩ = some (.int .i64 (rv j))) := fun W x o h => by
            rcases h with h | ⟨b', off', e, h⟩
            · omega
            · injection e with e; injection e with e1 e2; subst e1 e2
              have := h j hlt 0 _ rfl
              rwa [Nat.mul_one, Nat.add_zero] at this
          go_wp2_with fail
          refine wp_region_S (SmW w s k m cb cd rv ca cc (some ⟨b, off, none⟩) rc ca' cc' (some ⟨b2, off2, none⟩) rc') (by kernel_rfl) (by kernel_rfl) ⟨st.x, st.y, st.c, st.c', st.r, st.r', st.bel.drew⟩ ?_
          clear st c1
          intro hne
          have d1 : ∀ y : InW (SmW w s k m cb cd rv ca cc (some ⟨b, off, none⟩) rc ca' cc' (some ⟨b2, off2, none⟩) rc'), y.W.cell? ⟨w.heap.size, 2, none⟩ = some (.slice (some ⟨b, off, none⟩) m rc) := fun y => y.h.x.cell (i := 2) rfl
          have d2 : ∀ y : InW (SmW w s k m cb cd rv ca cc (some ⟨b, off, none⟩) rc ca' cc' (some ⟨b2, off2, none⟩) rc'), y.W.cell? ⟨w.heap.size + 1, 2, none⟩ = some (.slice (some ⟨b2, off2, none⟩) m rc') := fun y => y.h.y.cell (i := 2) rfl
          have d3 : ∀ y : InW (SmW w s k m cb cd rv ca cc (some ⟨b, off, none⟩) rc ca' cc' (some ⟨b2, off2, none⟩) rc'), y.W.cell? ⟨b, off + j, none⟩ = some (.int .i64 (rv j)) := fun y => HSG.out y.W b off y.h.r
          have d4 : ∀ y : InW (SmW w s k m cb cd rv ca cc (some ⟨b, off, none⟩) rc ca' cc' (some ⟨b2, off2, none⟩) rc'), y.W.cell? ⟨b2, off2 + j, none⟩ = some (.int .i64 (rv j)) := fun y => HSG.out y.W b2 off2 y.h.r'
          first | go_big_quiet_skip | (go_big_quiet_want; go_big_quiet_op; go_big_quiet_on)
          first | go_big_quiet_skip | (go_big_quiet_want; go_big_quiet_op; go_big_quiet_on)
          first | go_big_quiet_skip | (go_big_quiet_want; go_big_quiet_op; go_big_quiet_on)
          first | go_big_quiet_skip | (go_big_quiet_want; go_big_quiet_op; go_big_quiet_on)
          first | go_big_quiet_skip | (go_big_quiet_want; go_big_quiet_op; go_big_quiet_on)
          first | go_big_quiet_skip | (go_big_quiet_want; go_big_quiet_op; go_big_quiet_on)
          first | go_big_quiet_skip | (go_big_quiet_want; go_big_quiet_op; go_big_quiet_on)
          first | go_big_quiet_skip | (go_big_quiet_want; go_big_quiet_op; go_big_quiet_on)
          first | go_big_quiet_skip | (go_big_quiet_want; go_big_quiet_op; go_big_quiet_on)
          first | go_big_quiet_skip | (go_big_quiet_want; go_big_quiet_op; go_big_quiet_on)
          first | go_big_quiet_skip | (go_big_quiet_want; go_big_quiet_op; go_big_quiet_on)
          refine wpQuiet_nil ?_
          intro w5 h5
          have st5 := Lib.hid h5.out
          clear h5 hne d1 d2 d3 d4
          have qv : (rv j != rv j) = false := by simp
          go_wp2_with fail
          go_roundw
          case rel => first | exact ⟨j + 1, by omega, by go_num, st5.out⟩ | exact ⟨j + 1, by omega, rfl, st5.out⟩
          case measure => simp [intOf]; omega
        · obtain rfl : j = m := by omega
          have ST := Lib.hid st.bel
          clear st
          go_wp2_with fail
          go_ret
          exact ⟨rfl, ST.out⟩
end Go.Proofs.YthkalmdpbhjafaaDoor
