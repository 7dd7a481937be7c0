/- Texts of this claim, merged by a program (a claim may have 60 files): Pk16, Pk17. -/
import Derived.Test.YtnbmmhoofilmfaaDoorK28
/- quernref15.Same of two that are the same. -/
namespace Go.Proofs.YtnbmmhoofilmfaaDoor
open Go.RowKit
set_option linter.unusedVariables false

theorem neq_of_eql {P : Program} {t : TypeId} {x y : Array Value} {B : Bool} {w : World} (h : (binOp .eql t (.agg x) (.agg y)).run P w = .ok (.bool B) w) : (binOp .neq t (.agg x) (.agg y)).run P w = .ok (.bool (!B)) w := by
  rw [run_eql_struct] at h
  rw [run_neq_struct]
  generalize (Op.equalIn 10000 t (.agg x) (.agg y)).run P w = r at *
  cases r with
  | ok b w' => simp at h ⊢; exact ⟨by rw [h.1], h.2⟩
  | halt e w' => simp at h
theorem run_eql_copy (b : Int) (z : Nat → Int) (w : World) : (binOp .eql 101 (.agg (cpc b z).toArray) (.agg (cpc b z).toArray)).run Tryd.prog w = .ok (.bool true) w := by
  have hS : Tryd.prog.underlying 101 = some (.struct (Tryd.prog.fieldsOf 101)) := by kernel_rfl
  have hp : Tryd.prog.stoodInHeld 101 = false := by kernel_rfl
  have p0 : ∀ W, (part 3 (cpc b z).toArray 0).run Tryd.prog W = .ok (.int .i64 b) W := fun W => by kernel_rfl
  have p1 : ∀ W, (part 32 (cpc b z).toArray 1).run Tryd.prog W = .ok (bval z) W := fun W => by kernel_rfl
  have hq : ∀ W, (Op.equalIn 9999 32 (bval z) (bval z)).run Tryd.prog W = .ok true W := fun W => by
    obtain ⟨i, hi, _⟩ := info_parts info8
    have := run_equalIn_ints (P := Tryd.prog) W 9997 Tryd.underlying32 hi Tryd.underlying5 (by kernel_rfl) z z
    rw [eqB_refl] at this
    exact this
  have hn : ∀ W, (Op.equalIn 9999 3 (.int .i64 b) (.int .i64 b)).run Tryd.prog W = .ok true W := fun W => by
    have := run_equalIn_int (P := Tryd.prog) W 9998 3 .i64 .i64 b b Tryd.underlying3
    rw [beq_self_eq_true] at this
    exact this
  rw [run_eql_struct, show (10000 : Nat) = 9999 + 1 from rfl, run_equalIn_agg w 9999 _ _ _ hS hp]
  simp only [Program.fieldsOf, Tryd.underlying101]
  clear hS hp
  generalize (cpc b z).toArray = X at *
  simp only [Op.eqFields]
  rw [if_pos (by decide), if_pos (by decide)]
  simp only [p0, p1, hq, hn, Sem.run_bind, Result.andThen_ok, Sem.run_pure, Bool.not_true, Bool.false_eq_true, if_false]
theorem run_neq_copy (b : Int) (z : Nat → Int) (w : World) : (binOp .neq 101 (.agg (cpc b z).toArray) (.agg (cpc b z).toArray)).run Tryd.prog w = .ok (.bool false) w := neq_of_eql (run_eql_copy b z w)
structure SmW (w : World) (s : Int) (n m : Nat) (cb : Nat → Int) (cd : Nat → Nat → Int) (rv : Nat → Int) (ca : Option Addr) (cc : Nat) (ra : Option Addr) (rc : Nat) (ca' : Option Addr) (cc' : Nat) (ra' : Option Addr) (rc' : Nat) (W : World) : Prop where
  x : At W w.heap.size 51 (tcells s ca n cc ra m rc)
  y : At W (w.heap.size + 1) 51 (tcells s ca' n cc' ra' m rc')
  c : RRow W ca 257 n (cpF cb cd)
  c' : RRow W ca' 257 n (cpF cb cd)
  r : RRow W ra 1 m (inF rv)
  r' : RRow W ra' 1 m (inF rv)
  bel : Below w.heap.size w W

set_option maxRecDepth 100000 in
set_option maxHeartbeats 8000000 in
theorem same15_any (s : Int) (n m : Nat) (cb : Nat → Int) (cd : Nat → Nat → Int) (rv : Nat → Int) (ca : Option Addr) (cc : Nat) (ra : Option Addr) (rc : Nat) (ca' : Option Addr) (cc' : Nat) (ra' : Option Addr) (rc' : Nat) (hn : (n : Int) ≤ 9223372036854775807) (hm : (m : Int) ≤ 9223372036854775807) (w : World)
    (hc : RRow w ca 257 n (cpF cb cd)) (hc' : RRow w ca' 257 n (cpF cb cd)) (hr : RRow w ra 1 m (inF rv)) (hr' : RRow w ra' 1 m (inF rv)) :
    Calls Tryd.prog 59 #[tval s ca n cc ra m rc, tval s ca' n cc' ra' m rc'] w fun e w' => e = .returned (.bool true) ∧ Below w.heap.size w w' := by
  have st0 : Hid (SmW w s n m cb cd rv ca cc ra rc ca' cc' ra' rc' ((w.alloc (.cells (tcells s ca n cc ra m rc) 51)).alloc (.cells (tcells s ca' n cc' ra' m rc') 51))) := by
    refine ⟨(At.new w _ _).alloc _, ?_, (hc.alloc _).alloc _, (hc'.alloc _).alloc _, (hr.alloc _).alloc _, (hr'.alloc _).alloc _, ((Below.refl _ _).alloc (Nat.le_refl _) _).alloc (by simp) _⟩
    have := At.new (w.alloc (.cells (tcells s ca n cc ra m rc) 51)) 51 (tcells s ca' n cc' ra' m rc')
    simp only [World.size_alloc] at this; exact this
  clear hc hc' hr hr'
  have qn : ((n : Int) != (n : Int)) = false := by simp
  have qm : ((m : Int) != (m : Int)) = false := by simp
  have qs : (s != s) = false := by simp
  go_enter Tryd.func59, Tryd.ntmps59
  go_wp2_with fail
  go_loopw [5] (fun u wr => ∃ k : Nat, k ≤ n ∧ u = .int .i64 (k : Int) ∧ SmW w s n m cb cd rv ca cc ra rc ca' cc' ra' rc' wr) (fun u _ => n - (intOf u).toNat)
  case atStart => exact ⟨0, Nat.zero_le _, rfl, st0.out⟩
  case round =>
    clear st0
    obtain ⟨k, hk, rfl, st⟩ := hrel
    have c1 : wr.cell? ⟨w.heap.size, 1, none⟩ = some (.slice ca n cc) := st.x.cell (i := 1) rfl
    by_cases hlt : k < n
    · have hlt' : (k : Int) < (n : Int) := by omega
      have k0 : (0 : Int) ≤ (k : Int) := by omega
      obtain ⟨b, off, rfl, -⟩ : ∃ b off, ca = some ⟨b, off, none⟩ ∧ RSeg wr b off 257 n (cpF cb cd) := by
        rcases st.c with h | h
        · omega
        · exact h
      obtain ⟨b2, off2, rfl, -⟩ : ∃ b off, ca' = some ⟨b, off, none⟩ ∧ RSeg wr b off 257 n (cpF cb cd) := by
        rcases st.c' with h | h
        · omega
        · exact h
      have HSG : Hid (∀ W x o, RRow W (some ⟨x, o, none⟩) 257 n (cpF cb cd) → W.rangeAt x (o + k * 257) (cpF cb cd k)) := fun W x o h => by
        rcases h with h | ⟨b', off', e, h⟩
        · omega
        · injection e with e; injection e with e1 e2; subst e1 e2; exact h.range k hlt
      go_wp2_with fail
      refine wp_region_S (SmW w s n m cb cd rv (some ⟨b, off, none⟩) cc ra rc (some ⟨b2, off2, none⟩) cc' ra' rc') (by kernel_rfl) (by kernel_rfl) ⟨st.x, st.y, st.c, st.c', st.r, st.r', st.bel.drew⟩ ?_
      clear st c1
      intro hne
      have d1 : ∀ y : InW (SmW w s n m cb cd rv (some ⟨b, off, none⟩) cc ra rc (some ⟨b2, off2, none⟩) cc' ra' rc'), y.W.cell? ⟨w.heap.size, 1, none⟩ = some (.slice (some ⟨b, off, none⟩) n cc) := fun y => y.h.x.cell (i := 1) rfl
      have d2 : ∀ y : InW (SmW w s n m cb cd rv (some ⟨b, off, none⟩) cc ra rc (some ⟨b2, off2, none⟩) cc' ra' rc'), y.W.cell? ⟨w.heap.size + 1, 1, none⟩ = some (.slice (some ⟨b2, off2, none⟩) n cc') := fun y => y.h.y.cell (i := 1) rfl
      first | go_big_quiet_skip | (go_big_quiet_want; go_big_quiet_op; go_big_quiet_on)
      first | go_big_quiet_skip | (go_big_quiet_want; go_big_quiet_op; go_big_quiet_on)
      first | go_big_quiet_skip | (go_big_quiet_want; go_big_quiet_op; go_big_quiet_on)
      first | go_big_quiet_skip | (go_big_quiet_want; go_big_quiet_op; go_big_quiet_on)
      refine q_load rfl 101 (.tmp 40) rfl b (off + k * 257) rfl (cpF cb cd k) _ (fun W h => HSG.out W b off h.c) Tryd.underlying101 rfl (by rw [cpF_len]; exact info_copy) ?_
      refine wpQuiet_frame (by simp only [Act.put, List.setIfInBounds_toArray, List.set_cons_succ, List.set_cons_zero]; exact rfl) ?_
      first | go_big_quiet_skip | (go_big_quiet_want; go_big_quiet_op; go_big_quiet_on)
      first | go_big_quiet_skip | (go_big_quiet_want; go_big_quiet_op; go_big_quiet_on)
      first | go_big_quiet_skip | (go_big_quiet_want; go_big_quiet_op; go_big_quiet_on)
      first | go_big_quiet_skip | (go_big_quiet_want; go_big_quiet_op; go_big_quiet_on)
      refine q_load rfl 101 (.tmp 45) rfl b2 (off2 + k * 257) rfl (cpF cb cd k) _ (fun W h => HSG.out W b2 off2 h.c') Tryd.underlying101 rfl (by rw [cpF_len]; exact info_copy) ?_
      refine wpQuiet_frame (by simp only [Act.put, List.setIfInBounds_toArray, List.set_cons_succ, List.set_cons_zero]; exact rfl) ?_
      refine q_val rfl (.bool false) (fun W => by
        refine Eq.trans (b := ((do pure (.value (← binOp .neq 101 (.agg (cpc (cb k) (cd k)).toArray) (.agg (cpc (cb k) (cd k)).toArray)))) : Sem Next).run Tryd.prog W) (by kernel_rfl) ?_
        rw [Sem.run_bind, run_neq_copy]; rfl) ?_
      refine wpQuiet_frame (by simp only [Act.put, List.setIfInBounds_toArray, List.set_cons_succ, List.set_cons_zero]; exact rfl) ?_
      refine wpQuiet_nil ?_
      intro w5 h5
      have st5 := Lib.hid h5.out
      clear h5 hne d1 d2
      go_wp2_with fail
      go_roundw
      case rel => first | exact ⟨k + 1, by omega, by go_num, st5.out⟩ | exact ⟨k + 1, by omega, rfl, st5.out⟩
      case measure => simp [intOf]; omega
    · obtain rfl : k = n := by omega
      have ST := Lib.hid st
      clear st
      go_wp2_with fail
      go_loopw [6] (fun u wr => ∃ j : Nat, j ≤ m ∧ u = .int .i64 (j : Int) ∧ SmW w s k m cb cd rv ca cc ra rc ca' cc' ra' rc' wr) (fun u _ => m - (intOf u).toNat)
      case atStart => exact ⟨0, Nat.zero_le _, rfl, ST.out⟩
      case round =>
        clear ST c1
        obtain ⟨j, hj, rfl, st⟩ := hrel
        have c1 : wr.cell? ⟨w.heap.size, 2, none⟩ = some (.slice ra m rc) := st.x.cell (i := 2) rfl
        by_cases hlt : j < m
        · have hlt' : (j : Int) < (m : Int) := by omega
          have k0 : (0 : Int) ≤ (j : Int) := by omega
          obtain ⟨b, off, rfl, -⟩ : ∃ b off, ra = some ⟨b, off, none⟩ ∧ RSeg wr b off 1 m (inF rv) := by
            rcases st.r with h | h
            · omega
            · exact h
          obtain ⟨b2, off2, rfl, -⟩ : ∃ b off, ra' = some ⟨b, off, none⟩ ∧ RSeg wr b off 1 m (inF rv) := by
            rcases st.r' with h | h
            · omega
            · exact h
          have HSG : Hid (∀ W x o, RRow W (some ⟨x, o, none⟩) 1 m (inF rv) → W.cell? ⟨x, o + j, none⟩ = some (.int .i64 (rv j))) := fun W x o h => by
            rcases h with h | ⟨b', off', e, h⟩
            · omega
            · injection e with e; injection e with e1 e2; subst e1 e2
              have := h j hlt 0 _ rfl
              rwa [Nat.mul_one, Nat.add_zero] at this
          go_wp2_with fail
          refine wp_region_S (SmW w s k m cb cd rv ca cc (some ⟨b, off, none⟩) rc ca' cc' (some ⟨b2, off2, none⟩) rc') (by kernel_rfl) (by kernel_rfl) ⟨st.x, st.y, st.c, st.c', st.r, st.r', st.bel.drew⟩ ?_
          clear st c1
          intro hne
          have d1 : ∀ y : InW (SmW w s k m cb cd rv ca cc (some ⟨b, off, none⟩) rc ca' cc' (some ⟨b2, off2, none⟩) rc'), y.W.cell? ⟨w.heap.size, 2, none⟩ = some (.slice (some ⟨b, off, none⟩) m rc) := fun y => y.h.x.cell (i := 2) rfl
          have d2 : ∀ y : InW (SmW w s k m cb cd rv ca cc (some ⟨b, off, none⟩) rc ca' cc' (some ⟨b2, off2, none⟩) rc'), y.W.cell? ⟨w.heap.size + 1, 2, none⟩ = some (.slice (some ⟨b2, off2, none⟩) m rc') := fun y => y.h.y.cell (i := 2) rfl
          have d3 : ∀ y : InW (SmW w s k m cb cd rv ca cc (some ⟨b, off, none⟩) rc ca' cc' (some ⟨b2, off2, none⟩) rc'), y.W.cell? ⟨b, off + j, none⟩ = some (.int .i64 (rv j)) := fun y => HSG.out y.W b off y.h.r
          have d4 : ∀ y : InW (SmW w s k m cb cd rv ca cc (some ⟨b, off, none⟩) rc ca' cc' (some ⟨b2, off2, none⟩) rc'), y.W.cell? ⟨b2, off2 + j, none⟩ = some (.int .i64 (rv j)) := fun y => HSG.out y.W b2 off2 y.h.r'
          first | go_big_quiet_skip | (go_big_quiet_want; go_big_quiet_op; go_big_quiet_on)
          first | go_big_quiet_skip | (go_big_quiet_want; go_big_quiet_op; go_big_quiet_on)
          first | go_big_quiet_skip | (go_big_quiet_want; go_big_quiet_op; go_big_quiet_on)
          first | go_big_quiet_skip | (go_big_quiet_want; go_big_quiet_op; go_big_quiet_on)
          first | go_big_quiet_skip | (go_big_quiet_want; go_big_quiet_op; go_big_quiet_on)
          first | go_big_quiet_skip | (go_big_quiet_want; go_big_quiet_op; go_big_quiet_on)
          first | go_big_quiet_skip | (go_big_quiet_want; go_big_quiet_op; go_big_quiet_on)
          first | go_big_quiet_skip | (go_big_quiet_want; go_big_quiet_op; go_big_quiet_on)
          first | go_big_quiet_skip | (go_big_quiet_want; go_big_quiet_op; go_big_quiet_on)
          first | go_big_quiet_skip | (go_big_quiet_want; go_big_quiet_op; go_big_quiet_on)
          first | go_big_quiet_skip | (go_big_quiet_want; go_big_quiet_op; go_big_quiet_on)
          refine wpQuiet_nil ?_
          intro w5 h5
          have st5 := Lib.hid h5.out
          clear h5 hne d1 d2 d3 d4
          have qv : (rv j != rv j) = false := by simp
          go_wp2_with fail
          go_roundw
          case rel => first | exact ⟨j + 1, by omega, by go_num, st5.out⟩ | exact ⟨j + 1, by omega, rfl, st5.out⟩
          case measure => simp [intOf]; omega
        · obtain rfl : j = m := by omega
          have ST := Lib.hid st.bel
          clear st
          go_wp2_with fail
          go_ret
          exact ⟨rfl, ST.out⟩
end Go.Proofs.YtnbmmhoofilmfaaDoor

/- The reference of chapter 15, plainly; quernref15.May. -/
namespace Go.Proofs.YtnbmmhoofilmfaaDoor
open Go.RowKit
set_option linter.unusedVariables false

/-- blocks, one behind the other, as bytes -/
def flat (B : Nat → Nat → Int) (i : Nat) : Int := B (i / 256) (i % 256)
theorem flat_byt {B : Nat → Nat → Int} (h : ∀ i, Byt (B i)) : Byt (flat B) := fun i => h _ _
theorem foldN_split (v : Nat) (z : Nat → Int) (a b : Nat) : foldN v z (a + b) = foldN (foldN v z a) (fun i => z (a + i)) b := by
  induction b with
  | zero => rfl
  | succ b ih => show stepN (foldN v z (a + b)) _ = stepN _ _; rw [ih]; rfl
theorem foldN_flat (v : Nat) (B : Nat → Nat → Int) (k : Nat) : foldN v (flat B) (k * 256) = foldP v (fun _ => 256) B k := by
  induction k with
  | zero => rw [Nat.zero_mul]; rfl
  | succ k ih =>
    rw [Nat.succ_mul, foldN_split, ih]
    show _ = foldN _ (B k) 256
    refine foldN_congr fun i hi => ?_
    unfold flat
    rw [show (k * 256 + i) / 256 = k by omega, show (k * 256 + i) % 256 = i by omega]
theorem crc_flat (B : Nat → Nat → Int) (k : Nat) : crcZ (flat B) (k * 256) = crcB B k := by unfold crcZ crcB; rw [foldN_flat]
theorem Ks_flat (B : Nat → Nat → Int) (k : Nat) : Ks .u8 (k * 256) (flat B) = Cs (bkF B) k := by
  induction k with
  | zero => rw [Nat.zero_mul]; rfl
  | succ k ih =>
    rw [Cs_succ, ← ih, Nat.succ_mul]
    unfold bkF Ks
    rw [List.range_add, List.map_append, List.map_map]
    congr 1
    refine List.map_congr_left fun i hi => ?_
    have := List.mem_range.1 hi
    show Value.int _ (flat B (k * 256 + i)) = _
    unfold flat
    rw [show (k * 256 + i) / 256 = k by omega, show (k * 256 + i) % 256 = i by omega]
/-- while quernref15.May goes over a transaction -/
structure My15 (w : World) (s : Int) (ca : Option Addr) (n cc : Nat) (ra : Option Addr) (m rc : Nat) (cb : Nat → Int) (cd : Nat → Nat → Int) (rv : Nat → Int) (W : World) : Prop where
  x : At W w.heap.size 51 (tcells s ca n cc ra m rc)
  c : RRow W ca 257 n (cpF cb cd)
  r : RRow W ra 1 m (inF rv)
  bel : Below w.heap.size w W
theorem RRow.at257 {W : World} {b off n : Nat} {cb : Nat → Int} {cd : Nat → Nat → Int} {k : Nat} (h : RRow W (some ⟨b, off, none⟩) 257 n (cpF cb cd)) (hk : k < n) : W.cell? ⟨b, off + k * 257, none⟩ = some (.int .i64 (cb k)) := by
  rcases h with h | ⟨b', off', e, h⟩
  · omega
  · injection e with e; injection e with e1 e2; subst e1 e2; exact h k hk 0 _ rfl
theorem RRow.at1 {W : World} {b off n : Nat} {rv : Nat → Int} {k : Nat} (h : RRow W (some ⟨b, off, none⟩) 1 n (inF rv)) (hk : k < n) : W.cell? ⟨b, off + k, none⟩ = some (.int .i64 (rv k)) := by
  rcases h with h | ⟨b', off', e, h⟩
  · omega
  · injection e with e; injection e with e1 e2; subst e1 e2
    have := h k hk 0 _ rfl
    rwa [Nat.mul_one, Nat.add_zero] at this
theorem RRow.some_of {W : World} {a : Option Addr} {m n : Nat} {f : Nat → List Value} (h : RRow W a m n f) (hn : 0 < n) : ∃ b off, a = some ⟨b, off, none⟩ := by
  rcases h with h | ⟨b, off, e, _⟩
  · omega
  · exact ⟨b, off, e⟩
theorem riseT_ge {b : Nat → Int} {k : Nat} (h : riseT b (k + 1) = true) : 0 ≤ b k := by have := riseT_bd h k (by omega); omega

set_option maxRecDepth 100000 in
set_option maxHeartbeats 4000000 in
theorem rMay15_any (s : Int) (ca : Option Addr) (n cc : Nat) (ra : Option Addr) (m rc : Nat) (cb : Nat → Int) (cd : Nat → Nat → Int) (rv : Nat → Int)
    (hs : 0 ≤ s ∧ s < 4294967296) (hn : (n : Int) ≤ 9223372036854775807) (hm : (m : Int) ≤ 9223372036854775807) (w : World) (hc : RRow w ca 257 n (cpF cb cd)) (hr : RRow w ra 1 m (inF rv)) :
    Calls Tryd.prog 102 #[tval s ca n cc ra m rc] w fun e w' => e = .returned (.bool (mayT s n cb m rv)) ∧ Below w.heap.size w w' := by
  have ST0 : Hid (My15 w s ca n cc ra m rc cb cd rv (w.alloc (.cells (tcells s ca n cc ra m rc) 51))) := ⟨At.new w _ _, hc.alloc _, hr.alloc _, (Below.refl _ _).alloc (Nat.le_refl _) _⟩
  have hc0 : (w.alloc (.cells (tcells s ca n cc ra m rc) 51)).cell? ⟨w.heap.size, 0, none⟩ = some (.int .u32 s) := ST0.out.x.cell (i := 0) rfl
  have hc1 : (w.alloc (.cells (tcells s ca n cc ra m rc) 51)).cell? ⟨w.heap.size, 1, none⟩ = some (.slice ca n cc) := ST0.out.x.cell (i := 1) rfl
  have hc2 : (w.alloc (.cells (tcells s ca n cc ra m rc) 51)).cell? ⟨w.heap.size, 2, none⟩ = some (.slice ra m rc) := ST0.out.x.cell (i := 2) rfl
  have HC := Lib.hid ST0.out.c
  have HR := Lib.hid ST0.out.r
  have HL := Lib.hid ST0.out.bel
  clear hc hr ST0
  go_enter Tryd.func102, Tryd.ntmps102
  obtain ⟨W, hW⟩ : ∃ W, W = w.alloc (.cells (tcells s ca n cc ra m rc) 51) := ⟨_, rfl⟩
  rw [← hW] at hc0 hc1 hc2 HC HR HL
  have hgo : w.alloc (.cells (tcells s ca n cc ra m rc) 51) = W := hW.symm
  clear hW
  go_wp2_with fail
  refine (rSeq_any s W).mono ?_
  rintro e W' ⟨rfl, hww⟩
  obtain rfl : W = W' := hww
  cases hq : seqB s with
  | false =>
    have HO : Hid (mayT s n cb m rv = false) := by show _ = _; unfold mayT; rw [hq]; rfl
    clear hq
    go_wp2_with fail
    go_ret
    exact ⟨by rw [HO.out]; rfl, HL.out⟩
  | true =>
    have HSQ := Lib.hid hq
    clear hq
    by_cases h00 : n = 0 ∧ m = 0
    · obtain ⟨rfl, rfl⟩ := h00
      have HO : Hid (mayT s 0 cb 0 rv = false) := by show _ = _; unfold mayT; simp
      go_wp2_with fail
      go_ret
      exact ⟨by rw [HO.out]; rfl, HL.out⟩
    have HMY : Hid (∀ b, (riseT cb n && riseT rv m) = b → mayT s n cb m rv = b) := fun b hb => by
      unfold mayT; rw [HSQ.out, hb, show decide (0 < n + m) = true from decide_eq_true (by omega)]; rfl
    have hz : ((n : Int) == 0) = false ∨ (((n : Int) == 0) = true ∧ ((m : Int) == 0) = false) := by
      by_cases e : n = 0
      · exact .inr ⟨by rw [beq_iff_eq]; omega, by rw [beq_eq_false_iff_ne]; omega⟩
      · exact .inl (by rw [beq_eq_false_iff_ne]; omega)
    clear h00
    rcases hz with hz1 | ⟨hz1, hz2⟩
    all_goals
      go_wp2_with fail
      go_loop [3, 4] (fun u _ => ∃ k : Nat, k ≤ n ∧ u = .int .i64 (k : Int) ∧ Hid (riseT cb k = true)) (fun u _ => n - (intOf u).toNat)
      case atStart => exact ⟨0, by omega, rfl, rfl⟩
      case round =>
        obtain ⟨k, hk, rfl, HK⟩ := hrel
        by_cases hlt : k < n
        · have hlt' : (k : Int) < (n : Int) := by omega
          have k0 : (0 : Int) ≤ (k : Int) := by omega
          obtain ⟨b, off, rfl⟩ := HC.out.some_of (by omega)
          have hcell := HC.out.at257 hlt
          by_cases c0 : cb k < 0
          · have HO := Lib.hid (HMY.out false (by rw [riseT_no hlt (by
              split
              · omega
              · next h => have := riseT_bd HK.out (k - 1) (by omega); omega)]; rfl))
            go_wp2_with fail
            go_ret
            exact ⟨by rw [HO.out]; rfl, HL.out⟩
          by_cases c2 : 2048 ≤ cb k
          · have HO := Lib.hid (HMY.out false (by rw [riseT_no hlt (by omega)]; rfl))
            go_wp2_with fail
            go_ret
            exact ⟨by rw [HO.out]; rfl, HL.out⟩
          by_cases hk0 : k = 0
          · have HK1 : Hid (riseT cb (k + 1) = true) := by
              show _ = _
              rw [riseT_succ, HK.out, if_pos hk0, decide_eq_true (show -1 < cb k by omega), decide_eq_true (show cb k < 2048 by omega)]; rfl
            have g0 : ¬ (0 : Int) < (k : Int) := by omega
            have g1 : ¬ 0 < k := by omega
            clear hk0
            go_wp2_with fail
            go_round
            case rel => first | exact ⟨k + 1, by omega, by go_num, HK1⟩ | exact ⟨k + 1, by omega, rfl, HK1⟩
            case measure => simp [intOf]; omega
          · have hcell2 := HC.out.at257 (k := k - 1) (by omega)
            have e1 : IntKind.i64.wrap ((k : Int) - 1) = (k : Int) - 1 := IntWalk.i64_in _ (by omega)
            have e2 : (0 : Int) ≤ (k : Int) - 1 := by omega
            have e3 : ((k : Int) - 1).toNat = k - 1 := by omega
            have e4 : (k : Int) - 1 < (n : Int) := by omega
            have g0 : (0 : Int) < (k : Int) := by omega
            have g1 : 0 < k := by omega
            obtain ⟨last, hlast⟩ : ∃ last, last = cb (k - 1) := ⟨_, rfl⟩
            rw [← hlast] at hcell2
            by_cases c3 : cb k ≤ last
            · have HO := Lib.hid (HMY.out false (by rw [riseT_no hlt (by rw [if_neg hk0, ← hlast]; omega)]; rfl))
              clear hlast
              go_wp2_with fail
              go_ret
              exact ⟨by rw [HO.out]; rfl, HL.out⟩
            · have HK1 : Hid (riseT cb (k + 1) = true) := by
                show _ = _
                rw [riseT_succ, HK.out, if_neg hk0, ← hlast, decide_eq_true (show last < cb k by omega), decide_eq_true (show cb k < 2048 by omega)]; rfl
              clear hlast
              go_wp2_with fail
              go_round
              case rel => first | exact ⟨k + 1, by omega, by go_num, HK1⟩ | exact ⟨k + 1, by omega, rfl, HK1⟩
              case measure => simp [intOf]; omega
        · obtain rfl : k = n := by omega
          go_wp2_with fail
          go_loop [5, 6] (fun u _ => ∃ j : Nat, j ≤ m ∧ u = .int .i64 (j : Int) ∧ Hid (riseT rv j = true)) (fun u _ => m - (intOf u).toNat)
          case atStart => exact ⟨0, by omega, rfl, rfl⟩
          case round =>
            obtain ⟨j, hj, rfl, HJ⟩ := hrel
            by_cases hlt2 : j < m
            · have hlt' : (j : Int) < (m : Int) := by omega
              have k0 : (0 : Int) ≤ (j : Int) := by omega
              obtain ⟨b, off, rfl⟩ := HR.out.some_of (by omega)
              have hcell := HR.out.at1 hlt2
              by_cases c0 : rv j < 0
              · have HO := Lib.hid (HMY.out false (by rw [riseT_no hlt2 (by
                  split
                  · omega
                  · next h => have := riseT_bd HJ.out (j - 1) (by omega); omega)]; simp))
                go_wp2_with fail
                go_ret
                exact ⟨by rw [HO.out]; rfl, HL.out⟩
              by_cases c2 : 2048 ≤ rv j
              · have HO := Lib.hid (HMY.out false (by rw [riseT_no hlt2 (by omega)]; simp))
                go_wp2_with fail
                go_ret
                exact ⟨by rw [HO.out]; rfl, HL.out⟩
              by_cases hk0 : j = 0
              · have HJ1 : Hid (riseT rv (j + 1) = true) := by
                  show _ = _
                  rw [riseT_succ, HJ.out, if_pos hk0, decide_eq_true (show -1 < rv j by omega), decide_eq_true (show rv j < 2048 by omega)]; rfl
                have g0 : ¬ (0 : Int) < (j : Int) := by omega
                have g1 : ¬ 0 < j := by omega
                clear hk0
                go_wp2_with fail
                go_round
                case rel => first | exact ⟨j + 1, by omega, by go_num, HJ1⟩ | exact ⟨j + 1, by omega, rfl, HJ1⟩
                case measure => simp [intOf]; omega
              · have hcell2 := HR.out.at1 (k := j - 1) (by omega)
                have e1 : IntKind.i64.wrap ((j : Int) - 1) = (j : Int) - 1 := IntWalk.i64_in _ (by omega)
                have e2 : (0 : Int) ≤ (j : Int) - 1 := by omega
                have e3 : ((j : Int) - 1).toNat = j - 1 := by omega
                have e4 : (j : Int) - 1 < (m : Int) := by omega
                have g0 : (0 : Int) < (j : Int) := by omega
                have g1 : 0 < j := by omega
                obtain ⟨last, hlast⟩ : ∃ last, last = rv (j - 1) := ⟨_, rfl⟩
                rw [← hlast] at hcell2
                by_cases c3 : rv j ≤ last
                · have HO := Lib.hid (HMY.out false (by rw [riseT_no hlt2 (by rw [if_neg hk0, ← hlast]; omega)]; simp))
                  clear hlast
                  go_wp2_with fail
                  go_ret
                  exact ⟨by rw [HO.out]; rfl, HL.out⟩
                · have HJ1 : Hid (riseT rv (j + 1) = true) := by
                    show _ = _
                    rw [riseT_succ, HJ.out, if_neg hk0, ← hlast, decide_eq_true (show last < rv j by omega), decide_eq_true (show rv j < 2048 by omega)]; rfl
                  clear hlast
                  go_wp2_with fail
                  go_round
                  case rel => first | exact ⟨j + 1, by omega, by go_num, HJ1⟩ | exact ⟨j + 1, by omega, rfl, HJ1⟩
                  case measure => simp [intOf]; omega
            · obtain rfl : j = m := by omega
              have HO := Lib.hid (HMY.out true (by rw [HK.out, HJ.out]; rfl))
              go_wp2_with fail
              go_ret
              exact ⟨by rw [HO.out]; rfl, HL.out⟩
end Go.Proofs.YtnbmmhoofilmfaaDoor
