/- Texts of this claim, merged by a program (a claim may have 60 files): BitsG, Val2, Val3, CkA, ValL. -/
import Derived.Test.YtnbmmhoofilmfaaGreatDoorK16
import Derived.Test.YtnbmmhoofilmfaaGreatDoorK19
import Derived.Test.YtnbmmhoofilmfaaGreatDoorK26
import Derived.Test.YtnbmmhoofilmfaaGreatDoorK13
import Derived.Test.YtnbmmhoofilmfaaGreatDoorK14
import Derived.Test.YtnbmmhoofilmfaaGreatDoorK06
import Derived.Test.YtnbmmhoofilmfaaGreatDoorK17
import Derived.Test.YtnbmmhoofilmfaaGreatDoorK23
/- bits.Has, bits.First of any block. -/
namespace Go.Proofs.YtnbmmhoofilmfaaGreatDoor
open Go.RowKit
set_option linter.unusedVariables false

/-- a block of the call's own -/
structure HsS (w : World) (P : Nat → Bool) (W : World) : Prop where
  b : Blk W w.heap.size 32 256 (bZ P)
  bel : Below w.heap.size w W
theorem HsS.below {w : World} {P : Nat → Bool} {W W' : World} (h : HsS w P W) (hb : Below W.heap.size W W') : HsS w P W' := ⟨h.b.below hb h.b.lt, h.bel.trans (hb.mono h.bel.size)⟩
theorem bitAnd (P : Nat → Bool) (i : Nat) : ∃ A : Int, bits .and .u8 (bZ P (i / 8)) ((2 ^ (i % 8) : Nat) : Int) = A ∧ (A != 0) = P i ∧ (A == 0) = !P i := by
  refine ⟨_, rfl, ?_⟩
  have e := by8_and P (i / 8) (i % 8) (Nat.mod_lt _ (by decide))
  rw [show 8 * (i / 8) + i % 8 = i by omega] at e
  unfold bZ
  rw [u8_and_nat _ _ (by8_lt _ _) (pow_lt8 i), e]
  have hp : 0 < 2 ^ (i % 8) := Nat.two_pow_pos _
  cases P i with
  | false => simp
  | true =>
    simp only [Bool.toNat_true, Nat.mul_one, Bool.not_true]
    have h0 : ((2 ^ (i % 8) : Nat) : Int) ≠ 0 := by omega
    exact ⟨by simpa using h0, by simpa using h0⟩
set_option maxRecDepth 100000 in
set_option maxHeartbeats 2000000 in
theorem bitHas_any (P : Nat → Bool) (i : Nat) (hi : i < 2048) (w : World) :
    Calls Tryz.prog 22 #[bval (bZ P), .int .i64 (i : Int)] w fun e w' => e = .returned (.bool (P i)) ∧ Below w.heap.size w w' := by
  have h0 : (i : Int).tdiv 8 = ((i / 8 : Nat) : Int) := by rw [Int.tdiv_eq_ediv_of_nonneg (by omega)]; omega
  have h1 : (0 : Int) ≤ ((i / 8 : Nat) : Int) := by omega
  have h2 : ((i / 8 : Nat) : Int) < 256 := by omega
  obtain ⟨A, hA, hA1, _⟩ := bitAnd P i
  have ST : Hid (HsS w P (w.alloc (.cells (Ks .u8 256 (bZ P)).toArray 32))) := ⟨Blk.new w _ _ _, (Below.refl _ _).alloc (Nat.le_refl _) _⟩
  have hi8 : i / 8 < 256 := by omega
  have HMK : Hid (∀ W, Calls Tryz.prog 54 #[.int .i64 (i : Int)] W fun e w' => e = .returned (.int .u8 ((2 ^ (i % 8) : Nat) : Int)) ∧ W = w') := fun W => bitMask_any i hi W
  have HIS : Hid (∀ W, Calls Tryz.prog 53 #[.int .i64 (i : Int)] W fun e w' => e = .returned (.bool true) ∧ W = w') := fun W => bitIs_any i hi W
  generalize ((2 ^ (i % 8) : Nat) : Int) = M at *
  generalize hc : P i = c at *
  generalize hk : i / 8 = k at *
  have HAA := Lib.hid hA
  have HA1 := Lib.hid hA1
  clear hA hA1 hc hk
  go_enter Tryz.func22, Tryz.ntmps22
  go_wp2_with fail
  refine wp_region_S (HsS w P) (by kernel_rfl) (by kernel_rfl) ⟨ST.out.b, ST.out.bel.drew⟩ ?_
  intro hne
  have hc : ∀ y : InW (HsS w P), y.W.cell? ⟨w.heap.size, k, none⟩ = some (.int .u8 (bZ P k)) := fun y => by have := y.h.b.seg k hi8; rwa [Nat.zero_add] at this
  first | go_big_quiet_skip | (go_big_quiet_want; go_big_quiet_op; go_big_quiet_on)
  go_big_quiet_want
  go_big_quiet_op
  refine ⟨_, fun s => q_call s (fun W hW => (HIS.out W).mono fun e w' h => ⟨h.1, h.2 ▸ hW⟩), ?_⟩
  go_big_quiet_on
  first | go_big_quiet_skip | (go_big_quiet_want; go_big_quiet_op; go_big_quiet_on)
  first | go_big_quiet_skip | (go_big_quiet_want; go_big_quiet_op; go_big_quiet_on)
  first | go_big_quiet_skip | (go_big_quiet_want; go_big_quiet_op; go_big_quiet_on)
  first | go_big_quiet_skip | (go_big_quiet_want; go_big_quiet_op; go_big_quiet_on)
  first | go_big_quiet_skip | (go_big_quiet_want; go_big_quiet_op; go_big_quiet_on)
  first | go_big_quiet_skip | (go_big_quiet_want; go_big_quiet_op; go_big_quiet_on)
  go_big_quiet_want
  go_big_quiet_op
  refine ⟨_, fun s => q_call s (fun W hW => (HMK.out W).mono fun e w' h => ⟨h.1, h.2 ▸ hW⟩), ?_⟩
  go_big_quiet_on
  have hA := HAA.out
  have hA1 := HA1.out
  first | go_big_quiet_skip | (go_big_quiet_want; go_big_quiet_op; go_big_quiet_on)
  first | go_big_quiet_skip | (go_big_quiet_want; go_big_quiet_op; go_big_quiet_on)
  first | go_big_quiet_skip | (go_big_quiet_want; go_big_quiet_op; go_big_quiet_on)
  first | go_big_quiet_skip | (go_big_quiet_want; go_big_quiet_op; go_big_quiet_on)
  refine wpQuiet_nil ?_
  intro w5 h5
  have st5 := h5.out
  clear h5 hne hc hA hA1
  go_wp2_with fail
  go_ret
  exact ⟨rfl, st5.bel⟩
/-- the first clear bit from lo on, of n; -1: there is none -/
def firstC (P : Nat → Bool) (lo : Nat) : Nat → Int
  | 0 => -1
  | n + 1 => if P lo then firstC P (lo + 1) n else (lo : Int)
theorem firstC_step {P : Nat → Bool} {lo k n : Nat} (h : ∀ i, lo ≤ i → i < lo + k → P i = true) : firstC P lo (k + n) = firstC P (lo + k) n := by
  induction k generalizing lo with
  | zero => simp
  | succ k ih =>
    rw [show k + 1 + n = (k + n) + 1 by omega, firstC, if_pos (h lo (Nat.le_refl _) (by omega)), ih (lo := lo + 1) fun i h1 h2 => h i (by omega) (by omega)]
    congr 1; omega
theorem firstC_none {P : Nat → Bool} {lo n : Nat} (h : ∀ i, lo ≤ i → i < lo + n → P i = true) : firstC P lo n = -1 := by
  have := firstC_step (n := 0) h
  rw [Nat.add_zero] at this
  rw [this]; rfl
theorem firstC_lt (P : Nat → Bool) (lo n : Nat) : decide (firstC P lo n < 0) = Im.allS P lo (lo + n) := by
  rw [Bool.eq_iff_iff, decide_eq_true_eq, Im.allS_iff]
  induction n generalizing lo with
  | zero => simp [firstC]; intro i h1 h2; omega
  | succ n ih =>
    rw [firstC]
    cases hp : P lo with
    | false =>
      rw [if_neg (by decide)]
      constructor
      · intro h; omega
      · intro h
        have := h lo (Nat.le_refl _) (by omega)
        rw [hp] at this; cases this
    | true =>
      rw [if_pos rfl, ih (lo + 1)]
      constructor
      · intro h i h1 h2
        by_cases e : i = lo
        · rw [e]; exact hp
        · exact h i (by omega) (by omega)
      · intro h i h1 h2; exact h i (by omega) (by omega)
set_option maxRecDepth 100000 in
set_option maxHeartbeats 2000000 in
theorem bitFirst_any (P : Nat → Bool) (lo n : Nat) (h1 : lo + n ≤ 2048) (w : World) :
    Calls Tryz.prog 162 #[bval (bZ P), .int .i64 (lo : Int), .int .i64 ((lo + n : Nat) : Int)] w fun e w' => e = .returned (.int .i64 (firstC P lo n)) ∧ Below w.heap.size w w' := by
  have ST : Hid (HsS w P (w.alloc (.cells (Ks .u8 256 (bZ P)).toArray 32))) := ⟨Blk.new w _ _ _, (Below.refl _ _).alloc (Nat.le_refl _) _⟩
  obtain ⟨hi, hhi⟩ : ∃ hi, hi = lo + n := ⟨_, rfl⟩
  rw [← hhi] at h1 ⊢
  have hlo : lo ≤ hi := by omega
  have HHI := Lib.hid hhi
  clear hhi
  go_enter Tryz.func162, Tryz.ntmps162
  have m1 : ¬ (lo : Int) < 0 := by omega
  have m2 : min (hi : Int) 2048 = (hi : Int) := by omega
  have m3 : max (lo : Int) 0 = (lo : Int) := by omega
  go_wp2_with fail
  go_loopw [7] (fun u wr => ∃ k : Nat, lo + k ≤ hi ∧ u = .int .i64 ((lo + k : Nat) : Int) ∧ (∀ i, lo ≤ i → i < lo + k → P i = true) ∧ HsS w P wr) (fun u _ => hi - (intOf u).toNat)
  case atStart => exact ⟨0, by omega, rfl, fun i a b => by omega, ST.out⟩
  case round =>
    clear ST
    obtain ⟨k, hk, rfl, hP, st⟩ := hrel
    have HPP : Hid (∀ i, lo ≤ i → i < lo + k → P i = true) := hP
    have HN : Hid (hi = lo + n) := HHI.out
    clear hP HHI
    obtain ⟨q, hq⟩ : ∃ q, q = lo + k := ⟨_, rfl⟩
    have HQ : Hid (q = lo + k) := hq
    rw [← hq] at hk ⊢
    clear hq
    by_cases hlt : q < hi
    · have hlt' : (q : Int) < (hi : Int) := by omega
      have h0 : (q : Int).tdiv 8 = ((q / 8 : Nat) : Int) := by rw [Int.tdiv_eq_ediv_of_nonneg (by omega)]; omega
      have h1' : (0 : Int) ≤ ((q / 8 : Nat) : Int) := by omega
      have h2' : ((q / 8 : Nat) : Int) < 256 := by omega
      obtain ⟨A, hA, _, hA1⟩ := bitAnd P q
      have hi8 : q / 8 < 256 := by omega
      have HMK : Hid (∀ W, Calls Tryz.prog 54 #[.int .i64 (q : Int)] W fun e w' => e = .returned (.int .u8 ((2 ^ (q % 8) : Nat) : Int)) ∧ W = w') := fun W => bitMask_any q (by omega) W
      generalize ((2 ^ (q % 8) : Nat) : Int) = M at *
      obtain ⟨c, hc⟩ : ∃ c, c = P q := ⟨_, rfl⟩
      rw [← hc] at hA1
      obtain ⟨r, hr⟩ : ∃ r, r = q / 8 := ⟨_, rfl⟩
      rw [← hr] at h0 h1' h2' hA hi8
      have HAA := Lib.hid hA
      have HA1 := Lib.hid hA1
      have HC := Lib.hid hc
      clear hA hA1 hc hr
      go_wp2_with fail
      refine wp_region_S (HsS w P) (by kernel_rfl) (by kernel_rfl) ⟨st.b, st.bel.drew⟩ ?_
      clear st
      intro hne
      have hc : ∀ y : InW (HsS w P), y.W.cell? ⟨w.heap.size, r, none⟩ = some (.int .u8 (bZ P r)) := fun y => by have := y.h.b.seg r hi8; rwa [Nat.zero_add] at this
      first | go_big_quiet_skip | (go_big_quiet_want; go_big_quiet_op; go_big_quiet_on)
      first | go_big_quiet_skip | (go_big_quiet_want; go_big_quiet_op; go_big_quiet_on)
      first | go_big_quiet_skip | (go_big_quiet_want; go_big_quiet_op; go_big_quiet_on)
      first | go_big_quiet_skip | (go_big_quiet_want; go_big_quiet_op; go_big_quiet_on)
      first | go_big_quiet_skip | (go_big_quiet_want; go_big_quiet_op; go_big_quiet_on)
      go_big_quiet_want
      go_big_quiet_op
      refine ⟨_, fun s => q_call s (fun W hW => (HMK.out W).mono fun e w' h => ⟨h.1, h.2 ▸ hW⟩), ?_⟩
      go_big_quiet_on
      have hA := HAA.out
      have hA1 := HA1.out
      first | go_big_quiet_skip | (go_big_quiet_want; go_big_quiet_op; go_big_quiet_on)
      first | go_big_quiet_skip | (go_big_quiet_want; go_big_quiet_op; go_big_quiet_on)
      refine wpQuiet_nil ?_
      intro w5 h5
      have st5 := h5.out
      clear h5 hne hc hA hA1
      cases c with
      | true =>
        go_wp2_with fail
        go_roundw
        case rel => exact ⟨k + 1, by have := HQ.out; omega, by have := HQ.out; first | (rw [this]; go_num) | (refine int_eq ?_; omega), fun i a b => by
          by_cases e : i = q
          · rw [e]; exact HC.out.symm
          · exact HPP.out i a (by have := HQ.out; omega), st5⟩
        case measure => simp [intOf]; omega
      | false =>
        have FIN : Hid (firstC P lo n = (q : Int)) := by
          show _ = _
          have hn : n = k + (n - k - 1 + 1) := by have := HN.out; have := HQ.out; omega
          rw [hn, firstC_step HPP.out, firstC, ← HQ.out, ← HC.out]; rfl
        go_wp2_with fail
        go_ret
        exact ⟨by rw [FIN.out]; rfl, st5.bel⟩
    · obtain rfl : q = hi := by omega
      have FIN : Hid (firstC P lo n = -1) := firstC_none fun i a b => HPP.out i a (by have := HN.out; have := HQ.out; omega)
      go_wp2_with fail
      go_ret
      exact ⟨by rw [FIN.out]; rfl, st.bel⟩
theorem bval_bits {z : Nat → Int} (hz : Byt z) : bval z = bval (bZ (bt z)) := by
  show Value.agg _ = Value.agg _
  rw [Ks_congr fun i _ => (bZ_bt hz i).symm]
theorem bitFirst_z {z : Nat → Int} (hz : Byt z) (LO HI : Int) (lo n : Nat) (h0 : LO = (lo : Int)) (h1 : HI = ((lo + n : Nat) : Int)) (h2 : lo + n ≤ 2048) (w : World) :
    Calls Tryz.prog 162 #[bval z, .int .i64 LO, .int .i64 HI] w fun e w' => e = .returned (.int .i64 (firstC (bt z) lo n)) ∧ Below w.heap.size w w' := by
  rw [bval_bits hz, h0, h1]; exact bitFirst_any (bt z) lo n h2 w
theorem bitHas_z {z : Nat → Int} (hz : Byt z) (I : Int) (i : Nat) (h0 : I = (i : Int)) (hi : i < 2048) (w : World) :
    Calls Tryz.prog 22 #[bval z, .int .i64 I] w fun e w' => e = .returned (.bool (bt z i)) ∧ Below w.heap.size w w' := by
  rw [bval_bits hz, h0]; exact bitHas_any (bt z) i hi w
end Go.Proofs.YtnbmmhoofilmfaaGreatDoor

/- Operations one by one, for XVal. No program in sight. -/
namespace Go.Proofs.YtnbmmhoofilmfaaGreatDoor.Vl
open Go.RowKit Go.Proofs.YtnbmmhoofilmfaaGreatDoor
set_option linter.unusedVariables false
section
variable {P : Program} {W : World} {o : Oper} {a : Act}
theorem r_move {v : Value} (x : Operand) (ho : o.op = .move x) (hx : a.eval x = v) : (execOp a.eval o).run P W = .ok (.value v) W := by simp [execOp, ho, hx]
theorem r_assign {v : Value} (x : Operand) (ho : o.op = .assign x) (hx : a.eval x = v) : (execOp a.eval o).run P W = .ok (.value v) W := by simp [execOp, ho, hx]
theorem r_extract {v : Value} (x : Operand) (i : Nat) (vs : Array Value) (ho : o.op = .extract x i) (hx : a.eval x = .tuple vs) (hv : vs[i]? = some v) : (execOp a.eval o).run P W = .ok (.value v) W := by
  simp [execOp, ho, hx, Instr.extract, hv]
theorem r_call2 (f : FuncId) (x y : Operand) (tys : Array TypeId) (u v : Value) (ho : o.op = .call { callee := .value (.func f), args := #[x, y], argTypes := tys }) (hx : a.eval x = u) (hy : a.eval y = v)
    (hr : ((do let d ← Deferred.ofValue (a.eval (.func f)) #[u, v]; invoke d.target d.args) : Sem Next).run P W = .ok (.enter f #[u, v]) W) : (execOp a.eval o).run P W = .ok (.enter f #[u, v]) W := by
  rw [← hr]
  unfold execOp
  rw [ho]
  simp only [resolve]
  simp [hx, hy]
theorem op_call {K : Act → World → Prop} {Q : Exit → Act → World → Prop} (f : FuncId) (args : Array Value) (hrun : (execOp a.eval o).run P W = .ok (.enter f args) W) (hc : Calls P f args W fun e W' => ∃ v, e = .returned v ∧ K (a.put o.dst v) W') : o.wp P a W K Q := by
  unfold Oper.wp; rw [hrun]
  refine hc.mono ?_
  rintro e W' ⟨v, rfl, h⟩
  exact h
theorem foldl_put (a : Act) : ∀ (ds : List Nat) (x : Act), (ds.foldl (fun x d => x.put (some d) (a.tmps.getD d undef)) x).defers = x.defers ∧ (ds.foldl (fun x d => x.put (some d) (a.tmps.getD d undef)) x).tmps.size = x.tmps.size ∧
    ∀ k, k < x.tmps.size → ((ds.foldl (fun x d => x.put (some d) (a.tmps.getD d undef)) x).tmps.getD k undef = if k ∈ ds then a.tmps.getD k undef else x.tmps.getD k undef)
  | [], x => ⟨rfl, rfl, fun k _ => by simp⟩
  | d :: ds, x => by
    obtain ⟨h1, h2, h3⟩ := foldl_put a ds (x.put (some d) (a.tmps.getD d undef))
    rw [List.foldl_cons]
    refine ⟨h1.trans rfl, h2.trans (Tb.put_size _ _ _), fun k hk => ?_⟩
    rw [h3 k (by rw [Tb.put_size]; exact hk)]
    by_cases hm : k ∈ ds
    · rw [if_pos hm, if_pos (List.mem_cons_of_mem _ hm)]
    · rw [if_neg hm]
      by_cases e : k = d
      · subst e
        rw [if_pos (List.mem_cons_self ..), Tb.put_same _ _ _ hk]
      · rw [if_neg (by simp [e, hm]), Tb.put_other _ _ _ _ e]
theorem I.all {L : List Oper} {V : Nat → Value → World → Prop} {S : (Nat → Bool) → World → Prop} {a0 : Act} (h : I L V S a0 (fun _ => true) a W) (ds : List Nat) (hd : ∀ i d, dst L i = some d → d ∈ ds) : a = ds.foldl (fun x d => x.put (some d) (a.tmps.getD d undef)) a0 := by
  obtain ⟨h1, h2, h3⟩ := foldl_put a ds a0
  generalize (ds.foldl (fun x d => x.put (some d) (a.tmps.getD d undef)) a0) = y at h1 h2 h3
  have hs : a.tmps = y.tmps := by
    refine Array.ext (h.size.trans h2.symm) fun k hk1 hk2 => ?_
    have e : a.tmps.getD k undef = y.tmps.getD k undef := by
      rw [h3 k (by rw [← h.size]; exact hk1)]
      by_cases hm : k ∈ ds
      · rw [if_pos hm]
      · rw [if_neg hm]
        exact h.other k fun i _ e => hm (hd i k e)
    rw [Array.getD_eq_getD_getElem?, Array.getD_eq_getD_getElem?, Array.getElem?_eq_getElem hk1, Array.getElem?_eq_getElem hk2] at e
    exact e
  have hdf : a.defers = y.defers := h.defers.trans h1.symm
  cases a
  cases y
  simp only at hs hdf
  rw [hs, hdf]
end
end Go.Proofs.YtnbmmhoofilmfaaGreatDoor.Vl

/- More operations one by one, for XVal: addresses, loads and stores in the middle of a block, calls that may panic. No program in sight. -/
namespace Go.Proofs.YtnbmmhoofilmfaaGreatDoor
open Go.RowKit
set_option linter.unusedVariables false
theorem At.set1 {w : World} {g : Nat} {T : TypeId} {cs : Array Value} (h : At w g T cs) (j : Nat) (v : Value) : At (w.setCell ⟨g, j, none⟩ v) g T (cs.setIfInBounds j v) := heap_setCell_at h j v
/-- cells in the middle, written -/
def setA (cs : Array Value) : Nat → List Value → Array Value
  | _, [] => cs
  | o, v :: r => setA (cs.setIfInBounds o v) (o + 1) r
theorem At.setL {g : Nat} {T : TypeId} : ∀ (vs : List Value) (o : Nat) {w : World} {cs : Array Value}, At w g T cs → At (w.setCells g o vs) g T (setA cs o vs)
  | [], o, w, cs, h => h
  | v :: r, o, w, cs, h => At.setL r (o + 1) (h.set1 o v)
theorem At.there {w : World} {g : Nat} {T : TypeId} {cs : Array Value} (h : At w g T cs) (o n : Nat) (hn : o + n ≤ cs.size) : w.there g o n := fun j hj => by
  refine ⟨?_, soft_of_heap h _⟩
  rw [h.cell (i := o + j) (v := cs[o + j]'(by omega)) (Array.getElem?_eq_getElem (by omega))]
  rfl
namespace Vl
section
variable {P : Program} {W : World} {o : Oper} {a : Act}
theorem r_nilc (x : Operand) (ho : o.op = .nilCheck x) (p : Addr) (hx : a.eval x = .pointer (some p)) : (execOp a.eval o).run P W = .ok (.value (.pointer (some p))) W := by simp [execOp, ho, hx]
theorem r_field {u v : Value} (s : TypeId) (x : Operand) (f : Nat) (ho : o.op = .fieldAddr s x f) (hx : a.eval x = u) (hr : (Instr.fieldAt s u f).run P W = .ok v W) : (execOp a.eval o).run P W = .ok (.value v) W := by simp [execOp, ho, hx, hr]
theorem r_ixa (t e : TypeId) (x ix : Operand) (ho : o.op = .indexAddr t x ix) (hu : P.underlying t = some (.slice e)) (m : Nat) (hs : (P.info? e).map (·.size) = some m) (b off n cap k : Nat) (hx : a.eval x = .slice (some ⟨b, off, none⟩) n cap) (hi : a.eval ix = .int .i64 (k : Int)) (hk : k < n) :
    (execOp a.eval o).run P W = .ok (.value (.pointer (some ⟨b, off + k * m, none⟩))) W := by
  have hel : P.elem t = e := by simp [Program.elem, hu]
  have hu' : P.underlying t = some (.slice (P.elem t)) := by rw [hel]; exact hu
  have hr := run_indexAt_slice (P := P) W t ⟨b, off, none⟩ n cap .i64 (k : Int) hu'
  rw [if_pos ⟨by omega, by omega⟩, hel] at hr
  cases hq : P.info? e with
  | none => rw [hq] at hs; cases hs
  | some i =>
    have hm : i.size = m := by simpa [hq] using hs
    have hsz : (Go.sizeOf e).run P W = .ok m W := by simp [Go.sizeOf, typeInfo, hq, hm]
    rw [hsz, Result.andThen_ok, Int.toNat_natCast] at hr
    simp [execOp, ho, hx, hi, hr, Addr.add]
variable {K : Act → World → Prop} {Q : Exit → Act → World → Prop}
theorem op_stmid (T : TypeId) (x y : Operand) (ho : o.op = .store T x y) (b off : Nat) (cells : Array Value) (hx : a.eval x = .pointer (some ⟨b, off, none⟩)) (hy : a.eval y = .agg cells) (ht : W.there b off cells.size) (hi : (P.info? T).map (·.size) = some cells.size) (h1 : cells.all (·.oneCell') = true)
    (h : K (a.put o.dst undef) (W.setCells b off cells.toList)) : o.wp P a W K Q := wp_store_mid T x y ho b off cells hx hy ht hi h1 h
theorem op_stc (T : TypeId) (x y : Operand) (ho : o.op = .store T x y) (b off : Nat) (v u : Value) (hx : a.eval x = .pointer (some ⟨b, off, none⟩)) (hy : a.eval y = v) (hc : W.cell? ⟨b, off, none⟩ = some u) (hf : W.frozen? ⟨b, off, none⟩ = false) (hi : (P.info? T).map (·.size) = some 1) (h1 : v.oneCell' = true)
    (h : K (a.put o.dst undef) (W.setCell ⟨b, off, none⟩ v)) : o.wp P a W K Q := by
  refine op_skip (w' := W.setCell ⟨b, off, none⟩ v) ?_ h
  unfold execOp
  simp only [ho, hx, hy, Instr.storeAt, Instr.sureAddr, Sem.run_bind, Sem.run_pure, Result.andThen_ok, run_storeVar1 W b off T u v hc hf hi h1]
/-- a call that may panic -/
theorem op_callP (f : FuncId) (args : Array Value) (hrun : (execOp a.eval o).run P W = .ok (.enter f args) W) (hc : Calls P f args W fun e W' => (∃ v, e = .returned v ∧ K (a.put o.dst v) W') ∨ (∃ ch, e = .panicked ch ∧ Q (.panic ch) a W')) : o.wp P a W K Q := by
  unfold Oper.wp; rw [hrun]
  refine hc.mono ?_
  rintro e W' (⟨v, rfl, h⟩ | ⟨ch, rfl, h⟩)
  · exact h
  · exact h
end
end Vl
end Go.Proofs.YtnbmmhoofilmfaaGreatDoor

/- check: must; the struct exam in memory; start, own. -/
namespace Go.Proofs.YtnbmmhoofilmfaaGreatDoor
open Go.RowKit
set_option linter.unusedVariables false

/-- what must throws -/
def brk (k : Int) : List PanicEntry := [{ v := .iface 183 (.int .i64 k), recovered := false }]
/-- a rule held, or was thrown -/
def Said (ok : Bool) (k : Int) (e : Ending) : Prop := (ok = true ∧ e = .returned (.tuple #[])) ∨ (ok = false ∧ e = .panicked (brk k))
theorem must_yes (k : Int) (w : World) : Calls Tryz.prog 159 #[.int .i64 k, .bool true] w fun e w' => e = .returned (.tuple #[]) ∧ w = w' := by
  go_enter Tryz.func159, Tryz.ntmps159
  go_wp2_with fail
  refine bodyPost_end (results_none rfl _ _ _) rfl ⟨rfl, rfl⟩
theorem must_no (k : Int) (w : World) : Calls Tryz.prog 159 #[.int .i64 k, .bool false] w fun e w' => e = .panicked (brk k) ∧ w = w' := by
  go_enter Tryz.func159, Tryz.ntmps159
  go_wp2_with fail
  exact ⟨rfl, rfl, rfl⟩
theorem must_any (k : Int) (b : Bool) (w : World) : Calls Tryz.prog 159 #[.int .i64 k, .bool b] w fun e w' => Said b k e ∧ w = w' := by
  cases b with
  | true => exact (must_yes k w).mono fun e w' h => ⟨.inl ⟨rfl, h.1⟩, h.2⟩
  | false => exact (must_no k w).mono fun e w' h => ⟨.inr ⟨rfl, h.1⟩, h.2⟩
/-- the cells of exam -/
abbrev xcells (im : Value) (g s i j o : Int) (ds ino orp own sl un : Value) : Array Value :=
  #[im, .int .i64 g, .int .i64 s, .int .i64 i, .int .i64 j, .int .u32 o, .int .i64 g, .int .i64 s, .int .i64 i, .int .i64 j, ds, ino, orp, own, sl, un]
/-- the geometry that exam knows -/
def XG (p : Nat) (g s i j : Nat) (W : World) : Prop := W.rangeAt p 6 (gcells g s i j).toList
theorem XG.below {p g s i j : Nat} {W W' : World} (h : XG p g s i j W) (hl : p < W.heap.size) (hb : Below W.heap.size W W') : XG p g s i j W' := rangeAt_below h hb hl
theorem XG.cell {p g s i j : Nat} {W : World} (h : XG p g s i j W) : W.cell? ⟨p, 6, none⟩ = some (.int .i64 (g : Int)) ∧ W.cell? ⟨p, 7, none⟩ = some (.int .i64 (s : Int)) ∧ W.cell? ⟨p, 8, none⟩ = some (.int .i64 (i : Int)) ∧ W.cell? ⟨p, 9, none⟩ = some (.int .i64 (j : Int)) :=
  ⟨h 0 _ rfl, h 1 _ rfl, h 2 _ rfl, h 3 _ rfl⟩
theorem XG.of {p : Nat} {W : World} {T : TypeId} {im : Value} {g s i j : Nat} {o : Int} {ds ino orp own sl un : Value} (h : At W p T (xcells im g s i j o ds ino orp own sl un)) : XG p g s i j W := by
  intro k v hv
  match k, hv with
  | 0, hv => injection hv with hv; subst hv; exact h.cell (i := 6) rfl
  | 1, hv => injection hv with hv; subst hv; exact h.cell (i := 7) rfl
  | 2, hv => injection hv with hv; subst hv; exact h.cell (i := 8) rfl
  | 3, hv => injection hv with hv; subst hv; exact h.cell (i := 9) rfl
set_option maxHeartbeats 1000000 in
theorem ckStart_any (p g s i j k : Nat) (hm : mayG g s i j = true) (hk : k < g) (w : World) (hg : XG p g s i j w) :
    Calls Tryz.prog 161 #[.pointer (some ⟨p, 0, none⟩), .int .i64 (k : Int)] w fun e w' => e = .returned (.int .i64 ((2 + j + k * s : Nat) : Int)) ∧ Below w.heap.size w w' := by
  have HM := Lib.hid hm
  have HG : Hid (w.rangeAt p 6 (gcells g s i j).toList) := hg
  clear hm hg
  go_enter Tryz.func161, Tryz.ntmps161
  go_wp2_with (first | (refine wp_loadMid rfl 23 (.tmp 10) rfl p 6 (gcells g s i j).toList _ rfl HG.out Tryz.underlying23 rfl (by kernel_rfl) ?_))
  refine (geoStart_yes g s i j k HM.out hk _).mono ?_
  rintro e w1 ⟨rfl, hb⟩
  have HB := Lib.hid hb
  clear hb
  go_wp2_with fail
  go_ret
  exact ⟨rfl, HB.out⟩
set_option maxHeartbeats 1000000 in
theorem ckOwn_any (p g s i j : Nat) (hi : i ≤ 64) (w : World) (hg : XG p g s i j w) :
    Calls Tryz.prog 163 #[.pointer (some ⟨p, 0, none⟩)] w fun e w' => e = .returned (.int .i64 ((2 + i / 4 : Nat) : Int)) ∧ w = w' := by
  have c := hg.cell.2.2.1
  have hq : (i : Int).tdiv 4 = ((i / 4 : Nat) : Int) := by rw [Int.tdiv_eq_ediv_of_nonneg (by omega)]; rfl
  have FIN : Hid ((2 : Int) + ((i / 4 : Nat) : Int) = ((2 + i / 4 : Nat) : Int)) := by show _ = _; omega
  generalize hx : i / 4 = x at *
  have hx9 : x ≤ 64 := by omega
  clear hg hx
  go_enter Tryz.func163, Tryz.ntmps163
  go_wp2_with fail
  go_ret
  exact ⟨by rw [← FIN.out]; rfl, rfl⟩
end Go.Proofs.YtnbmmhoofilmfaaGreatDoor

/- As XVal, where what a slot holds may turn with what has come up. No program in sight. -/
namespace Go.Proofs.YtnbmmhoofilmfaaGreatDoor.Vm
open Go.RowKit Go.Proofs.YtnbmmhoofilmfaaGreatDoor Go.Proofs.YtnbmmhoofilmfaaGreatDoor.Vl
set_option linter.unusedVariables false

/-- what holds between the operations: R l W, and of each that has come up V i v W -/
structure I (L : List Oper) (V : (Nat → Bool) → Nat → Value → World → Prop) (S : (Nat → Bool) → World → Prop) (a0 : Act) (l : Nat → Bool) (a : Act) (W : World) : Prop where
  defers : a.defers = a0.defers
  size : a.tmps.size = a0.tmps.size
  other : ∀ k, (∀ i, l i = true → dst L i ≠ some k) → a.tmps.getD k undef = a0.tmps.getD k undef
  vals : ∀ i d, l i = true → dst L i = some d → V l i (a.tmps.getD d undef) W
  st : S l W
section
variable {P : Program} {L : List Oper} {V : (Nat → Bool) → Nat → Value → World → Prop} {S : (Nat → Bool) → World → Prop} {a0 : Act} {l : Nat → Bool} {a : Act} {W W' : World}
/-- operation n has come up with the value v -/
theorem I.next (h : I L V S a0 l a W) {sz : Nat} (hB : dstB L a0.tmps.size = true) (n : Nat) {o : Oper} (ho : L[n]? = some o) (v : Value) (hl : l n = false) (hV : ∀ i d, l i = true → dst L i = some d → V l i (a.tmps.getD d undef) W → V (fun j => j == n || l j) i (a.tmps.getD d undef) W') (hv : V (fun j => j == n || l j) n v W') (hS : S (fun j => j == n || l j) W') :
    I L V S a0 (fun j => j == n || l j) (a.put o.dst v) W' := by
  have hdn : dst L n = o.dst := by unfold dst; rw [ho]; rfl
  cases hd : o.dst with
  | none =>
    refine ⟨h.defers, h.size, fun k hk => h.other k fun i hi => hk i (by show (i == n || l i) = true; rw [hi, Bool.or_true]), fun i d hi he => ?_, hS⟩
    by_cases e : i = n
    · subst e; rw [hdn, hd] at he; cases he
    · have hi' : l i = true := by
        have : (i == n || l i) = true := hi
        rwa [show (i == n) = false by simpa using e, Bool.false_or] at this
      exact hV i d hi' he (h.vals i d hi' he)
  | some d =>
    have hlt := dstB_lt hB (n := n) (d := d) (by rw [hdn, hd])
    refine ⟨h.defers, (Tb.put_size _ _ _).trans h.size, fun k hk => ?_, fun i d' hi he => ?_, hS⟩
    · have hkd : k ≠ d := fun e => hk n (by show (n == n || l n) = true; simp) (by rw [hdn, hd, e])
      rw [Tb.put_other _ _ _ _ hkd]
      exact h.other k fun i hi => hk i (by show (i == n || l i) = true; rw [hi, Bool.or_true])
    · by_cases e : i = n
      · subst e
        rw [hdn, hd] at he
        injection he with he
        subst he
        rw [Tb.put_same _ _ _ (by rw [h.size]; exact hlt)]
        exact hv
      · have hi' : l i = true := by
          have : (i == n || l i) = true := hi
          rwa [show (i == n) = false by simpa using e, Bool.false_or] at this
        have hdd : d' ≠ d := fun e2 => dstB_ne hB (n := n) (d := d) (by rw [hdn, hd]) e (by rw [he, e2])
        rw [Tb.put_other _ _ _ _ hdd]
        exact hV i d' hi' he (h.vals i d' hi' he)
/-- **A drawn region by its operations' values.** -/
theorem wp_region_val (V : (Nat → Bool) → Nat → Value → World → Prop) (S : (Nat → Bool) → World → Prop) {id : Nat} {Q : Exit → Act → World → Prop} {w : World} (hm : P.follows .mixedOrders = true) (hd : downB .any L.toArray = true)
    (hVl : ∀ l l', (∀ i, i < L.length → l i = l' i) → ∀ i v w, V l i v w → V l' i v w) (hS : ∀ l l' w, (∀ i, i < L.length → l i = l' i) → S l w → S l' w) (h0 : S (fun _ => false) { w with drawn := w.drawn + 1 }) (hst : dstB L a.tmps.size = true → StepsI P .any L.toArray Q (I L V S a) 0 L)
    (hB : dstB L a.tmps.size = true) (hend : ∀ a' w', I L V S a (fun _ => true) a' w' → Q .normal a' w') : (Code.region id L.toArray true).wp P Q a w := by
  refine wp_region_inv (I L V S a) hm hd (fun l l' a' w' he h => ?_) ⟨rfl, rfl, fun _ _ => rfl, (fun i d h => by cases h), h0⟩ (hst hB) hend
  have hlt : ∀ {i d}, dst L i = some d → i < L.length := fun {i d} e => by
    unfold dst at e
    cases hl : L[i]? with
    | none => rw [hl] at e; cases e
    | some o => exact (List.getElem?_eq_some_iff.1 hl).1
  exact ⟨h.defers, h.size, fun k hk => h.other k fun i hi e => hk i (by rw [← he i (hlt e)]; exact hi) e, fun i d hi e => hVl l l' he i _ w' (h.vals i d (by rw [he i (hlt e)]; exact hi) e), hS l l' w' he h.st⟩
/-- an operation without a guard -/
theorem step {ops : Array Oper} {Q : Exit → Act → World → Prop} {n : Nat} {o : Oper} (h : I L V S a0 l a W) (hB : dstB L a0.tmps.size = true) (hn : ops[n]? = some o) (hnL : L[n]? = some o) (hg : o.guard = none) (hl : l n = false)
    (hw : o.wp P a W (fun a' W' => ∃ v, a' = a.put o.dst v ∧ (∀ i d, l i = true → dst L i = some d → V l i (a.tmps.getD d undef) W → V (fun j => j == n || l j) i (a.tmps.getD d undef) W') ∧ V (fun j => j == n || l j) n v W' ∧ S (fun j => j == n || l j) W') Q) : wpOp P ops Q n (I L V S a0 (fun j => j == n || l j)) a W := by
  refine Tb.wpOp_of hn hg ?_
  refine Oper.wp_mono (fun a' W' h' => ?_) hw
  obtain ⟨v, rfl, h1, h2, h3⟩ := h'
  exact h.next (sz := 0) hB n hnL v hl h1 h2 h3
/-- .. that leaves the world alone -/
theorem stepQ {ops : Array Oper} {Q : Exit → Act → World → Prop} {n : Nat} {o : Oper} (h : I L V S a0 l a W) (hB : dstB L a0.tmps.size = true) (hn : ops[n]? = some o) (hnL : L[n]? = some o) (hg : o.guard = none) (hl : l n = false)
    (v : Value) (hr : (execOp a.eval o).run P W = .ok (.value v) W) (hVq : ∀ i v, V l i v W → V (fun j => j == n || l j) i v W) (hv : V (fun j => j == n || l j) n v W) (hS : S l W → S (fun j => j == n || l j) W) : wpOp P ops Q n (I L V S a0 (fun j => j == n || l j)) a W :=
  step h hB hn hnL hg hl (op_val hr ⟨v, rfl, fun _ _ _ _ h => hVq _ _ h, hv, hS h.st⟩)
end
end Go.Proofs.YtnbmmhoofilmfaaGreatDoor.Vm
