/- Texts of this claim, merged by a program (a claim may have 60 files): AtN, MkA, MkB, Geo4, MkC, Geo5, AtM, Pk5. -/
import Derived.Test.YtnbmmhoofilmfaaDoorK10
import Derived.Deep.MidRow
import Derived.Test.YtnbmmhoofilmfaaDoorK11
import Derived.Test.YtnbmmhoofilmfaaDoorK15
import Derived.Test.YtnbmmhoofilmfaaDoorK17
import Derived.Test.YtnbmmhoofilmfaaDoorK07
import Derived.Test.YtnbmmhoofilmfaaDoorK09
import Derived.Shelf.Abstract
import Derived.TacticsInMore
import Derived.LoopNIn
import Derived.LoopIn
/- One cell of a row stored; what grows. No program in sight. -/
namespace Go.Proofs.YtnbmmhoofilmfaaDoor
open Go.RowKit
set_option linter.unusedVariables false
theorem RArr.cellset {W : World} {g : Nat} {T : TypeId} {m n : Nat} {f : Nat → List Value} (h : RArr W g T m n f) {k j : Nat} (hk : k < n) (hj : j < m) (hf : ∀ i, (f i).length = m) (v : Value) : RArr (W.setCell ⟨g, k * m + j, none⟩ v) g T m n (fun i => if i = k then (f i).set j v else f i) := by
  have ho := Only.setCell W ⟨g, k * m + j, none⟩ v
  obtain ⟨cs, h1, h2⟩ := h.blk
  obtain ⟨c', hc1, hc2⟩ := ho.shape _ _ _ h1
  refine ⟨⟨c', hc2, by rw [hc1, h2]⟩, fun i hi p u hp => ?_⟩
  rw [Nat.zero_add]
  obtain ⟨x, hx⟩ : ∃ x, W.cell? ⟨g, k * m + j, none⟩ = some x := by
    have := h.seg k hk j _ (List.getElem?_eq_getElem (by rw [hf]; exact hj))
    rw [Nat.zero_add] at this
    exact ⟨_, this⟩
  have hpm : p < m := by
    have := (List.getElem?_eq_some_iff.1 hp).1
    by_cases e : i = k
    · rw [if_pos e, List.length_set, hf] at this; exact this
    · rw [if_neg e, hf] at this; exact this
  by_cases e : i = k
  · subst e
    rw [if_pos rfl] at hp
    by_cases e2 : p = j
    · subst e2
      rw [List.getElem?_set_self (by rw [hf]; exact hpm)] at hp
      cases hp
      exact World.cell?_setCell_same _ _ _ hx
    · rw [List.getElem?_set_ne (fun h => e2 h.symm)] at hp
      rw [World.cell?_setCell_other _ _ _ _ (by intro h; injection h with _ h _; omega)]
      have := h.seg i hi p u hp
      rwa [Nat.zero_add] at this
  · rw [if_neg e] at hp
    have hne : k * m + j ≠ i * m + p := by
      rcases Nat.lt_or_gt_of_ne e with h' | h'
      · have : (i + 1) * m ≤ k * m := Nat.mul_le_mul_right m h'
        rw [Nat.succ_mul] at this; omega
      · have : (k + 1) * m ≤ i * m := Nat.mul_le_mul_right m h'
        rw [Nat.succ_mul] at this; omega
    rw [World.cell?_setCell_other _ _ _ _ (by intro h; injection h with _ h _; exact hne h)]
    have := h.seg i hi p u hp
    rwa [Nat.zero_add] at this
theorem Only.grown {b : Nat} {w w' : World} (h : Only b w w') : w.grownBy w' (some b) := ⟨h.os, h.tape, h.output, by rw [h.size]; exact Nat.le_refl _, fun k _ hk => h.block k (fun e => hk (by rw [e]))⟩
/-- a row stored in the midst of a block: the world behind it gets a name -/
theorem wp_storeMid {P : Program} {ops : Array Oper} {rest : List Oper} {op : Oper} {a : Act} {w : World} {Q : Exit → Act → World → Prop} (hgd : op.guard = none) (ty : TypeId) (x y : Operand) (ho : op.op = .store ty x y)
    (b o : Nat) (cs : List Value) (hx : a.eval x = .pointer (some ⟨b, o, none⟩)) (hy : a.eval y = .agg cs.toArray)
    (ht : w.there b o cs.length) (hi : (P.info? ty).map (·.size) = some cs.length) (h1 : ∀ v ∈ cs, v.oneCell' = true)
    (h : ∀ w', Hid (w' = w.setCells b o cs) → wpList P ops Q rest (a.put op.dst undef) w') : wpList P ops Q (op :: rest) a w :=
  wpList_store_mid hgd ty x y ho b o cs.toArray hx hy (by simpa using ht) (by simpa using hi) (by rw [List.all_toArray, List.all_eq_true]; exact h1) (h _ (Lib.hid rfl))
/-- a literal slice of one element -/
theorem wpList_slice1 {P : Program} {w : World} {ops : Array Oper} {rest : List Oper} {o : Oper} {a : Act} {Q : Exit → Act → World → Prop} (hgd : o.guard = none) (t : TypeId) (n i : Nat) (x : Operand) (ho : o.op = .buildSlice t n #[(i, x)])
    (u : Value) (hx : a.eval x = u) (v : Value) (w' : World) (hr : (Instr.buildSlice t n #[(i, u)]).run P w = .ok v w') (h : wpList P ops Q rest (a.put o.dst v) w') : wpList P ops Q (o :: rest) a w :=
  wpList_plain hgd fun _ hK => by
    unfold Oper.wp execOp
    subst hx
    simp only [ho, Sem.run_bind, List.map_toArray, List.map_cons, List.map_nil, hr, Result.andThen_ok, Sem.run_pure]
    exact hK _ _ h
end Go.Proofs.YtnbmmhoofilmfaaDoor

/- mkfs.descs. -/
namespace Go.Proofs.YtnbmmhoofilmfaaDoor
open Go.RowKit
set_option linter.unusedVariables false

structure DsC (w : World) (G S I J : Int) (q n : Nat) (f : Nat → List Value) (W : World) : Prop where
  s : At W w.heap.size 23 (gcells G S I J)
  a : RArr W q 74 3 n f
  bel : Below w.heap.size w W
theorem DsC.below {w : World} {G S I J : Int} {q n : Nat} {f : Nat → List Value} {W W' : World} (h : DsC w G S I J q n f W) (hb : Below W.heap.size W W') : DsC w G S I J q n f W' :=
  ⟨h.s.below hb h.s.lt, h.a.below hb, h.bel.trans (hb.mono h.bel.size)⟩
/-- rows that are made so far -/
def mixD (Da I : Int) (k i : Nat) : List Value := if i < k then [.int .i64 Da, .int .i64 I, .int .i64 0] else [.int .i64 0, .int .i64 0, .int .i64 0]
theorem mixD_len (Da I : Int) (k i : Nat) : (mixD Da I k i).length = 3 := by unfold mixD; split <;> rfl
set_option maxRecDepth 100000 in
set_option maxHeartbeats 4000000 in
theorem mkDescs_any (G S I J : Int) (hm : mayG G S I J = true) (w : World) :
    Calls Tryd.prog 38 #[gval G S I J] w fun e w' => ∃ v, e = .returned v ∧ Below w.heap.size w w' ∧
      RMine w' w.heap.size 74 3 v G.toNat (df (fun _ => nDa G S I J) (fun i => if i = 0 then I - 1 else I) (fun i => if i = 0 then 1 else 0)) := by
  obtain ⟨h1, h2, h3, h4, h5, h6, h7, h8, h9, h10, h11⟩ := (mayG_iff G S I J).1 hm
  obtain ⟨n, rfl⟩ : ∃ n : Nat, G = (n : Int) := ⟨G.toNat, by omega⟩
  have HD : Hid (∀ W, Calls Tryd.prog 26 #[gval n S I J] W fun e w' => e = .returned (.int .i64 (nDa n S I J)) ∧ Below W.heap.size W w') := fun W => geoData_any n S I J W
  rw [Int.toNat_natCast]
  generalize nDa n S I J = Da at *
  clear hm h11
  have hmk := fun W => run_mkrow (P := Tryd.prog) 72 74 (dval 0 0 0) 3 24 Tryd.underlying72 info_desc3 .i64 .i64 n (by omega) (by omega) W
  have hs0 := At.new w 23 (gcells n S I J)
  have hL0 : Below w.heap.size w (w.alloc (.cells (gcells n S I J) 23)) := (Below.refl _ _).alloc (Nat.le_refl _) _
  have c0 : (w.alloc (.cells (gcells n S I J) 23)).cell? ⟨w.heap.size, 0, none⟩ = some (.int .i64 (n : Int)) := hs0.cell (i := 0) rfl
  have hA0 := RArr.made (m := 3) (w.alloc (.cells (gcells n S I J) 23)) (dcells 0 0 0) rfl (by omega) n 74
  have st0 : Hid (DsC w n S I J (w.heap.size + 1) n (mixD Da I 0) ((w.alloc (.cells (gcells n S I J) 23)).alloc (.cells (madeCells (dval 0 0 0).cells (n * 3)) 74))) :=
    ⟨hs0.alloc _, by have := hA0.congr (f' := mixD Da I 0) fun i _ => rfl; simp only [World.size_alloc] at this; exact this, hL0.alloc hL0.size _⟩
  clear hs0 hL0 hA0
  go_enter Tryd.func38, Tryd.ntmps38
  go_wp2_with fail
  go_loopw [4, 10] (fun v u wr => ∃ k : Nat, k ≤ n ∧ u = .int .i64 (k : Int) ∧ DsC w n S I J (w.heap.size + 1) n (mixD Da I k) wr) (fun _ u _ => n - (intOf u).toNat)
  case atStart => exact ⟨0, by omega, rfl, st0.out⟩
  case round =>
    clear st0 c0 hmk
    obtain ⟨k, hk, rfl, st⟩ := hrel
    by_cases hlt : k < n
    · have hlt' : (k : Int) < (n : Int) := by omega
      have k0 : (0 : Int) ≤ (k : Int) := by omega
      go_wp2_with fail
      refine wp_region_bar2 (DsC w n S I J (w.heap.size + 1) n (mixD Da I k)) 8 (by kernel_rfl) (by kernel_rfl) (by kernel_rfl) (by kernel_rfl) (by kernel_rfl) (by decide) ⟨st.s, st.a.of_block rfl, st.bel.drew⟩ ?_
      simp only [List.take_succ_cons, List.take_zero, List.drop_succ_cons, List.drop_zero]
      clear st
      intro hne
      have hc : ∀ y : InW (DsC w n S I J (w.heap.size + 1) n (mixD Da I k)), y.W.cell? ⟨w.heap.size, 2, none⟩ = some (.int .i64 I) := fun y => y.h.s.cell (i := 2) rfl
      first | go_big_quiet_skip | (go_big_quiet_want; go_big_quiet_op; go_big_quiet_on)
      first | go_big_quiet_skip | (go_big_quiet_want; go_big_quiet_op; go_big_quiet_on)
      refine q_load rfl 23 (.tmp 1) rfl _ _ rfl (gcells n S I J).toList _ (fun W h => h.s.range) Tryd.underlying23 rfl (by kernel_rfl) ?_
      refine wpQuiet_frame (by simp only [Act.put, List.setIfInBounds_toArray, List.set_cons_succ, List.set_cons_zero]; exact rfl) ?_
      go_big_quiet_want
      go_big_quiet_op
      refine ⟨_, fun s => q_call s (fun W hW => (HD.out W).mono fun e w' h => ⟨h.1, hW.below h.2⟩), ?_⟩
      go_big_quiet_on
      first | go_big_quiet_skip | (go_big_quiet_want; go_big_quiet_op; go_big_quiet_on)
      first | go_big_quiet_skip | (go_big_quiet_want; go_big_quiet_op; go_big_quiet_on)
      first | go_big_quiet_skip | (go_big_quiet_want; go_big_quiet_op; go_big_quiet_on)
      first | go_big_quiet_skip | (go_big_quiet_want; go_big_quiet_op; go_big_quiet_on)
      refine wpQuiet_nil ?_
      intro w5 h5
      have st5 := h5.out
      clear h5 hne hc
      have hth := st5.a.there hlt
      have hset := Lib.hid (st5.a.set hlt (vs := [.int .i64 Da, .int .i64 I, .int .i64 0]) rfl (mixD_len Da I k))
      go_wp2_with (first | (refine wpList_store_mid rfl 74 (.tmp 20) (.tmp 19) rfl (w.heap.size + 1) (k * 3) (dcells Da I 0) rfl rfl hth info_desc (all_d _ _ _) ?_))
      have st7 : DsC w n S I J (w.heap.size + 1) n (mixD Da I (k + 1)) (w5.setCells (w.heap.size + 1) (k * 3) [.int .i64 Da, .int .i64 I, .int .i64 0]) :=
        ⟨st5.s.only hset.out.2 (by omega), hset.out.1.congr fun i _ => by
          unfold mixD
          by_cases e : i = k
          · subst e; rw [if_pos rfl, if_pos (by omega)]
          · rw [if_neg e]
            by_cases e2 : i < k
            · rw [if_pos e2, if_pos (by omega)]
            · rw [if_neg e2, if_neg (by omega)], st5.bel.trans (hset.out.2.below (by omega))⟩
      generalize w5.setCells (w.heap.size + 1) (k * 3) [.int .i64 Da, .int .i64 I, .int .i64 0] = w7 at *
      clear st5 hset hth
      go_wp2_with fail
      go_roundw
      case rel => first | exact ⟨k + 1, by omega, by go_num, st7⟩ | exact ⟨k + 1, by omega, rfl, st7⟩
      case measure => simp [intOf]; omega
    · obtain rfl : k = n := by omega
      have b0 : wr.cell? ⟨w.heap.size + 1, 1, none⟩ = some (.int .i64 I) := by
        have := st.a.seg 0 (by omega) 1 (.int .i64 I) (by unfold mixD; rw [if_pos (by omega)]; rfl)
        simpa using this
      have b2 : wr.cell? ⟨w.heap.size + 1, 2, none⟩ = some (.int .i64 0) := by
        have := st.a.seg 0 (by omega) 2 (.int .i64 0) (by unfold mixD; rw [if_pos (by omega)]; rfl)
        simpa using this
      have f1 : wr.frozen? ⟨w.heap.size + 1, 1, none⟩ = false := by have := (st.a.there (k := 0) (by omega) 1 (by omega)).2; simpa using this
      have f2 : wr.frozen? ⟨w.heap.size + 1, 2, none⟩ = false := by have := (st.a.there (k := 0) (by omega) 2 (by omega)).2; simpa using this
      have e1 : IntKind.i64.wrap (I - 1) = I - 1 := IntWalk.i64_in _ (by omega)
      have x1 := st.a.cellset (k := 0) (j := 1) (by omega) (by omega) (mixD_len Da I k) (.int .i64 (I - 1))
      have x2 := x1.cellset (k := 0) (j := 2) (by omega) (by omega) (fun i => by split <;> simp [mixD_len]) (.int .i64 1)
      rw [Nat.zero_mul, Nat.zero_add, Nat.zero_add] at x2
      have HX := Lib.hid x2
      have HL : Hid (Below w.heap.size w ((wr.setCell ⟨w.heap.size + 1, 1, none⟩ (.int .i64 (I - 1))).setCell ⟨w.heap.size + 1, 2, none⟩ (.int .i64 1))) := (st.bel.trans ((Only.setCell wr ⟨w.heap.size + 1, 1, none⟩ _).below (by simp))).trans ((Only.setCell _ ⟨w.heap.size + 1, 2, none⟩ _).below (by simp))
      clear x1 x2 st
      go_wp2_with fail
      go_ret
      refine ⟨_, rfl, HL.out, ?_⟩
      refine (HX.out.congr (f' := df (fun _ => Da) (fun i => if i = 0 then I - 1 else I) (fun i => if i = 0 then 1 else 0)) fun i hi => ?_).mine (df_len _ _ _) (by omega) (by unfold maxLen; omega)
      unfold mixD df
      by_cases e : i = 0
      · subst e; rw [if_pos rfl, if_pos rfl, if_pos (by omega)]; rfl
      · rw [if_neg e, if_neg e, if_pos hi]; simp [e]
end Go.Proofs.YtnbmmhoofilmfaaDoor

/- mkfs.Make$1: the closure that writes a block of the image. -/
namespace Go.Proofs.YtnbmmhoofilmfaaDoor
open Go.RowKit
set_option linter.unusedVariables false

set_option maxRecDepth 100000 in
set_option maxHeartbeats 2000000 in
theorem mkWrite_any (p1 p2 q n : Nat) (f : Nat → Nat → Int) (b : Nat) (hb : b < n) (hn : n ≤ 2048) (z : Nat → Int) (w : World) (hi : At w p2 24 #[.slice (some ⟨q, 0, none⟩) n n])
    (ha : RArr w q 32 256 n (fun i => Ks .u8 256 (f i))) :
    Calls Tryd.prog 35 #[.int .i64 (b : Int), bval z, .int .i64 0, .pointer (some ⟨p1, 0, none⟩), .pointer (some ⟨p2, 0, none⟩)] w fun e w' => (∃ v, e = .returned v) ∧
      RArr w' q 32 256 n (fun i => Ks .u8 256 (if i = b then z else f i)) ∧ ∃ W1, Below w.heap.size w W1 ∧ Only q W1 w' := by
  have hB := Blk.new w 32 256 z
  have hL : Hid (Below w.heap.size w (w.alloc (.cells (Ks .u8 256 z).toArray 32))) := (Below.refl _ _).alloc (Nat.le_refl _) _
  have hA1 := ha.alloc (.cells (Ks .u8 256 z).toArray 32)
  have hc : (w.alloc (.cells (Ks .u8 256 z).toArray 32)).cell? ⟨p2, 0, none⟩ = some (.slice (some ⟨q, 0, none⟩) n n) := (hi.alloc _).cell (i := 0) rfl
  have hth := hA1.there hb
  have hset := Lib.hid (hA1.set hb (vs := Ks .u8 256 z) (by simp [Ks]) (fun i => by simp [Ks]))
  have b1 : (b : Int) < (n : Int) := by omega
  have b0 : (0 : Int) ≤ (b : Int) := by omega
  clear hi ha
  go_enter Tryd.func35, Tryd.ntmps35
  go_wp2_with (first | (refine wp_loadBlkG rfl (.tmp 6) rfl w.heap.size z rfl hB ?_) | (refine wpList_store_mid rfl 32 (.tmp 16) (.tmp 15) rfl q (b * 256) (Ks .u8 256 z).toArray rfl rfl (by simpa [Ks] using hth) (info_block' _) (Ks_one _ _ _) ?_))
  refine bodyPost_end (results_none rfl _ _ _) rfl ⟨⟨_, rfl⟩, hset.out.1.congr fun i _ => ?_, _, hL.out, hset.out.2⟩
  by_cases e : i = b
  · rw [if_pos e, if_pos e]
  · rw [if_neg e, if_neg e]
end Go.Proofs.YtnbmmhoofilmfaaDoor

/- geo.Home, geo.Inode at the first inode. -/
namespace Go.Proofs.YtnbmmhoofilmfaaDoor
open Go.RowKit
set_option linter.unusedVariables false
structure HoG (w : World) (G S I J : Int) (W : World) : Prop where
  g : At W w.heap.size 23 (gcells G S I J)
  bel : Below w.heap.size w W
set_option maxHeartbeats 2000000 in
theorem geoHome1_any (G S I J : Int) (hm : mayG G S I J = true) (w : World) : Calls Tryd.prog 83 #[gval G S I J, .int .i64 1] w fun e w' => e = .returned (.tuple #[.int .i64 0, .int .i64 0, .bool true]) ∧ Below w.heap.size w w' := by
  have HA := Lib.hid (At.new w 23 (gcells G S I J))
  have HL : Hid (Below w.heap.size w (w.alloc (.cells (gcells G S I J) 23))) := (Below.refl _ _).alloc (Nat.le_refl _) _
  obtain ⟨h1, h2, h3, h4, h5, h6, h7, h8, h9, h10, h11⟩ := (mayG_iff G S I J).1 hm
  have hnI : nIn G S I J = G * I := by unfold nIn; rw [hm]; rfl
  have hgi : 1 ≤ G * I := by
    have := Int.mul_le_mul (show (1 : Int) ≤ G by omega) (show (1 : Int) ≤ I by omega) (by omega) (by omega)
    omega
  go_enter Tryd.func83, Tryd.ntmps83
  have hA := HA.out
  go_wp2_with (first | (refine wp_loadAtG rfl 23 _ rfl _ _ _ rfl hA Tryd.underlying23 rfl (by kernel_rfl) ?_))
  refine (geoInodes_any G S I J _).mono ?_
  rintro e w1 ⟨rfl, hb1⟩
  have st1 : HoG w G S I J w1 := ⟨hA.below hb1 hA.lt, HL.out.trans (hb1.mono HL.out.size)⟩
  rw [hnI]
  clear hA HA HL hb1 hm h11 hnI
  have q1 : ¬ G * I < 1 := by omega
  have q2 : decide (G * I < 1) = false := decide_eq_false q1
  go_wp2_with fail
  refine wp_region_S (HoG w G S I J) (by kernel_rfl) (by kernel_rfl) ⟨st1.g, st1.bel.drew⟩ ?_
  clear st1
  intro hne
  have hc : ∀ y : InW (HoG w G S I J), y.W.cell? ⟨w.heap.size, 2, none⟩ = some (.int .i64 I) := fun y => y.h.g.cell (i := 2) rfl
  have hi0 : (I == 0) = false := by simp; omega
  have hi1 : I ≠ 0 := by omega
  first | go_big_quiet_skip | (go_big_quiet_want; go_big_quiet_op; go_big_quiet_on)
  first | go_big_quiet_skip | (go_big_quiet_want; go_big_quiet_op; go_big_quiet_on)
  first | go_big_quiet_skip | (go_big_quiet_want; go_big_quiet_op; go_big_quiet_on)
  first | go_big_quiet_skip | (go_big_quiet_want; go_big_quiet_op; go_big_quiet_on)
  first | go_big_quiet_skip | (go_big_quiet_want; go_big_quiet_op; go_big_quiet_on)
  first | go_big_quiet_skip | (go_big_quiet_want; go_big_quiet_op; go_big_quiet_on)
  first | go_big_quiet_skip | (go_big_quiet_want; go_big_quiet_op; go_big_quiet_on)
  first | go_big_quiet_skip | (go_big_quiet_want; go_big_quiet_op; go_big_quiet_on)
  first | go_big_quiet_skip | (go_big_quiet_want; go_big_quiet_op; go_big_quiet_on)
  first | go_big_quiet_skip | (go_big_quiet_want; go_big_quiet_op; go_big_quiet_on)
  first | go_big_quiet_skip | (go_big_quiet_want; go_big_quiet_op; go_big_quiet_on)
  first | go_big_quiet_skip | (go_big_quiet_want; go_big_quiet_op; go_big_quiet_on)
  first | go_big_quiet_skip | (go_big_quiet_want; go_big_quiet_op; go_big_quiet_on)
  refine wpQuiet_nil ?_
  intro w5 h5
  have st5 := h5.out
  clear h5 hne hc
  go_wp2_with fail
  go_ret3
  exact ⟨rfl, st5.bel⟩
set_option maxHeartbeats 2000000 in
theorem geoInode1_any (G S I J : Int) (hm : mayG G S I J = true) (w : World) : Calls Tryd.prog 41 #[gval G S I J, .int .i64 1] w fun e w' => e = .returned (.tuple #[.int .i64 (2 + J + 2), .int .i64 0, .bool true]) ∧ Below w.heap.size w w' := by
  have HA := Lib.hid (At.new w 23 (gcells G S I J))
  have HL : Hid (Below w.heap.size w (w.alloc (.cells (gcells G S I J) 23))) := (Below.refl _ _).alloc (Nat.le_refl _) _
  obtain ⟨h1, h2, h3, h4, h5, h6, h7, h8, h9, h10, h11⟩ := (mayG_iff G S I J).1 hm
  have HG : Hid (isGr G S I J 0 = true) := by show _ = _; unfold isGr; rw [hm]; simp; omega
  have HS : Hid (stGr G S I J 0 = 2 + J) := by show _ = _; unfold stGr; rw [HG.out]; simp
  have HM := Lib.hid hm
  clear h11 hm
  go_enter Tryd.func41, Tryd.ntmps41
  have hA := HA.out
  go_wp2_with (first | (refine wp_loadAtG rfl 23 _ rfl _ _ _ rfl hA Tryd.underlying23 rfl (by kernel_rfl) ?_))
  refine (geoHome1_any G S I J HM.out _).mono ?_
  rintro e w1 ⟨rfl, hb1⟩
  have hg1 := hA.below hb1 hA.lt
  have HL1 := Lib.hid (HL.out.trans (hb1.mono HL.out.size))
  clear hA HA HL hb1
  go_wp2_with (first | (refine wp_loadAtG rfl 23 _ rfl _ _ _ rfl hg1 Tryd.underlying23 rfl (by kernel_rfl) ?_))
  refine (geoStart_any G S I J 0 _).mono ?_
  rintro e w2 ⟨rfl, hb2⟩
  rw [HG.out, HS.out]
  have HL2 := Lib.hid (HL1.out.trans (hb2.mono HL1.out.size))
  have e1 : IntKind.i64.wrap (2 + J + 2) = 2 + J + 2 := IntWalk.i64_in _ (by omega)
  clear hg1 hb2 HL1
  go_wp2_with fail
  go_ret3
  exact ⟨rfl, HL2.out⟩
end Go.Proofs.YtnbmmhoofilmfaaDoor

/- mkfs.Make: what it begins with. -/
namespace Go.Proofs.YtnbmmhoofilmfaaDoor
open Go.RowKit
set_option linter.unusedVariables false
theorem info_block3 : (Tryd.prog.info? 32).map (fun i => (i.zero, i.size, i.bytes)) = some (some (bval fun _ => 0), 256, 256) := by kernel_rfl
theorem run_mkimage (n : Nat) (hn : n ≤ 2048) (W : World) : (Instr.makeSlice 24 (.int .i64 (n : Int)) (.int .i64 (n : Int))).run Tryd.prog W = .ok (.slice (some ⟨W.heap.size, 0, none⟩) n n) (W.alloc (.cells (madeCells (bval fun _ => 0).cells (n * 256)) 32)) :=
  run_mkrow (P := Tryd.prog) 24 32 (bval fun _ => 0) 256 256 Tryd.underlying24 info_block3 .i64 .i64 n (by omega) (by omega) W
theorem image_made (w : World) (n : Nat) : RArr (w.alloc (.cells (madeCells (bval fun _ => 0).cells (n * 256)) 32)) w.heap.size 32 256 n (fun _ => Ks .u8 256 (fun _ => 0)) :=
  RArr.made (m := 256) w (Ks .u8 256 (fun _ => 0)).toArray (by simp [Ks]) (by omega) n 32
/-- what the walk keeps: the geometry, the image's slice (p2), the first error (p1), the image (q) -/
structure MkS (w : World) (G S I J : Int) (p1 p2 q n : Nat) (im : Nat → Nat → Int) (W : World) : Prop where
  g : At W w.heap.size 23 (gcells G S I J)
  i : At W p2 24 #[.slice (some ⟨q, 0, none⟩) n n]
  e : At W p1 27 #[.int .i64 0]
  a : RArr W q 32 256 n (fun i => Ks .u8 256 (im i))
  bel : Below w.heap.size w W
end Go.Proofs.YtnbmmhoofilmfaaDoor

/- geo.Home, geo.Inode, geo.Number at any inode of an image; geo.Start of any of its groups. -/
namespace Go.Proofs.YtnbmmhoofilmfaaDoor
open Go.RowKit
set_option linter.unusedVariables false
theorem nIn_nat {g s i j : Nat} (hm : mayG g s i j = true) : nIn g s i j = ((g * i : Nat) : Int) := by
  unfold nIn; rw [hm, if_pos rfl, Int.natCast_mul]
theorem gi_bd {g s i j : Nat} (hm : mayG g s i j = true) : g * i ≤ 256 := by
  have h1 := nIn_bd g s i j
  rw [nIn_nat hm] at h1
  omega
theorem geoStart_yes (g s i j k : Nat) (hm : mayG g s i j = true) (hk : k < g) (w : World) : Calls Tryd.prog 39 #[gval g s i j, .int .i64 (k : Int)] w fun e w' => e = .returned (.tuple #[.int .i64 ((2 + j + k * s : Nat) : Int), .bool true]) ∧ Below w.heap.size w w' := by
  refine (geoStart_any g s i j k w).mono ?_
  rintro e w' ⟨rfl, hb⟩
  have h1 : isGr g s i j k = true := by unfold isGr; rw [hm]; simp; omega
  have h2 : stGr g s i j k = ((2 + j + k * s : Nat) : Int) := by unfold stGr; rw [h1, if_pos rfl]; simp
  rw [h1, h2]
  exact ⟨rfl, hb⟩
set_option maxHeartbeats 2000000 in
theorem geoHome_yes (g s i j u : Nat) (hm : mayG g s i j = true) (hu : u < g * i) (w : World) : Calls Tryd.prog 83 #[gval g s i j, .int .i64 ((u : Int) + 1)] w fun e w' => e = .returned (.tuple #[.int .i64 ((u / i : Nat) : Int), .int .i64 ((u % i : Nat) : Int), .bool true]) ∧ Below w.heap.size w w' := by
  have HA := Lib.hid (At.new w 23 (gcells g s i j))
  have HL : Hid (Below w.heap.size w (w.alloc (.cells (gcells g s i j) 23))) := (Below.refl _ _).alloc (Nat.le_refl _) _
  obtain ⟨h1, h2, h3, h4, h5, h6, h7, h8, h9, h10, h11⟩ := (mayG_iff g s i j).1 hm
  have hnI := nIn_nat hm
  have hgi := gi_bd hm
  obtain ⟨N, hN⟩ : ∃ N, N = g * i := ⟨_, rfl⟩
  rw [← hN] at hu hnI hgi
  have hq : (u : Int).tdiv (i : Int) = ((u / i : Nat) : Int) := by rw [Int.tdiv_eq_ediv_of_nonneg (by omega)]; rfl
  have hr : (u : Int).tmod (i : Int) = ((u % i : Nat) : Int) := by rw [Int.tmod_eq_emod_of_nonneg (by omega)]; rfl
  have HQ := Lib.hid hq
  have HR := Lib.hid hr
  clear hN hq hr
  go_enter Tryd.func83, Tryd.ntmps83
  have hA := HA.out
  go_wp2_with (first | (refine wp_loadAtG rfl 23 _ rfl _ _ _ rfl hA Tryd.underlying23 rfl (by kernel_rfl) ?_))
  refine (geoInodes_any g s i j _).mono ?_
  rintro e w1 ⟨rfl, hb1⟩
  have st1 : HoG w g s i j w1 := ⟨hA.below hb1 hA.lt, HL.out.trans (hb1.mono HL.out.size)⟩
  rw [hnI]
  clear hA HA HL hb1 hm h11 hnI
  have q1 : ¬ (N : Int) < (u : Int) + 1 := by omega
  have q2 : decide ((N : Int) < (u : Int) + 1) = false := decide_eq_false q1
  have q3 : ¬ (u : Int) + 1 < 1 := by omega
  go_wp2_with fail
  refine wp_region_S (HoG w g s i j) (by kernel_rfl) (by kernel_rfl) ⟨st1.g, st1.bel.drew⟩ ?_
  clear st1
  intro hne
  have hc : ∀ y : InW (HoG w g s i j), y.W.cell? ⟨w.heap.size, 2, none⟩ = some (.int .i64 (i : Int)) := fun y => y.h.g.cell (i := 2) rfl
  have hi0 : ((i : Int) == 0) = false := by simp; omega
  have hi1 : (i : Int) ≠ 0 := by omega
  have hq := HQ.out
  have hr := HR.out
  first | go_big_quiet_skip | (go_big_quiet_want; go_big_quiet_op; go_big_quiet_on)
  first | go_big_quiet_skip | (go_big_quiet_want; go_big_quiet_op; go_big_quiet_on)
  first | go_big_quiet_skip | (go_big_quiet_want; go_big_quiet_op; go_big_quiet_on)
  first | go_big_quiet_skip | (go_big_quiet_want; go_big_quiet_op; go_big_quiet_on)
  first | go_big_quiet_skip | (go_big_quiet_want; go_big_quiet_op; go_big_quiet_on)
  first | go_big_quiet_skip | (go_big_quiet_want; go_big_quiet_op; go_big_quiet_on)
  first | go_big_quiet_skip | (go_big_quiet_want; go_big_quiet_op; go_big_quiet_on)
  first | go_big_quiet_skip | (go_big_quiet_want; go_big_quiet_op; go_big_quiet_on)
  first | go_big_quiet_skip | (go_big_quiet_want; go_big_quiet_op; go_big_quiet_on)
  first | go_big_quiet_skip | (go_big_quiet_want; go_big_quiet_op; go_big_quiet_on)
  first | go_big_quiet_skip | (go_big_quiet_want; go_big_quiet_op; go_big_quiet_on)
  first | go_big_quiet_skip | (go_big_quiet_want; go_big_quiet_op; go_big_quiet_on)
  first | go_big_quiet_skip | (go_big_quiet_want; go_big_quiet_op; go_big_quiet_on)
  refine wpQuiet_nil ?_
  intro w5 h5
  have st5 := h5.out
  clear h5 hne hc
  go_wp2_with fail
  go_ret3
  refine ⟨?_, st5.bel⟩
  show Ending.returned (.tuple #[.int .i64 (wrap64 ((u : Int) / (i : Int))), .int .i64 ((u : Int) % (i : Int)), .bool true]) = _
  have e1 : (u : Int) / (i : Int) = ((u / i : Nat) : Int) := rfl
  have e2 : u / i ≤ u := Nat.div_le_self _ _
  rw [e1]
  generalize u / i = q at e2 ⊢
  rw [IntWalk.wrap64_in _ (by omega)]
  rfl
set_option maxHeartbeats 2000000 in
theorem geoInode_yes (g s i j u : Nat) (hm : mayG g s i j = true) (hu : u < g * i) (w : World) : Calls Tryd.prog 41 #[gval g s i j, .int .i64 ((u : Int) + 1)] w fun e w' => e = .returned (.tuple #[.int .i64 ((2 + j + u / i * s + 2 + u % i / 4 : Nat) : Int), .int .i64 ((u % i % 4 * 64 : Nat) : Int), .bool true]) ∧ Below w.heap.size w w' := by
  have HA := Lib.hid (At.new w 23 (gcells g s i j))
  have HL : Hid (Below w.heap.size w (w.alloc (.cells (gcells g s i j) 23))) := (Below.refl _ _).alloc (Nat.le_refl _) _
  have HM := Lib.hid hm
  have hi : 0 < i := by obtain ⟨h1, h2, h3, h4, h5, h6, h7, h8, h9, h10, h11⟩ := (mayG_iff g s i j).1 hm; omega
  have hG : u / i < g := Nat.div_lt_of_lt_mul (by rw [Nat.mul_comm]; exact hu)
  have hi9 : i ≤ 64 := by obtain ⟨h1, h2, h3, h4, h5, h6, h7, h8, h9, h10, h11⟩ := (mayG_iff g s i j).1 hm; omega
  have hB : u % i < i := Nat.mod_lt _ hi
  have hend : Hid (2 + j + u / i * s ≤ 2048) := by
    show _ ≤ _
    obtain ⟨h1, h2, h3, h4, h5, h6, h7, h8, h9, h10, h11⟩ := (mayG_iff g s i j).1 hm
    have : ((u / i * s : Nat) : Int) ≤ ((g * s : Nat) : Int) := by
      have := Nat.mul_le_mul_right s (Nat.le_of_lt hG); omega
    rw [Int.natCast_mul g s] at this
    omega
  have HU := Lib.hid hu
  have HGR := Lib.hid hG
  clear hm hu
  go_enter Tryd.func41, Tryd.ntmps41
  have hA := HA.out
  go_wp2_with (first | (refine wp_loadAtG rfl 23 _ rfl _ _ _ rfl hA Tryd.underlying23 rfl (by kernel_rfl) ?_))
  refine (geoHome_yes g s i j u HM.out HU.out _).mono ?_
  rintro e w1 ⟨rfl, hb1⟩
  have hg1 := hA.below hb1 hA.lt
  have HL1 := Lib.hid (HL.out.trans (hb1.mono HL.out.size))
  clear hA HA HL hb1
  obtain ⟨γ, hγ⟩ : ∃ γ, γ = u / i := ⟨_, rfl⟩
  obtain ⟨r, hρ⟩ : ∃ r, r = u % i := ⟨_, rfl⟩
  rw [← hγ, ← hρ]
  rw [← hρ] at hB
  have HE1 := Lib.hid hγ
  have HE2 := Lib.hid hρ
  have HGG : Hid (γ < g) := by show γ < g; rw [hγ]; exact HGR.out
  have HLE : Hid (2 + j + γ * s ≤ 2048) := by show _ ≤ _; rw [hγ]; exact hend.out
  clear hγ hρ hG
  go_wp2_with (first | (refine wp_loadAtG rfl 23 _ rfl _ _ _ rfl hg1 Tryd.underlying23 rfl (by kernel_rfl) ?_))
  refine (geoStart_yes g s i j γ HM.out HGG.out _).mono ?_
  rintro e w2 ⟨rfl, hb2⟩
  have HL2 := Lib.hid (HL1.out.trans (hb2.mono HL1.out.size))
  have hle := HLE.out
  obtain ⟨B, hBB⟩ : ∃ B, B = 2 + j + γ * s := ⟨_, rfl⟩
  rw [← hBB] at hle ⊢
  have hq : (r : Int).tdiv 4 = ((r / 4 : Nat) : Int) := by rw [Int.tdiv_eq_ediv_of_nonneg (by omega)]; rfl
  have hr : (r : Int).tmod 4 = ((r % 4 : Nat) : Int) := by rw [Int.tmod_eq_emod_of_nonneg (by omega)]; rfl
  have FIN : Hid ((B : Int) + 2 + ((r / 4 : Nat) : Int) = ((2 + j + u / i * s + 2 + u % i / 4 : Nat) : Int) ∧ ((r % 4 : Nat) : Int) * 64 = ((u % i % 4 * 64 : Nat) : Int)) := by
    rw [hBB, ← HE1.out, ← HE2.out]
    exact ⟨by omega, by omega⟩
  generalize hx : r / 4 = x at *
  generalize hy : r % 4 = y at *
  have hx9 : x ≤ 64 := by omega
  have hy9 : y < 4 := by omega
  clear hg1 hb2 HL1 hBB hx hy hend
  go_wp2_with fail
  go_ret3
  refine ⟨?_, HL2.out⟩
  show Ending.returned (.tuple #[.int .i64 ((B : Int) + 2 + (x : Int)), .int .i64 ((y : Int) * 64), .bool true]) = _
  rw [FIN.out.1, FIN.out.2]
set_option maxHeartbeats 2000000 in
theorem geoNumber_yes (g s i j k b : Nat) (hm : mayG g s i j = true) (hk : k < g) (hb : b < i) (w : World) : Calls Tryd.prog 152 #[gval g s i j, .int .i64 (k : Int), .int .i64 (b : Int)] w fun e w' => e = .returned (.int .i64 ((k * i + b + 1 : Nat) : Int)) ∧ Below w.heap.size w w' := by
  have HA := Lib.hid (At.new w 23 (gcells g s i j))
  have HL : Hid (Below w.heap.size w (w.alloc (.cells (gcells g s i j) 23))) := (Below.refl _ _).alloc (Nat.le_refl _) _
  have HM := Lib.hid hm
  have hki : k * i ≤ 256 := by
    have := Nat.mul_le_mul_right i (Nat.le_of_lt hk)
    have := gi_bd hm
    omega
  obtain ⟨h1, h2, h3, h4, h5, h6, h7, h8, h9, h10, h11⟩ := (mayG_iff g s i j).1 hm
  clear hm h11
  go_enter Tryd.func152, Tryd.ntmps152
  have hA := HA.out
  go_wp2_with (first | (refine wp_loadAtG rfl 23 _ rfl _ _ _ rfl hA Tryd.underlying23 rfl (by kernel_rfl) ?_))
  refine (geoMay_any g s i j _).mono ?_
  rintro e w1 ⟨rfl, hb1⟩
  rw [HM.out]
  have hA1 := hA.below hb1 hA.lt
  have HL1 := Lib.hid (HL.out.trans (hb1.mono HL.out.size))
  have c0 : w1.cell? ⟨w.heap.size, 0, none⟩ = some (.int .i64 (g : Int)) := hA1.cell (i := 0) rfl
  have c2 : w1.cell? ⟨w.heap.size, 2, none⟩ = some (.int .i64 (i : Int)) := hA1.cell (i := 2) rfl
  clear hA HA HL hb1 hA1
  have q1 : ¬ (k : Int) < 0 := by omega
  have q2 : ¬ (g : Int) ≤ (k : Int) := by omega
  have q3 : ¬ (b : Int) < 0 := by omega
  have q4 : ¬ (i : Int) ≤ (b : Int) := by omega
  have hmul : (k : Int) * (i : Int) = ((k * i : Nat) : Int) := (Int.natCast_mul _ _).symm
  have HMUL := Lib.hid hmul
  obtain ⟨M, hM⟩ : ∃ M, M = k * i := ⟨_, rfl⟩
  have FIN : Hid ((M : Int) + (b : Int) + 1 = ((k * i + b + 1 : Nat) : Int)) := by show _ = _; rw [← hM]; omega
  rw [← hM] at hmul hki
  clear hM HMUL
  have hw1 : IntKind.i64.wrap (M : Int) = (M : Int) := IntWalk.i64_in _ (by omega)
  go_wp2_with fail
  go_ret
  refine ⟨?_, HL1.out⟩
  show Ending.returned (.int .i64 ((M : Int) + (b : Int) + 1)) = _
  rw [FIN.out]
end Go.Proofs.YtnbmmhoofilmfaaDoor

/- Whole rows of cells loaded and stored in the midst of a heap block. No program in sight. -/
namespace Go.Proofs.YtnbmmhoofilmfaaDoor
open Go.RowKit
set_option linter.unusedVariables false
theorem wp_loadMid {P : Program} {w : World} {ops : Array Oper} {rest : List Oper} {o : Oper} {a : Act} {Q : Exit → Act → World → Prop} (hw : Region.wanted o (yielded ops a.tmps) = true) (T : TypeId) (p : Operand) (ho : o.op = .load T p)
    (g off : Nat) (cs : List Value) (d : TypeDesc) (hx : a.eval p = .pointer (some ⟨g, off, none⟩)) (hI : w.rangeAt g off cs) (hu : P.underlying T = some d) (hd : d.isRow = true) (hi : (P.info? T).map (·.size) = some cs.length)
    (h : wpList P ops Q rest (a.put o.dst (.agg cs.toArray)) w) : wpList P ops Q (o :: rest) a w :=
  BigFrame.wpList_want hw fun _ hK => wp_load_mid T p ho g off hx cs d hI hu hd hi (hK _ _ h)
end Go.Proofs.YtnbmmhoofilmfaaDoor

/- The iterators of pack.rows: rows of at most 30 copies, of at most 60 numbers. Printed by gen_pkrows.py. -/
namespace Go.Proofs.YtnbmmhoofilmfaaDoor
open Go.RowKit Go.Shelf
set_option linter.unusedVariables false
attribute [local go_sem] Oper.semAt_some
theorem At.set0 {W : World} {B : Nat} {T : TypeId} {v : Value} (h : At W B T #[v]) (u : Value) : At (W.setCell ⟨B, 0, none⟩ u) B T #[u] := by
  obtain ⟨hlt, hk⟩ := Array.getElem?_eq_some_iff.1 h
  show (W.heap.modify B _)[B]? = _
  rw [Array.getElem?_eq_getElem (by rw [Array.size_modify]; exact hlt), Array.getElem_modify_self, hk]
  rfl
def lenAt (B : Nat) (W : World) : Nat := match W.cell? ⟨B, 0, none⟩ with | some (.slice _ l _) => l | _ => 0
/-- where a row of copies begins, and what the iterator keeps -/
def isSlC (b off n k : Nat) (sv : Value) : Prop := ∃ ad c, sv = .slice ad (n - 30 * k) c ∧ (k < (n + 29) / 30 → ad = some ⟨b, off + 30 * k * 257, none⟩ ∧ n - 30 * k ≤ c)
def rowEncC (b off n k : Nat) : Array Value := #[.slice (some ⟨b, off + 30 * k * 257, none⟩) (min 30 (n - 30 * k)) (min 30 (n - 30 * k))]
def rowNeedC (B nb b off n : Nat) (k : Nat) (W : World) : Prop := (∃ sv, isSlC b off n k sv ∧ At W B 49 #[sv]) ∧ At W nb 3 #[.int .i64 30]
/-- where a row of numbers begins, and what the iterator keeps -/
def isSlN (b off n k : Nat) (sv : Value) : Prop := ∃ ad c, sv = .slice ad (n - 60 * k) c ∧ (k < (n + 59) / 60 → ad = some ⟨b, off + 60 * k, none⟩ ∧ n - 60 * k ≤ c)
def rowEncN (b off n k : Nat) : Array Value := #[.slice (some ⟨b, off + 60 * k, none⟩) (min 60 (n - 60 * k)) (min 60 (n - 60 * k))]
def rowNeedN (B nb b off n : Nat) (k : Nat) (W : World) : Prop := (∃ sv, isSlN b off n k sv ∧ At W B 45 #[sv]) ∧ At W nb 3 #[.int .i64 60]
end Go.Proofs.YtnbmmhoofilmfaaDoor
