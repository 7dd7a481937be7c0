/- Texts of this claim, merged by a program (a claim may have 60 files): U6b. -/
import Derived.Test.YtopakpmepioomaaDoorK07
import Derived.Test.YtopakpmepioomaaDoorK01
/- super: getGeo, putDesc, getDesc, orphaned; Write, Read. -/
namespace Go.Proofs.YtopakpmepioomaaDoor
open Go.RowKit
set_option linter.unusedVariables false

abbrev sval (G S I J O : Int) : Value := .agg #[.int .i64 G, .int .i64 S, .int .i64 I, .int .i64 J, .int .u32 O]
abbrev scells (G S I J O : Int) : Array Value := #[.int .i64 G, .int .i64 S, .int .i64 I, .int .i64 J, .int .u32 O]
abbrev dval (B I D : Int) : Value := .agg #[.int .i64 B, .int .i64 I, .int .i64 D]
abbrev dcells (B I D : Int) : Array Value := #[.int .i64 B, .int .i64 I, .int .i64 D]
theorem zero_geo (W : World) : (zeroValue 23).run Tryd.prog W = .ok (gval 0 0 0 0) W := by kernel_rfl
theorem zero_super (W : World) : (zeroValue 42).run Tryd.prog W = .ok (sval 0 0 0 0 0) W := by kernel_rfl
theorem zero_desc (W : World) : (zeroValue 50).run Tryd.prog W = .ok (dval 0 0 0) W := by kernel_rfl

set_option maxRecDepth 100000 in
set_option maxHeartbeats 2000000 in
theorem getGeo_any (g : Nat) (z : Nat → Int) (hzb : Byt z) (w : World) {T : TypeId} (hB : Blk w g T 256 z) :
    Calls Tryd.prog 42 #[getFn g] w fun e w' => e = .returned (gval (hd z 4) (hd z 5) (hd z 6) (hd z 7)) ∧ Below w.heap.size w w' := by
  have hal := zero_geo
  have HA := Lib.hid (At.new w 23 (gcells 0 0 0 0))
  have HL : Hid (Below w.heap.size w (w.alloc (.cells (gcells 0 0 0 0) 23))) := (Below.refl _ _).alloc (Nat.le_refl _) _
  have HG : Hid (∀ (W : World) (k : Nat) (K : Int), Blk W g T 256 z → K = 2 * (k : Int) → k < 128 → Calls Tryd.prog 39 #[.pointer (some ⟨g, 0, none⟩), .int .i64 K] W fun e w' => e = .returned (.int .i64 (hd z k)) ∧ W = w') :=
    fun W k K hB hK hk => pageGet_any g z hzb k K hK hk W hB
  have HB := Lib.hid (hB.alloc (.cells (gcells 0 0 0 0) 23))
  clear hB
  go_enter Tryd.func42, Tryd.ntmps42
  go_wp2_with fail
  refine (HG.out _ 4 8 HB.out rfl (by omega)).mono ?_
  rintro e w1 ⟨rfl, rfl⟩
  go_wp2_with fail
  refine (HG.out _ 5 10 HB.out rfl (by omega)).mono ?_
  rintro e w1 ⟨rfl, rfl⟩
  go_wp2_with fail
  refine (HG.out _ 6 12 HB.out rfl (by omega)).mono ?_
  rintro e w1 ⟨rfl, rfl⟩
  go_wp2_with fail
  refine (HG.out _ 7 14 HB.out rfl (by omega)).mono ?_
  rintro e w1 ⟨rfl, rfl⟩
  go_wp2_with fail
  exact bodyPost_ret (results_row rfl _ _ _ _ _ _ _ rfl (At.new w 23 (gcells (hd z 4) (hd z 5) (hd z 6) (hd z 7))) Tryd.underlying23 rfl (by kernel_rfl)) rfl ⟨rfl, (Below.refl _ _).alloc (Nat.le_refl _) _⟩

set_option maxRecDepth 100000 in
set_option maxHeartbeats 2000000 in
theorem putDesc_any (g : Nat) (l : Nat → Int) (k : Nat) (K B I D : Int) (hK : K = 8 * (k : Int)) (hk : k < 31) (hB0 : 0 ≤ B ∧ B ≤ 65535) (hI0 : 0 ≤ I ∧ I ≤ 65535) (hD0 : 0 ≤ D ∧ D ≤ 65535) (w : World) {T : TypeId} (hB : Blk w g T 256 (hz l)) :
    Calls Tryd.prog 61 #[.int .i64 K, dval B I D, putFn g] w fun e w' => (∃ u, e = .returned u) ∧ Blk w' g T 256 (hz (upd (upd (upd l (4 * k) B) (4 * k + 1) I) (4 * k + 2) D)) ∧ w.grownBy w' (some g) := by
  have HA := Lib.hid (At.new w 50 (dcells B I D))
  have HG : Hid (w.grownBy (w.alloc (.cells (dcells B I D) 50)) (some g)) := grown_below ((Below.refl _ _).alloc (Nat.le_refl _) _)
  have hne := hB.lt
  have HB := Lib.hid (hB.alloc (.cells (dcells B I D) 50))
  have c0 : (w.alloc (.cells #[.int .i64 B, .int .i64 I, .int .i64 D] 50)).cell? ⟨w.heap.size, 0, none⟩ = some (.int .i64 B) := HA.out.cell (i := 0) rfl
  have HP : Hid (∀ (W : World) (l : Nat → Int) (j : Nat) (K' v : Int), Blk W g T 256 (hz l) → K' = K + 2 * (j : Int) → j < 3 → 0 ≤ v ∧ v ≤ 65535 → Calls Tryd.prog 58 #[.pointer (some ⟨g, 0, none⟩), .int .i64 K', .int .i64 v] W fun e w' => (∃ u, e = .returned u) ∧ Blk w' g T 256 (hz (upd l (4 * k + j) v)) ∧ Only g W w') :=
    fun W l j K' v hB hK' hj hv => pagePut_any g l (4 * k + j) K' v (by omega) (by omega) hv.1 hv.2 W hB
  have hKb : 0 ≤ K ∧ K < 250 := by omega
  clear hB hK
  go_enter Tryd.func61, Tryd.ntmps61
  go_wp2_with fail
  refine (HP.out _ l 0 K B HB.out (by omega) (by omega) hB0).mono ?_
  rintro e w1 ⟨⟨u1, rfl⟩, hB1, ho1⟩
  have hA1 : At w1 w.heap.size 50 (dcells B I D) := HA.out.only ho1 (by omega)
  have hG1 := grown_trans HG.out (grown_only ho1)
  have c1 := hA1.cell (i := 1) rfl
  clear HB HA HG c0 ho1
  go_wp2_with fail
  refine (HP.out _ _ 1 (K + 2) I hB1 (by omega) (by omega) hI0).mono ?_
  rintro e w2 ⟨⟨u2, rfl⟩, hB2, ho2⟩
  have hA2 : At w2 w.heap.size 50 (dcells B I D) := hA1.only ho2 (by omega)
  have hG2 := grown_trans hG1 (grown_only ho2)
  have c2 := hA2.cell (i := 2) rfl
  clear hB1 hA1 hG1 c1 ho2
  go_wp2_with fail
  refine (HP.out _ _ 2 (K + 4) D hB2 (by omega) (by omega) hD0).mono ?_
  rintro e w3 ⟨⟨u3, rfl⟩, hB3, ho3⟩
  have hG3 := grown_trans hG2 (grown_only ho3)
  clear hB2 hA2 hG2 c2 ho3
  go_wp2_with fail
  exact bodyPost_end (results_none rfl _ _ _) rfl ⟨⟨_, rfl⟩, hB3, hG3⟩

set_option maxRecDepth 100000 in
set_option maxHeartbeats 2000000 in
theorem getDesc_any (g : Nat) (z : Nat → Int) (hzb : Byt z) (k : Nat) (K : Int) (hK : K = 8 * (k : Int)) (hk : k < 31) (w : World) {T : TypeId} (hB : Blk w g T 256 z) :
    Calls Tryd.prog 44 #[.int .i64 K, getFn g] w fun e w' => e = .returned (dval (hd z (4 * k)) (hd z (4 * k + 1)) (hd z (4 * k + 2))) ∧ Below w.heap.size w w' := by
  have hal := zero_desc
  have HA := Lib.hid (At.new w 50 (dcells 0 0 0))
  have HL : Hid (Below w.heap.size w (w.alloc (.cells (dcells 0 0 0) 50))) := (Below.refl _ _).alloc (Nat.le_refl _) _
  have HG : Hid (∀ (W : World) (j : Nat) (K' : Int), Blk W g T 256 z → K' = K + 2 * (j : Int) → j < 3 → Calls Tryd.prog 39 #[.pointer (some ⟨g, 0, none⟩), .int .i64 K'] W fun e w' => e = .returned (.int .i64 (hd z (4 * k + j))) ∧ W = w') :=
    fun W j K' hB hK' hj => pageGet_any g z hzb (4 * k + j) K' (by omega) (by omega) W hB
  have HB := Lib.hid (hB.alloc (.cells (dcells 0 0 0) 50))
  have hKb : 0 ≤ K ∧ K < 250 := by omega
  clear hB hK
  go_enter Tryd.func44, Tryd.ntmps44
  go_wp2_with fail
  refine (HG.out _ 0 K HB.out (by omega) (by omega)).mono ?_
  rintro e w1 ⟨rfl, rfl⟩
  go_wp2_with fail
  refine (HG.out _ 1 (K + 2) HB.out (by omega) (by omega)).mono ?_
  rintro e w1 ⟨rfl, rfl⟩
  go_wp2_with fail
  refine (HG.out _ 2 (K + 4) HB.out (by omega) (by omega)).mono ?_
  rintro e w1 ⟨rfl, rfl⟩
  go_wp2_with fail
  exact bodyPost_ret (results_row rfl _ _ _ _ _ _ _ rfl (At.new w 50 (dcells (hd z (4 * k)) (hd z (4 * k + 1)) (hd z (4 * k + 2)))) Tryd.underlying50 rfl (by kernel_rfl)) rfl ⟨rfl, (Below.refl _ _).alloc (Nat.le_refl _) _⟩

structure OrS (w : World) (G S I J O : Int) (W : World) : Prop where
  s : At W w.heap.size 42 (scells G S I J O)
  bel : Below w.heap.size w W
set_option maxRecDepth 100000 in
set_option maxHeartbeats 2000000 in
theorem orphaned_any (G S I J O : Int) (hO : 0 ≤ O ∧ O < 4294967296) (w : World) :
    Calls Tryd.prog 43 #[sval G S I J O] w fun e w' => e = .returned (.bool (decide (O ≤ nIn G S I J))) ∧ Below w.heap.size w w' := by
  have hA : At (w.alloc (.cells (scells G S I J O) 42)) w.heap.size 42 (scells G S I J O) := At.new _ _ _
  have hL : Below w.heap.size w (w.alloc (.cells (scells G S I J O) 42)) := (Below.refl _ _).alloc (Nat.le_refl _) _
  have hwr : O % 18446744073709551616 = O := by omega
  have hb := nIn_bd G S I J
  have HN : Hid (∀ W, Calls Tryd.prog 76 #[gval G S I J] W fun e w' => e = .returned (.int .i64 (nIn G S I J)) ∧ Below W.heap.size W w') := fun W => geoInodes_any G S I J W
  generalize nIn G S I J = n at *
  have hwn : n % 18446744073709551616 = n := by omega
  go_enter Tryd.func43, Tryd.ntmps43
  go_wp2_with fail
  have hkeep : Hid (∀ W W', OrS w G S I J O W → Below W.heap.size W W' → OrS w G S I J O W') := fun W W' h hb => ⟨h.s.below hb h.s.lt, h.bel.trans (hb.mono h.bel.size)⟩
  refine wp_region_S (OrS w G S I J O) (by kernel_rfl) (by kernel_rfl) ⟨hA, hL.drew⟩ ?_
  clear hA hL
  intro hne
  have hc : ∀ s : InW (OrS w G S I J O), s.W.cell? ⟨w.heap.size, 4, none⟩ = some (.int .u32 O) := fun s => s.h.s.cell (i := 4) rfl
  first | go_big_quiet_skip | (go_big_quiet_want; go_big_quiet_op; go_big_quiet_on)
  first | go_big_quiet_skip | (go_big_quiet_want; go_big_quiet_op; go_big_quiet_on)
  first | go_big_quiet_skip | (go_big_quiet_want; go_big_quiet_op; go_big_quiet_on)
  first | go_big_quiet_skip | (go_big_quiet_want; go_big_quiet_op; go_big_quiet_on)
  refine q_load rfl 23 (.tmp 6) rfl w.heap.size 0 rfl (gcells G S I J).toList _ (fun W h j v hj => ?_) Tryd.underlying23 rfl (by kernel_rfl) ?_
  · have hj4 : j < 4 := (List.getElem?_eq_some_iff.1 hj).1
    refine h.s.cell (i := 0 + j) ?_
    rw [Nat.zero_add, ← hj]
    obtain rfl | rfl | rfl | rfl : j = 0 ∨ j = 1 ∨ j = 2 ∨ j = 3 := by omega
    all_goals rfl
  refine wpQuiet_frame (by simp only [Act.put, List.setIfInBounds_toArray, List.set_cons_succ, List.set_cons_zero]; exact rfl) ?_
  go_big_quiet_want
  go_big_quiet_op
  refine ⟨_, fun s => q_call s (fun W hW => (HN.out W).mono fun e w' h => ⟨h.1, hkeep.out W w' hW h.2⟩), ?_⟩
  go_big_quiet_on
  repeat (first | go_big_quiet_skip | (go_big_quiet_want; go_big_quiet_op; go_big_quiet_on))
  refine wpQuiet_nil ?_
  intro w5 h5
  have hL5 : Below w.heap.size w w5 := h5.out.bel
  clear h5 hne
  go_wp2_with fail
  go_ret
  exact ⟨rfl, hL5⟩
end Go.Proofs.YtopakpmepioomaaDoor
