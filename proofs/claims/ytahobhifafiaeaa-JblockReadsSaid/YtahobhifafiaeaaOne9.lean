/- Contracts of quernref09.SameTags and of quernlaw09.one; what is written is read: the plain law. -/
import Derived.Test.YtahobhifafiaeaaBack9
namespace Go.Proofs.Ytahobhifafiaeaa
open Go.RowKit
set_option linter.unusedVariables false

theorem run_eql_tag (s s' : Int) (x x' : Bool) (w : World) : (binOp .eql 69 (.agg #[.int .u32 s, .bool x]) (.agg #[.int .u32 s', .bool x'])).run Try.prog w = .ok (.bool (s == s' && x == x')) w := by
  have hS : Try.prog.underlying 69 = some (.struct (Try.prog.fieldsOf 69)) := by kernel_rfl
  have hp : Try.prog.stoodInHeld 69 = false := by kernel_rfl
  rw [run_eql_struct, show (10000 : Nat) = 9999 + 1 from rfl, run_equalIn_agg w 9999 _ _ _ hS hp]
  simp only [Program.fieldsOf, Try.underlying69]
  clear hS hp
  go_simp
  by_cases h1 : s = s' <;> by_cases h2 : x = x' <;> simp [h1, h2]
theorem neq_of_eql {P : Program} {t : TypeId} {x y : Array Value} {B : Bool} {w : World} (h : (binOp .eql t (.agg x) (.agg y)).run P w = .ok (.bool B) w) : (binOp .neq t (.agg x) (.agg y)).run P w = .ok (.bool (!B)) w := by
  rw [run_eql_struct] at h
  rw [run_neq_struct]
  generalize (Op.equalIn 10000 t (.agg x) (.agg y)).run P w = r at *
  cases r with
  | ok b w' => simp at h ⊢; exact ⟨by rw [h.1], h.2⟩
  | halt e w' => simp at h
theorem run_neq_tag (s s' : Int) (x x' : Bool) (w : World) : (binOp .neq 69 (.agg #[.int .u32 s, .bool x]) (.agg #[.int .u32 s', .bool x'])).run Try.prog w = .ok (.bool (!(s == s' && x == x'))) w := neq_of_eql (run_eql_tag s s' x x' w)

structure TwoTags (w : World) (b off b' off' n : Nat) (t t' : Nat → Int) (e e' : Nat → Bool) (W : World) : Prop where
  s : TagSeg W b off n t e
  s' : TagSeg W b' off' n t' e'
  d : ∃ m, W = w.drewN m

set_option maxRecDepth 100000 in
set_option maxHeartbeats 1000000 in
theorem sameTags_true (a c : Option Addr) (len cap cap' : Nat) (t t' : Nat → Int) (e e' : Nat → Bool) (w : World) (hl : (len : Int) ≤ 9223372036854775807) (hs : TagRow w a len t e) (hs' : TagRow w c len t' e') (heq : ∀ i, i < len → t i = t' i ∧ e i = e' i) :
    Calls Try.prog 19 #[.slice a len cap, .slice c len cap'] w fun e w' => e = .returned (.bool true) ∧ ∃ m, w' = w.drewN m := by
  have HEQ := Lib.hid heq
  clear heq
  go_enter Try.func19, Try.ntmps19
  go_wp2
  go_loopw [5] (fun k wr => ∃ j : Nat, j ≤ len ∧ k = .int .i64 j ∧ ∃ m, wr = w.drewN m) (fun k _ => len - (intOf k).toNat)
  case atStart => exact ⟨0, by omega, rfl, 0, rfl⟩
  case round =>
    obtain ⟨j, hj, rfl, m, rfl⟩ := hrel
    by_cases hlt : j < len
    · rcases hs with h0 | ⟨b, off, rfl, hs⟩
      · omega
      rcases hs' with h0 | ⟨b', off', rfl, hs'⟩
      · omega
      have hq : ∀ W, (binOp .neq 69 (.agg #[.int .u32 (t j), .bool (e j)]) (.agg #[.int .u32 (t' j), .bool (e' j)])).run Try.prog W = .ok (.bool false) W := fun W => by
        rw [run_neq_tag, (HEQ.out j hlt).1, (HEQ.out j hlt).2]; simp
      have st : TwoTags w b off b' off' len t t' e e' (w.drewN m) := ⟨hs, hs', m, rfl⟩
      go_wp2_with fail
      refine wp_region_S (TwoTags w b off b' off' len t t' e e') (by kernel_rfl) (by kernel_rfl) ⟨st.s, st.s', m + 1, rfl⟩ ?_
      clear st
      intro hne
      first | go_big_quiet_skip | (go_big_quiet_want; go_big_quiet_op; go_big_quiet_on)
      first | go_big_quiet_skip | (go_big_quiet_want; go_big_quiet_op; go_big_quiet_on)
      first | go_big_quiet_skip | (go_big_quiet_want; go_big_quiet_op; go_big_quiet_on)
      refine q_load rfl 69 (.tmp 19) rfl _ _ rfl [.int .u32 (t j), .bool (e j)] _ (fun W h => tagRange h.s j hlt) Try.underlying69 rfl (by kernel_rfl) ?_
      refine wpQuiet_frame (by simp only [Act.put, List.setIfInBounds_toArray, List.set_cons_succ, List.set_cons_zero]; exact rfl) ?_
      first | go_big_quiet_skip | (go_big_quiet_want; go_big_quiet_op; go_big_quiet_on)
      first | go_big_quiet_skip | (go_big_quiet_want; go_big_quiet_op; go_big_quiet_on)
      first | go_big_quiet_skip | (go_big_quiet_want; go_big_quiet_op; go_big_quiet_on)
      refine q_load rfl 69 (.tmp 23) rfl _ _ rfl [.int .u32 (t' j), .bool (e' j)] _ (fun W h => tagRange h.s' j hlt) Try.underlying69 rfl (by kernel_rfl) ?_
      refine wpQuiet_frame (by simp only [Act.put, List.setIfInBounds_toArray, List.set_cons_succ, List.set_cons_zero]; exact rfl) ?_
      first | go_big_quiet_skip | (go_big_quiet_want; go_big_quiet_op; go_big_quiet_on)
      refine wpQuiet_nil ?_
      intro w6 h6
      obtain ⟨m6, hm6⟩ := h6.out.d
      clear h6 hne hq
      go_wp2_with fail
      go_roundw
      case rel => first | exact ⟨j + 1, by omega, by go_num, m6, hm6⟩ | exact ⟨j + 1, by omega, by go_num, m6, rfl⟩
      case measure => simp [intOf]; omega
    · obtain rfl : j = len := by omega
      go_wp2
      go_ret
      exact ⟨rfl, _, rfl⟩

/-- is a block read as kind k? -/
def rdB (z : Nat → Int) (k : Nat) : Bool := if k = 1 then descRd z else if k = 2 then commitRd z else if k = 3 then revRd z else headRd z
theorem run_bools (a b c d : Bool) (w : World) : (Instr.buildSlice 94 5 #[(0, .bool false), (1, .bool a), (2, .bool b), (3, .bool c), (4, .bool d)]).run Try.prog w = .ok (.slice (some ⟨w.heap.size, 0, none⟩) 5 5) (w.alloc (.cells #[.bool false, .bool a, .bool b, .bool c, .bool d] 4)) := by kernel_rfl
theorem errOf_eq (b : Bool) (e : Int) (he : e ≠ 0) : (errOf b e == 0) = b := by
  cases b
  · show (e == 0) = false; simpa using he
  · rfl
theorem bools_cell {W : World} {g : Nat} {z : Nat → Int} (h : At W g 4 #[.bool false, .bool (descRd z), .bool (commitRd z), .bool (revRd z), .bool (headRd z)]) (j : Nat) (h1 : 1 ≤ j) (h4 : j ≤ 4) : W.cell? ⟨g, j, none⟩ = some (.bool (rdB z j)) := by
  obtain rfl | rfl | rfl | rfl : j = 1 ∨ j = 2 ∨ j = 3 ∨ j = 4 := by omega
  all_goals exact h.cell rfl

set_option maxRecDepth 100000 in
set_option maxHeartbeats 4000000 in
theorem one_any (z : Nat → Int) (hz : Byt z) (is : Bool) (k : Nat) (hk : 1 ≤ k ∧ k ≤ 4) (hrd : ∀ j, 1 ≤ j → j ≤ 4 → rdB z j = (is && j == k)) (hkind : is = true → kindOf z = (k : Int)) (w : World) :
    Calls Try.prog 36 #[bval z, .bool is, .int .u8 (k : Int)] w fun e w' => e = .returned (.bool true) ∧ Below w.heap.size w w' := by
  have HRD := Lib.hid hrd
  have HKD := Lib.hid hkind
  clear hrd hkind
  obtain ⟨hk1, hk4⟩ := hk
  have hB := Blk.new w 28 256 z
  have hL : Hid (Below w.heap.size w (w.alloc (.cells (Ks .u8 256 z).toArray 28))) := (Below.refl _ _).alloc (Nat.le_refl _) _
  have hz0 := zero_head
  go_enter Try.func36, Try.ntmps36
  go_wp2_with (first | (refine wp_loadBlk rfl (.tmp 3) rfl w.heap.size z rfl hB ?_))
  refine (readHead_any z hz _).mono ?_
  rintro e w1 ⟨rfl, hb1⟩
  have hB1 := (hB.below hb1 hB.lt).alloc (.cells #[.int .u32 (hdS z), .int .i64 (hdT z)] 24)
  have hL1 : Hid (Below w.heap.size w (w1.alloc (.cells #[.int .u32 (hdS z), .int .i64 (hdT z)] 24))) := (hL.out.trans (hb1.mono hL.out.size)).alloc (hL.out.trans (hb1.mono hL.out.size)).size _
  clear hB hL hb1
  go_wp2_with (first | (refine wp_loadBlk rfl (.tmp 3) rfl w.heap.size z rfl hB1 ?_))
  refine ((readDesc_any z hz _).mono (R' := fun e w' => (∃ s v, e = .returned (.tuple #[s, v, .int .i64 (errOf (descRd z) 90)])) ∧ Blk w' w.heap.size 28 256 z ∧ Below w.heap.size w w') (fun e w' h => by
    obtain ⟨hb, h | h⟩ := h
    · exact ⟨⟨_, _, by rw [h.1, h.2]; rfl⟩, hB1.below hb hB1.lt, hL1.out.trans (hb.mono hL1.out.size)⟩
    · obtain ⟨hr, g, cap, he, _⟩ := h
      exact ⟨⟨_, _, by rw [hr, he]; rfl⟩, hB1.below hb hB1.lt, hL1.out.trans (hb.mono hL1.out.size)⟩)).mono ?_
  rintro e w2 ⟨⟨sD, vD, rfl⟩, hB2, hL2⟩
  clear hB1 hL1 hz0
  go_wp2_with (first | (refine wp_loadBlk rfl (.tmp 3) rfl w.heap.size z rfl hB2 ?_))
  refine ((readRevoke_any z hz _).mono (R' := fun e w' => (∃ s v, e = .returned (.tuple #[s, v, .int .i64 (errOf (revRd z) 90)])) ∧ Blk w' w.heap.size 28 256 z ∧ Below w.heap.size w w') (fun e w' h => by
    obtain ⟨hb, h | h⟩ := h
    · exact ⟨⟨_, _, by rw [h.1, h.2]; rfl⟩, hB2.below hb hB2.lt, hL2.trans (hb.mono hL2.size)⟩
    · obtain ⟨hr, g, cap, he, _⟩ := h
      exact ⟨⟨_, _, by rw [hr, he]; rfl⟩, hB2.below hb hB2.lt, hL2.trans (hb.mono hL2.size)⟩)).mono ?_
  rintro e w3 ⟨⟨sR, vR, rfl⟩, hB3, hL3⟩
  clear hB2 hL2
  go_wp2_with (first | (refine wp_loadBlk rfl (.tmp 3) rfl w.heap.size z rfl hB3 ?_))
  refine ((readCommit_any z hz _).mono (R' := fun e w' => (∃ s n v, e = .returned (.tuple #[s, n, v, .int .i64 (errOf (commitRd z) 90)])) ∧ Blk w' w.heap.size 28 256 z ∧ Below w.heap.size w w') (fun e w' h => by
    obtain ⟨he, hb⟩ := h
    refine ⟨?_, hB3.below hb hB3.lt, hL3.trans (hb.mono hL3.size)⟩
    rw [commitV] at he
    cases hc : commitRd z
    · rw [hc] at he; exact ⟨_, _, _, he⟩
    · rw [hc] at he; exact ⟨_, _, _, he⟩)).mono ?_
  rintro e w4 ⟨⟨sC, nC, vC, rfl⟩, hB4, hL4⟩
  clear hB3 hL3
  have q1 := errOf_eq (descRd z) 90 (by decide)
  have q2 := errOf_eq (commitRd z) 90 (by decide)
  have q3 := errOf_eq (revRd z) 90 (by decide)
  have q4 := errOf_eq (headRd z) 90 (by decide)
  have r1 : descRd z = (is && 1 == k) := HRD.out 1 (by decide) (by decide)
  have r2 : commitRd z = (is && 2 == k) := HRD.out 2 (by decide) (by decide)
  have r3 : revRd z = (is && 3 == k) := HRD.out 3 (by decide) (by decide)
  have r4 : headRd z = (is && 4 == k) := HRD.out 4 (by decide) (by decide)
  have HR1 := Lib.hid r1
  have HR2 := Lib.hid r2
  have HR3 := Lib.hid r3
  have HR4 := Lib.hid r4
  clear r1 r2 r3 r4
  generalize errOf (descRd z) 90 = e1 at q1 ⊢
  generalize errOf (commitRd z) 90 = e2 at q2 ⊢
  generalize errOf (revRd z) 90 = e3 at q3 ⊢
  generalize errOf (headRd z) 90 = e4 at q4 ⊢
  have hbs := fun W => run_bools (descRd z) (commitRd z) (revRd z) (headRd z) W
  have hB5 := hB4.alloc (.cells #[.bool false, .bool (descRd z), .bool (commitRd z), .bool (revRd z), .bool (headRd z)] 4)
  go_wp2_with (first | (refine wp_loadBlk rfl (.tmp 3) rfl w.heap.size z rfl hB5 ?_))
  refine (kind_any z hz _).mono ?_
  rintro e w6 ⟨rfl, hb6⟩
  have hA4 := At.new w4 4 #[.bool false, .bool (descRd z), .bool (commitRd z), .bool (revRd z), .bool (headRd z)]
  have hA6 := hA4.below hb6 hA4.lt
  have hL6 : Below w.heap.size w w6 := (hL4.alloc hL4.size _).trans (hb6.mono (hL4.alloc hL4.size _).size)
  clear hB4 hL4 hB5 hb6 hA4 hbs q1 q2 q3 q4 HR1 HR2 HR3 HR4
  go_wp2_with fail
  go_loopw [22] (fun u wr => ∃ j : Nat, 1 ≤ j ∧ j ≤ 5 ∧ u = .int .i64 (j : Int) ∧ At wr w4.heap.size 4 #[.bool false, .bool (descRd z), .bool (commitRd z), .bool (revRd z), .bool (headRd z)] ∧ Below w.heap.size w wr) (fun u _ => 5 - (intOf u).toNat)
  case atStart => exact ⟨1, by omega, by omega, rfl, hA6, hL6⟩
  case round =>
    clear hA6 hL6
    obtain ⟨j, hj1, hj5, rfl, hA, hL⟩ := hrel
    by_cases hlt : j ≤ 4
    · have c0 := bools_cell hA j hj1 hlt
      rw [HRD.out j hj1 hlt] at c0
      have l0 : (0 : Int) ≤ (j : Int) := by omega
      have l1 : (j : Int) < 5 := by omega
      have l2 : (j : Int) ≤ 4 := by omega
      cases is with
      | false =>
        rw [Bool.false_and] at c0
        go_wp2_with fail
        go_roundw
        case rel => first | exact ⟨j + 1, by omega, by omega, by go_num, hA, hL⟩ | ((repeat apply Exists.intro); exact ⟨⟨j + 1, by omega, by omega, by go_num, hA, hL⟩, rfl⟩)
        case measure => simp [intOf]; omega
      | true =>
        rw [Bool.true_and] at c0
        by_cases hjk : j = k
        · have e1 : ((j : Int) == (k : Int)) = true := by simp [hjk]
          have e2 : (j == k) = true := by simp [hjk]
          rw [e2] at c0
          clear hjk
          go_wp2_with fail
          go_roundw
          case rel => first | exact ⟨j + 1, by omega, by omega, by go_num, hA, hL⟩ | ((repeat apply Exists.intro); exact ⟨⟨j + 1, by omega, by omega, by go_num, hA, hL⟩, rfl⟩)
          case measure => simp [intOf]; omega
        · have e1 : ((j : Int) == (k : Int)) = false := by simp; omega
          have e2 : (j == k) = false := by simp [hjk]
          rw [e2] at c0
          go_wp2_with fail
          go_roundw
          case rel => first | exact ⟨j + 1, by omega, by omega, by go_num, hA, hL⟩ | ((repeat apply Exists.intro); exact ⟨⟨j + 1, by omega, by omega, by go_num, hA, hL⟩, rfl⟩)
          case measure => simp [intOf]; omega
    · obtain rfl : j = 5 := by omega
      cases is with
      | false =>
        go_wp2_with fail
        go_ret
        exact ⟨rfl, hL⟩
      | true =>
        rw [HKD.out rfl]
        have e1 : ((k : Int) == (k : Int)) = true := by simp
        go_wp2_with fail
        go_ret
        exact ⟨rfl, hL⟩
end Go.Proofs.Ytahobhifafiaeaa
