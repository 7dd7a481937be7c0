/- quernlaw15.great, quernlaw15.Block. -/
import Derived.Test.YthkalmdpbhjafaaDoorPk13
import Derived.Test.YthkalmdpbhjafaaDoorMg1
namespace Go.Proofs.YthkalmdpbhjafaaDoor
open Go.RowKit
set_option linter.unusedVariables false

def greatB (n m : Nat) : Bool := decide (400 < n) || decide (3000 < m)
set_option maxRecDepth 100000 in
theorem great_any (a c : Option Addr) (n m cap cap' : Nat) (w : World) : Calls Tryd.prog 11 #[.slice a n cap, .slice c m cap'] w fun e w' => e = .returned (.bool (greatB n m)) ∧ w' = w := by
  by_cases h1 : 400 < n
  · have h1' : (400 : Int) < (n : Int) := by omega
    go_enter Tryd.func11, Tryd.ntmps11
    go_wp2_with fail
    go_ret
    exact ⟨by simp [greatB, h1], rfl⟩
  · have h1' : ¬ (400 : Int) < (n : Int) := by omega
    have h2 : greatB n m = decide ((3000 : Int) < (m : Int)) := by
      unfold greatB
      rw [decide_eq_false h1, Bool.false_or]
      exact decide_eq_decide.2 (by omega)
    rw [h2]
    go_enter Tryd.func11, Tryd.ntmps11
    go_wp2_with fail
    go_ret
    exact ⟨by simp, rfl⟩

/-- a row's bytes -/
def rowZ (f : Int) (mg : Bool) : Nat → Int := if mg then over (fun _ => f) 0 4 (byteOf 1280199249) else fun _ => f
theorem rowZ_byt {f : Int} (hf : 0 ≤ f ∧ f < 256) (mg : Bool) : Byt (rowZ f mg) := by
  unfold rowZ; split
  · exact byt_over (fun _ => hf) (byt_byteOf _) _ _
  · exact fun _ => hf
abbrev rwcells (b f : Int) (mg : Bool) : Array Value := #[.int .i64 b, .int .u8 f, .bool mg]
structure B15 (w : World) (b f : Int) (mg : Bool) (z : Nat → Int) (W : World) : Prop where
  x : At W w.heap.size 51 (rwcells b f mg)
  r : Blk W (w.heap.size + 1) 40 256 (fun _ => 0)
  b : Blk W (w.heap.size + 2) 40 256 z
  bel : Below w.heap.size w W
theorem B15.step {w : World} {b f : Int} {mg : Bool} {z z' : Nat → Int} {W W' : World} (h : B15 w b f mg z W) (hB : Blk W' (w.heap.size + 2) 40 256 z') (ho : Only (w.heap.size + 2) W W') : B15 w b f mg z' W' :=
  ⟨h.x.only ho (by omega), h.r.only ho (by omega), hB, h.bel.trans (ho.below (by omega))⟩
theorem B15.congr {w : World} {b f : Int} {mg : Bool} {z z' : Nat → Int} {W : World} (h : B15 w b f mg z W) (he : ∀ i, i < 256 → z i = z' i) : B15 w b f mg z' W := ⟨h.x, h.r, h.b.congr he, h.bel⟩

set_option maxRecDepth 100000 in
set_option maxHeartbeats 4000000 in
theorem block15_any (b f : Int) (hf : 0 ≤ f ∧ f < 256) (mg : Bool) (w : World) : Calls Tryd.prog 23 #[.agg (rwcells b f mg)] w fun e w' => e = .returned (bval (rowZ f mg)) ∧ Below w.heap.size w w' := by
  have hal := zero_block
  have st0 : Hid (B15 w b f mg (fun i => if i < 0 then f else 0) (((w.alloc (.cells (rwcells b f mg) 51)).alloc (.cells (Ks .u8 256 (fun _ => 0)).toArray 40)).alloc (.cells (Ks .u8 256 (fun _ => 0)).toArray 40))) := by
    refine ⟨((At.new w _ _).alloc _).alloc _, ?_, ?_, (((Below.refl _ _).alloc (Nat.le_refl _) _).alloc (by simp) _).alloc (by simp; omega) _⟩
    · have := (Blk.new (w.alloc (.cells (rwcells b f mg) 51)) 40 256 (fun _ => 0)).alloc (.cells (Ks .u8 256 (fun _ => 0)).toArray 40)
      simp only [World.size_alloc] at this; exact this
    · have := Blk.new ((w.alloc (.cells (rwcells b f mg) 51)).alloc (.cells (Ks .u8 256 (fun _ => 0)).toArray 40)) 40 256 (fun _ => 0)
      simp only [World.size_alloc] at this
      exact this.congr fun i _ => by rw [if_neg (by omega)]
  go_enter Tryd.func23, Tryd.ntmps23
  go_wp2_with fail
  go_loopw [4] (fun u wr => ∃ k : Nat, k ≤ 256 ∧ u = .int .i64 (k : Int) ∧ B15 w b f mg (fun i => if i < k then f else 0) wr) (fun u _ => 256 - (intOf u).toNat)
  case atStart => exact ⟨0, by omega, rfl, st0.out⟩
  case round =>
    clear st0
    obtain ⟨k, hk, rfl, st⟩ := hrel
    by_cases hlt : k < 256
    · have hB := st.b
      have l1 : (k : Int) < 256 := by omega
      have c1 : wr.cell? ⟨w.heap.size, 1, none⟩ = some (.int .u8 f) := st.x.cell (i := 1) rfl
      go_wp2_with (first | (refine wp_storeByte rfl (.tmp 12) (.tmp 11) rfl (w.heap.size + 2) k f rfl rfl hB hlt ?_))
      intro w7 hb7 ho7
      have st7 : B15 w b f mg (fun i => if i < k + 1 then f else 0) w7 := st.step (hb7.congr fun i _ => by
        unfold over
        by_cases e : k ≤ i ∧ i < k + 1
        · rw [if_pos e, if_pos (by omega)]
        · rw [if_neg e]
          show (if i < k then f else 0) = _
          by_cases e2 : i < k
          · rw [if_pos e2, if_pos (by omega)]
          · rw [if_neg e2, if_neg (by omega)]) ho7
      clear st hB hb7 ho7
      go_wp2_with fail
      go_roundw
      case rel => first | exact ⟨k + 1, by omega, by go_num, st7⟩ | exact ⟨k + 1, by omega, rfl, st7⟩
      case measure => simp [intOf]; omega
    · obtain rfl : k = 256 := by omega
      have st2 : B15 w b f mg (fun _ => f) wr := st.congr fun i hi => by rw [if_pos hi]
      have c2 : wr.cell? ⟨w.heap.size, 2, none⟩ = some (.bool mg) := st2.x.cell (i := 2) rfl
      clear st
      cases mg with
      | false =>
        have HST := Lib.hid st2
        have hB := st2.b
        have hR := st2.r
        clear st2
        go_wp2_with (first | (refine wp_loadBlkG rfl (.tmp 3) rfl (w.heap.size + 2) (fun _ => f) rfl hB ?_) | (refine wp_storeBlk rfl (.tmp 2) (.tmp 19) rfl (w.heap.size + 1) (fun _ => f) _ rfl rfl hR ?_))
        intro w3 hR3 ho3
        have HLZ := Lib.hid (HST.out.bel.trans (ho3.below (by omega)))
        clear HST hB hR ho3
        go_wp2_with fail
        exact bodyPost_ret (results_blk rfl _ _ (w.heap.size + 1) _ rfl hR3) rfl ⟨rfl, HLZ.out⟩
      | true =>
        have hB := st2.b
        go_wp2_with (first | (refine wp_storeByte rfl (.tmp 15) (.const (.int .u8 81)) rfl (w.heap.size + 2) 0 81 rfl rfl hB (by decide) ?_))
        intro w4 hb4 ho4
        have st4 := st2.step hb4 ho4
        have hB4 := st4.b
        clear st2 hB hb4 ho4
        go_wp2_with (first | (refine wp_storeByte rfl (.tmp 16) (.const (.int .u8 74)) rfl (w.heap.size + 2) 1 74 rfl rfl hB4 (by decide) ?_))
        intro w5 hb5 ho5
        have st5 := st4.step hb5 ho5
        have hB5 := st5.b
        clear st4 hB4 hb5 ho5
        go_wp2_with (first | (refine wp_storeByte rfl (.tmp 17) (.const (.int .u8 78)) rfl (w.heap.size + 2) 2 78 rfl rfl hB5 (by decide) ?_))
        intro w6 hb6 ho6
        have st6 := st5.step hb6 ho6
        have hB6 := st6.b
        clear st5 hB5 hb6 ho6
        go_wp2_with (first | (refine wp_storeByte rfl (.tmp 18) (.const (.int .u8 76)) rfl (w.heap.size + 2) 3 76 rfl rfl hB6 (by decide) ?_))
        intro w7 hb7 ho7
        have st7 := (st6.step hb7 ho7).congr (z' := rowZ f true) fun i _ => by
          unfold rowZ over
          rw [if_pos rfl]
          by_cases e3 : i = 3
          · subst e3; rfl
          by_cases e2 : i = 2
          · subst e2; rfl
          by_cases e1 : i = 1
          · subst e1; rfl
          by_cases e0 : i = 0
          · subst e0; rfl
          rw [if_neg (by omega), if_neg (by omega), if_neg (by omega), if_neg (by omega), if_neg (by omega)]
        have HST := Lib.hid st7
        have hB7 := st7.b
        have hR := st7.r
        clear st6 hB6 hb7 ho7 st7
        go_wp2_with (first | (refine wp_loadBlkG rfl (.tmp 3) rfl (w.heap.size + 2) (rowZ f true) rfl hB7 ?_) | (refine wp_storeBlk rfl (.tmp 2) (.tmp 19) rfl (w.heap.size + 1) (rowZ f true) _ rfl rfl hR ?_))
        intro w3 hR3 ho3
        have HLZ := Lib.hid (HST.out.bel.trans (ho3.below (by omega)))
        clear HST hB7 hR ho3
        go_wp2_with fail
        exact bodyPost_ret (results_blk rfl _ _ (w.heap.size + 1) _ rfl hR3) rfl ⟨rfl, HLZ.out⟩
end Go.Proofs.YthkalmdpbhjafaaDoor
