/- The walk of the law SlotsBack. -/
import Derived.Test.YtmghpmbjimdegaaS8h
import Derived.Test.YtmghpmbjimdegaaOpen
import Derived.Test.YtmghpmbjimdegaaEq
namespace Go.Proofs.Ytmghpmbjimdegaa
open Go.RowKit
set_option linter.unusedVariables false

theorem run_eql_slot (i j : Int) (s t : ByteArray) (w : World) : (binOp .eql 33 (sv i s) (sv j t)).run Try.prog w = .ok (.bool (i == j && s.toList == t.toList)) w := by
  have hS : Try.prog.underlying 33 = some (.struct (Try.prog.fieldsOf 33)) := by kernel_rfl
  have hp : Try.prog.stoodInHeld 33 = false := by kernel_rfl
  rw [run_eql_struct, show (10000 : Nat) = 9999 + 1 from rfl, run_equalIn_agg w 9999 _ _ _ hS hp]
  simp only [Program.fieldsOf, Try.underlying33]
  clear hS hp
  go_simp
  by_cases h1 : i = j <;> by_cases h2 : s.toList = t.toList <;> simp [h1, h2]
theorem neq_of_eql {P : Program} {t : TypeId} {x y : Array Value} {B : Bool} {w : World} (h : (binOp .eql t (.agg x) (.agg y)).run P w = .ok (.bool B) w) : (binOp .neq t (.agg x) (.agg y)).run P w = .ok (.bool (!B)) w := by
  rw [run_eql_struct] at h
  rw [run_neq_struct]
  generalize (Op.equalIn 10000 t (.agg x) (.agg y)).run P w = r at *
  cases r with
  | ok b w' => simp at h ⊢; exact ⟨by rw [h.1], h.2⟩
  | halt e w' => simp at h
theorem run_neq_slot (i j : Int) (s t : ByteArray) (w : World) : (binOp .neq 33 (sv i s) (sv j t)).run Try.prog w = .ok (.bool (!(i == j && s.toList == t.toList))) w := neq_of_eql (run_eql_slot i j s t w)
/-- the block that came in -/
structure B1 (w : World) (z : Nat → Int) (W : World) : Prop where
  b : Blk W w.heap.size 23 256 z
  bel : Below w.heap.size w W
theorem B1.below {w : World} {z : Nat → Int} {W W' : World} (h : B1 w z W) (hb : Below W.heap.size W W') : B1 w z W' := ⟨h.b.below hb h.b.lt, h.bel.trans (hb.mono h.bel.size)⟩
theorem B1.new (w : World) (z : Nat → Int) : B1 w z (w.alloc (.cells (Ks .u8 256 z).toArray 23)) := ⟨Blk.new _ _ _ _, (Below.refl _ _).alloc (Nat.le_refl _) _⟩
/-- and a copy of it that is changed -/
structure B2 (w : World) (z zc : Nat → Int) (gc : Nat) (W : World) : Prop extends B1 w z W where
  c : Blk W gc 23 256 zc
  ge : w.heap.size < gc
theorem B2.below {w : World} {z zc : Nat → Int} {gc : Nat} {W W' : World} (h : B2 w z zc gc W) (hb : Below W.heap.size W W') : B2 w z zc gc W' := ⟨h.toB1.below hb, h.c.below hb h.c.lt, h.ge⟩
theorem B2.put {w : World} {z zc zd : Nat → Int} {gc : Nat} {W W' : World} (h : B2 w z zc gc W) (hB : Blk W' gc 23 256 zd) (hg : W.grownBy W' (some gc)) : B2 w z zd gc W' := by
  have hlt := h.c.lt
  have h1 := h.ge
  have hb : Below gc W W' := (Below.refl gc W).grown hg (by omega) (fun k e => by cases e; exact Nat.le_refl _)
  exact ⟨⟨h.b.below hb h.ge, h.bel.trans (hb.mono (by omega))⟩, hB, h.ge⟩

theorem B1.copy {w : World} {z : Nat → Int} {W W' : World} (h : B1 w z W) (hB : Blk W' W.heap.size 23 256 z) (ho : Only W.heap.size (W.alloc (.cells (Ks .u8 256 (fun _ => 0)).toArray 23)) W') : B2 w z z W.heap.size W' := by
  have h1 := h.b.lt
  have h2 := h.bel.size
  exact ⟨⟨(h.b.alloc _).only ho (by omega), (h.bel.alloc h2 _).trans (ho.below h2)⟩, hB, h1⟩

/-- with the slots of both that were told -/
structure BkS (w : World) (z zc : Nat → Int) (gc g g2 : Nat) (W : World) : Prop extends B2 w z zc gc W where
  s1 : SlSeg W g 0 8 (dI z) (dM z)
  s2 : SlSeg W g2 0 8 (dI zc) (dM zc)
theorem B1.drew {w : World} {z : Nat → Int} {W : World} (h : B1 w z W) : B1 w z W.drew := ⟨h.b, h.bel.drew⟩
theorem B2.drew {w : World} {z zc : Nat → Int} {gc : Nat} {W : World} (h : B2 w z zc gc W) : B2 w z zc gc W.drew := ⟨h.toB1.drew, h.c, h.ge⟩
theorem BkS.drew {w : World} {z zc : Nat → Int} {gc g g2 : Nat} {W : World} (h : BkS w z zc gc g g2 W) : BkS w z zc gc g g2 W.drew := ⟨h.toB2.drew, h.s1, h.s2⟩

set_option maxRecDepth 100000 in
set_option maxHeartbeats 4000000 in
theorem back8_walk (z : Nat → Int) (hz : Byt z) (s : ByteArray) (hs : s.size ≤ 9223372036854775807) (ino : Int) (hi : 0 ≤ ino ∧ ino < 4294967296) (w : World) :
    Calls Try.prog 7 #[bval z, .string s, .int .u32 ino] w fun e w' => e = .returned (.bool true) ∧ Below w.heap.size w w' := by
  obtain ⟨hi0, hi1⟩ := hi
  have hal := zero_block
  go_enter Try.func7, Try.ntmps7
  go_wp2_with fail
  refine (awake8 _).mono ?_
  rintro e w1 ⟨rfl, hL1⟩
  have st1 := (B1.new w z).below hL1
  clear hL1
  by_cases h20 : 20000 < s.size
  · have d : (20000 : Int) < s.size := by omega
    go_wp2_with fail
    go_ret
    exact ⟨rfl, st1.bel⟩
  have d : ¬ (20000 : Int) < s.size := by omega
  have hB := st1.b
  go_wp2_with (first | (refine wp_loadBlkG rfl _ rfl _ _ rfl hB ?_))
  clear hB
  refine (list_any z hz _).mono ?_
  rintro e w2 ⟨hb2, hlr⟩
  have st2 := st1.below hb2
  have hB := st2.b
  have hn2 := Blk.new w2 23 256 (fun _ => 0)
  clear st1
  rcases hlr with ⟨hd, rfl⟩ | ⟨hd, g, hg, rfl, hA⟩
  · have HE : Hid (addE z s ino = 80) := by show _ = _; unfold addE; rw [hd]; rfl
    clear hd hb2
    go_wp2_with (first | (refine wp_loadBlkG rfl _ rfl _ _ rfl hB ?_) | (refine wp_storeBlk rfl _ _ rfl w2.heap.size z _ rfl rfl hn2 ?_))
    intro w3 hB3 ho3
    have st3 := st2.copy hB3 ho3
    clear hB hn2 st2 hB3 ho3
    go_wp2_with fail
    refine (add_any w2.heap.size z hz s hs ino ⟨hi0, hi1⟩ _ st3.c).mono ?_
    rintro e w4 ⟨rfl, hB4, hg4⟩
    rw [show addZ z s ino = z by unfold addZ; rw [HE.out]; rfl] at hB4
    have st4 := st3.put hB4 hg4
    rw [HE.out]
    have hB := st4.b
    have hC := st4.c
    have eq : ∀ W, (binOp .eql 23 (bval z) (bval z)).run Try.prog W = .ok (.bool true) W := fun W => by rw [run_eql_block, eqB_refl]
    clear st3 hB4 hg4 HE
    go_wp2_with (first | (refine wp_loadBlkG rfl _ rfl _ _ rfl hB ?_) | (refine wp_loadBlkG rfl _ rfl _ _ rfl hC ?_))
    go_ret
    exact ⟨rfl, st4.bel⟩
  · have hA2 := (hA.alloc (.cells (Ks .u8 256 (fun _ => 0)).toArray 23))
    have hglt := hA.lt
    go_wp2_with (first | (refine wp_loadBlkG rfl _ rfl _ _ rfl hB ?_) | (refine wp_storeBlk rfl _ _ rfl w2.heap.size z _ rfl rfl hn2 ?_))
    intro w3 hB3 ho3
    have st3 := st2.copy hB3 ho3
    have hA3 := hA2.only ho3 (by omega)
    clear hB hn2 st2 hB3 ho3 hb2 hA hA2
    go_wp2_with fail
    refine (add_any w2.heap.size z hz s hs ino ⟨hi0, hi1⟩ _ st3.c).mono ?_
    rintro e w4 ⟨rfl, hB4, hg4⟩
    have st4 := st3.put hB4 hg4
    have hb4 : Below w2.heap.size w3 w4 := (Below.refl w2.heap.size w3).grown hg4 (by have := st3.c.lt; omega) (fun k e => by cases e; exact Nat.le_refl _)
    have hA4 := hA3.below hb4 hglt
    clear st3 hB4 hg4 hb4 hA3
    by_cases he : addE z s ino = 0
    · obtain ⟨k, had⟩ := add_law ⟨hi0, hi1⟩ he
      rw [he]
      have hzc := byt_addZ hz s ino
      generalize addZ z s ino = zc at *
      have hC := st4.c
      have HAD := Lib.hid had
      clear had he hd
      go_wp2_with (first | (refine wp_loadBlkG rfl _ rfl _ _ rfl hC ?_))
      clear hC
      refine (list_any zc hzc _).mono ?_
      rintro e w5 ⟨hb5, hlr⟩
      have st5 := st4.below hb5
      have hA5 := hA4.below hb5 hA4.lt
      clear st4 hA4
      rcases hlr with ⟨hd, rfl⟩ | ⟨hd, g2, hg2, rfl, hN5⟩
      · rw [HAD.out.dir'] at hd; cases hd
      clear hd hb5
      have hC := st5.c
      go_wp2_with (first | (refine wp_loadBlkG rfl _ rfl _ _ rfl hC ?_))
      clear hC
      refine (find_any zc hzc s _).mono ?_
      rintro e w6 ⟨rfl, hb6⟩
      have st6 := st5.below hb6
      have hA6 := hA5.below hb6 hA5.lt
      have hN6 := hN5.below hb6 hN5.lt
      rw [HAD.out.at_, HAD.out.fi]
      clear st5 hA5 hN5 hb6 hg2
      have hk := HAD.out.lt
      have c0 : w6.cell? ⟨g, k * 2, none⟩ = some (.int .u32 0) := by have := (hA6.slots k hk).1; rwa [Nat.zero_add, HAD.out.was] at this
      have q1 : (ino != ino) = false := by simp
      have st : BkS w z zc w2.heap.size g g2 w6 := ⟨st6, hA6.slots, hN6.slots⟩
      clear hA6 hN6 st6
      go_wp2_with fail
      go_loopw [15] (fun u wr => ∃ i : Nat, i ≤ 8 ∧ u = .int .i64 (i : Int) ∧ BkS w z zc w2.heap.size g g2 wr) (fun u _ => 8 - (intOf u).toNat)
      case atStart => exact ⟨0, by omega, rfl, st⟩
      case round =>
        clear st c0
        obtain ⟨i, hi8, rfl, st⟩ := hrel
        by_cases hlt : i < 8
        · have l0 : (0 : Int) ≤ (i : Int) := by omega
          have l1 : (i : Int) < 8 := by omega
          have hc1 : ∀ x : InW (BkS w z zc w2.heap.size g g2), x.W.cell? ⟨g, i * 2, none⟩ = some (.int .u32 (dI z i)) := fun x => by have := (x.h.s1 i hlt).1; rwa [Nat.zero_add] at this
          have r1 : Hid (∀ W, BkS w z zc w2.heap.size g g2 W → W.rangeAt g (i * 2) [.int .u32 (dI z i), .string (dM z i)]) := fun W h => by have := h.s1.range i hlt; rwa [Nat.zero_add] at this
          have r2 : Hid (∀ W, BkS w z zc w2.heap.size g g2 W → W.rangeAt g2 (i * 2) [.int .u32 (dI zc i), .string (dM zc i)]) := fun W h => by have := h.s2.range i hlt; rwa [Nat.zero_add] at this
          have fin : Hid (∀ W, BkS w z zc w2.heap.size g g2 W → True) := fun _ _ => trivial
          go_wp2_with fail
          refine wp_region_S (BkS w z zc w2.heap.size g g2) (by kernel_rfl) (by kernel_rfl) st.drew ?_
          clear st
          intro hne
          by_cases hik : i = k
          · subst hik
            have l3 : ¬ (i : Int) < (i : Int) := by omega
            repeat (first | go_big_quiet_skip | (go_big_quiet_want; go_big_quiet_op; go_big_quiet_on))
            refine wpQuiet_nil ?_
            intro w7 h7
            have st7 := h7.out
            clear h7 hne
            go_wp2_with fail
            go_roundw
            case rel => first | exact ⟨i + 1, by omega, by go_num, st7⟩ | ((repeat apply Exists.intro); exact ⟨⟨i + 1, by omega, by go_num, st7⟩, rfl⟩)
            case measure => simp [intOf]; omega
          · rw [(HAD.out.rest i hik).1, (HAD.out.rest i hik).2] at r2
            have hne2 : ∀ W, (binOp .neq 33 (.agg #[.int .u32 (dI z i), .string (dM z i)]) (.agg #[.int .u32 (dI z i), .string (dM z i)])).run Try.prog W = .ok (.bool false) W := fun W => by rw [run_neq_slot]; simp
            have q2 : ((i : Int) != (k : Int)) = true := bne_iff_ne.2 (by omega)
            have q3 : i < k → (dI z i == 0) = false := fun hik2 => by simpa using HAD.out.ahead i hik2
            by_cases hik2 : i < k
            · have l3 : (i : Int) < (k : Int) := by omega
              have q3' := q3 hik2
              clear q3
              repeat (first | (first | go_big_quiet_skip | (go_big_quiet_want; go_big_quiet_op; go_big_quiet_on)) | (refine q_load rfl 33 _ rfl _ _ rfl _ _ r1.out Try.underlying33 rfl (by kernel_rfl) ?_; refine wpQuiet_frame (by simp only [Act.put, List.setIfInBounds_toArray, List.set_cons_succ, List.set_cons_zero]; exact rfl) ?_) | (refine q_load rfl 33 _ rfl _ _ rfl _ _ r2.out Try.underlying33 rfl (by kernel_rfl) ?_; refine wpQuiet_frame (by simp only [Act.put, List.setIfInBounds_toArray, List.set_cons_succ, List.set_cons_zero]; exact rfl) ?_))
              refine wpQuiet_nil ?_
              intro w7 h7
              have st7 := h7.out
              clear h7 hne
              go_wp2_with fail
              go_roundw
              case rel => first | exact ⟨i + 1, by omega, by go_num, st7⟩ | ((repeat apply Exists.intro); exact ⟨⟨i + 1, by omega, by go_num, st7⟩, rfl⟩)
              case measure => simp [intOf]; omega
            · have l3 : ¬ (i : Int) < (k : Int) := by omega
              clear q3
              repeat (first | (first | go_big_quiet_skip | (go_big_quiet_want; go_big_quiet_op; go_big_quiet_on)) | (refine q_load rfl 33 _ rfl _ _ rfl _ _ r1.out Try.underlying33 rfl (by kernel_rfl) ?_; refine wpQuiet_frame (by simp only [Act.put, List.setIfInBounds_toArray, List.set_cons_succ, List.set_cons_zero]; exact rfl) ?_) | (refine q_load rfl 33 _ rfl _ _ rfl _ _ r2.out Try.underlying33 rfl (by kernel_rfl) ?_; refine wpQuiet_frame (by simp only [Act.put, List.setIfInBounds_toArray, List.set_cons_succ, List.set_cons_zero]; exact rfl) ?_))
              refine wpQuiet_nil ?_
              intro w7 h7
              have st7 := h7.out
              clear h7 hne
              go_wp2_with fail
              go_roundw
              case rel => first | exact ⟨i + 1, by omega, by go_num, st7⟩ | ((repeat apply Exists.intro); exact ⟨⟨i + 1, by omega, by go_num, st7⟩, rfl⟩)
              case measure => simp [intOf]; omega
        · obtain rfl : i = 8 := by omega
          replace st := st.toB2
          go_wp2_with fail
          refine (rem_any w2.heap.size zc hzc s _ st.c).mono ?_
          rintro e w7 ⟨rfl, hB7, hg7⟩
          rw [HAD.out.back] at hB7
          have st7 := st.put hB7 hg7
          rw [HAD.out.rem]
          clear st hB7 hg7
          have hB := st7.b
          have hC := st7.c
          have eq : ∀ W, (binOp .eql 23 (bval z) (bval z)).run Try.prog W = .ok (.bool true) W := fun W => by rw [run_eql_block, eqB_refl]
          go_wp2_with (first | (refine wp_loadBlkG rfl _ rfl _ _ rfl hB ?_) | (refine wp_loadBlkG rfl _ rfl _ _ rfl hC ?_))
          clear hB hC
          refine (rem_any w2.heap.size z hz s _ st7.c).mono ?_
          rintro e w8 ⟨rfl, hB8, hg8⟩
          have st8 := st7.put hB8 hg8
          rw [HAD.out.not]
          clear hB8 hg8 st7
          go_wp2_with fail
          go_ret
          exact ⟨rfl, st8.bel⟩
    · have hne : addE z s ino ≠ 80 := by unfold addE; rw [hd, if_neg (by decide)]; split; decide; split <;> decide
      rw [show addZ z s ino = z by unfold addZ; rw [if_neg he]] at st4
      have hB := st4.b
      have hC := st4.c
      have eq : ∀ W, (binOp .eql 23 (bval z) (bval z)).run Try.prog W = .ok (.bool true) W := fun W => by rw [run_eql_block, eqB_refl]
      have q1 : (addE z s ino != 0) = true := by simpa using he
      have q2 : (addE z s ino != 80) = true := by simpa using hne
      generalize addE z s ino = e at *
      go_wp2_with (first | (refine wp_loadBlkG rfl _ rfl _ _ rfl hB ?_) | (refine wp_loadBlkG rfl _ rfl _ _ rfl hC ?_))
      go_ret
      exact ⟨rfl, st4.bel⟩
end Go.Proofs.Ytmghpmbjimdegaa
