/- The walk of the law InodeBack. -/
import Derived.Test.YtlgjpjccjklnnaaWApart
namespace Go.Proofs.Ytlgjpjccjklnnaa
open Go.RowKit Go.Shelf
set_option linter.unusedVariables false

/-- what was got is put as just those bytes -/
theorem back_old {z : Nat → Int} (hz : Byt z) {a : Int} (h : getErr z a = 0) : putErr a (getIno z a) = 0 ∧ (getIno z a).May ∧ ∀ i, putZ z a (getIno z a) i = z i := by
  unfold getErr at h
  cases hp : placeB a with
  | false => rw [hp] at h; simp at h
  | true =>
    cases hg : getOkB z a.toNat with
    | false => rw [hp, hg] at h; simp at h
    | true =>
      have hI : getIno z a = inoOf z a.toNat := by unfold getIno; rw [hp, hg]; rfl
      have hm : (inoOf z a.toNat).May := by
        have := hg
        unfold getOkB at this
        rw [Bool.and_eq_true, Bool.and_eq_true] at this
        exact of_decide_eq_true this.2.2
      rw [hI]
      have hok : putOk a (inoOf z a.toNat) = true := by unfold putOk; rw [hp, decide_eq_true hm]; rfl
      refine ⟨putErr_0.2 hok, hm, fun i => ?_⟩
      unfold putZ
      rw [hok, if_pos rfl]
      exact get_put hz _ hg i
theorem putZ_no {z : Nat → Int} {a : Int} {x : Ino} (h : ¬ putErr a x = 0) : putZ z a x = z := by
  unfold putZ
  cases hok : putOk a x with
  | true => exact absurd (putErr_0.2 hok) h
  | false => rfl

set_option maxRecDepth 100000 in
set_option maxHeartbeats 4000000 in
theorem back7_walk (z : Nat → Int) (hz : Byt z) (a : Int) (x : Ino) (hx : x.Ok) (w : World) (ha : -9223372036854775808 ≤ a ∧ a ≤ 9223372036854775807) :
    Calls Try.prog 5 #[bval z, .int .i64 a, x.val] w fun e w' => e = .returned (.bool true) ∧ Below w.heap.size w w' := by
  have hb0 : Below w.heap.size w ((w.alloc (.cells (Ks .u8 256 z).toArray 23)).alloc (.cells x.arr 27)) := ((Below.refl _ _).alloc (Nat.le_refl _) _).alloc (by simp) _
  have hB0 : Blk ((w.alloc (.cells (Ks .u8 256 z).toArray 23)).alloc (.cells x.arr 27)) w.heap.size 23 256 z := (Blk.new _ _ _ _).alloc _
  have hx0 : InoAt ((w.alloc (.cells (Ks .u8 256 z).toArray 23)).alloc (.cells x.arr 27)) (w.heap.size + 1) 27 x := by
    have := InoAt.new (w.alloc (.cells (Ks .u8 256 z).toArray 23)) x
    simp only [World.size_alloc] at this; exact this
  have HB := Lib.hid hB0
  have HX := Lib.hid hx0
  have HL := Lib.hid hb0
  clear hB0 hx0 hb0
  obtain ⟨ha0, ha1⟩ := ha
  go_enter Try.func5, Try.ntmps5
  go_wp2_with fail
  refine (awake7 _).mono ?_
  rintro e w1 ⟨rfl, hb1⟩
  have hB := HB.out.below hb1 HB.out.lt
  have hX := HX.out.below hb1 HX.out.lt
  have hL : Below w.heap.size w w1 := HL.out.trans (hb1.mono HL.out.size)
  clear HB HX HL hb1
  have hX1 := hX.lt
  have hal := zero_block
  have hnew := Blk.new w1 23 256 (fun _ => 0)
  go_wp2_with (first | (refine wp_loadBlk rfl (.tmp 3) rfl w.heap.size z rfl hB ?_) | (refine wp_storeBlk rfl (.tmp 7) (.tmp 16) rfl w1.heap.size z _ rfl rfl hnew ?_))
  intro w2 hC2 ho2
  have hB2 : Blk w2 w.heap.size 23 256 z := (hB.alloc _).only ho2 (by omega)
  have hX2 : InoAt w2 (w.heap.size + 1) 27 x := (hX.alloc _).only ho2 (by omega)
  have hL2 : Below w.heap.size w w2 := (hL.alloc hL.size _).trans (ho2.below hL.size)
  have hlC := hC2.lt
  clear hB hX hL hnew ho2
  go_wp2_with (first | (refine wp_loadBlk rfl (.tmp 3) rfl w.heap.size z rfl hB2 ?_))
  refine (inoGet_any z hz a _ ha0 ha1).mono ?_
  rintro e w3 ⟨rfl, hb3⟩
  have hB3 := hB2.below hb3 hB2.lt
  have hX3 := hX2.below hb3 hX2.lt
  have hC3 := hC2.below hb3 hlC
  have hL3 : Below w.heap.size w w3 := hL2.trans (hb3.mono hL2.size)
  have hs3 := hb3.size
  clear hB2 hX2 hC2 hL2 hb3
  have hio := getIno_ok hz a
  have hold : getErr z a = 0 → putErr a (getIno z a) = 0 ∧ (getIno z a).May ∧ ∀ i, putZ z a (getIno z a) i = z i := back_old hz
  generalize getIno z a = old at hio hold ⊢
  generalize getErr z a = E at hold ⊢
  have HO := Lib.hid hold
  clear hold
  have hal' := zero_ino
  have hn3 := InoAt.new w3 .nil
  go_wp2_with (first | (refine wp_storeIno rfl (.tmp 8) (.tmp 21) rfl w3.heap.size old .nil rfl rfl hn3 ?_))
  intro w4 hI4 ho4
  have hB4 : Blk w4 w.heap.size 23 256 z := (hB3.alloc _).only ho4 (by omega)
  have hX4 : InoAt w4 (w.heap.size + 1) 27 x := (hX3.alloc _).only ho4 (by omega)
  have hC4 : Blk w4 w1.heap.size 23 256 z := (hC3.alloc _).only ho4 (by omega)
  have hL4 : Below w.heap.size w w4 := (hL3.alloc hL3.size _).trans (ho4.below hL3.size)
  have hlI := hI4.lt
  clear hB3 hX3 hC3 hL3 hn3 ho4 hal'
  have qz : ∀ W, (binOp .neq 23 (bval z) (bval z)).run Try.prog W = .ok (.bool false) W := fun W => by rw [run_neq_block, eqB_refl]; rfl
  by_cases hE : E = 0
  · obtain ⟨o1, o2, o3⟩ := HO.out hE
    subst hE
    have hn4 := Blk.new w4 23 256 (fun _ => 0)
    have O1 := Lib.hid o1
    have O3 := Lib.hid o3
    have O2 : Hid (decide old.May = true) := decide_eq_true o2
    clear o1 o2 o3 HO
    go_wp2_with (first | (refine wp_loadBlk rfl (.tmp 3) rfl w.heap.size z rfl hB4 ?_) | (refine wp_storeBlk rfl (.tmp 10) (.tmp 25) rfl w4.heap.size z _ rfl rfl hn4 ?_))
    intro w5 hD5 ho5
    have hB5 : Blk w5 w.heap.size 23 256 z := (hB4.alloc _).only ho5 (by omega)
    have hX5 : InoAt w5 (w.heap.size + 1) 27 x := (hX4.alloc _).only ho5 (by omega)
    have hC5 : Blk w5 w1.heap.size 23 256 z := (hC4.alloc _).only ho5 (by omega)
    have hI5 : InoAt w5 w3.heap.size 27 old := (hI4.alloc _).only ho5 (by omega)
    have hL5 : Below w.heap.size w w5 := (hL4.alloc hL4.size _).trans (ho5.below hL4.size)
    clear hB4 hX4 hC4 hI4 hL4 hn4 ho5 hal
    go_wp2_with (first | (refine wp_loadIno rfl (.tmp 8) rfl w3.heap.size old rfl hI5 ?_))
    refine (inoPut_any w4.heap.size 23 z hz a old hio _ hD5 ha0 ha1).mono ?_
    rintro e w6 ⟨rfl, hD6, hg6⟩
    have hD7 := hD6.congr fun i _ => O3.out i
    rw [O1.out]
    have hB6 : Blk w6 w.heap.size 23 256 z := (hg6.block _ hB5.lt (by simp; omega)).trans hB5
    have hX6 : InoAt w6 (w.heap.size + 1) 27 x := (hg6.block _ hX5.lt (by simp; omega)).trans hX5
    have hC6 : Blk w6 w1.heap.size 23 256 z := (hg6.block _ hC5.lt (by simp; omega)).trans hC5
    have hI6 : InoAt w6 w3.heap.size 27 old := (hg6.block _ hI5.lt (by simp; omega)).trans hI5
    have hL6 : Below w.heap.size w w6 := hL5.grown hg6 hL5.size (fun j e => by cases e; omega)
    clear hB5 hX5 hC5 hI5 hL5 hD5 hD6 hg6 O1 O3
    go_wp2_with (first | (refine wp_loadBlkG rfl (.tmp 10) rfl w4.heap.size z rfl hD7 ?_) | (refine wp_loadBlkG rfl (.tmp 3) rfl w.heap.size z rfl hB6 ?_) | (refine wp_loadInoG rfl (.tmp 8) rfl w3.heap.size old rfl hI6 ?_))
    refine (may_any old hio _).mono ?_
    rintro e w9 ⟨rfl, hb9⟩
    rw [O2.out]
    have hB9 := hB6.below hb9 hB6.lt
    have hX9 := hX6.below hb9 hX6.lt
    have hC9 := hC6.below hb9 hC6.lt
    have hL9 : Below w.heap.size w w9 := hL6.trans (hb9.mono hL6.size)
    clear hB6 hX6 hC6 hI6 hL6 hD7 hb9 O2
    go_wp2_with (first | (refine wp_loadIno rfl (.tmp 5) rfl (w.heap.size + 1) x rfl hX9 ?_))
    refine (inoPut_any w1.heap.size 23 z hz a x hx _ hC9 ha0 ha1).mono ?_
    rintro e w10 ⟨rfl, hC10, hg10⟩
    have hB10 : Blk w10 w.heap.size 23 256 z := (hg10.block _ hB9.lt (by simp; omega)).trans hB9
    have hX10 : InoAt w10 (w.heap.size + 1) 27 x := (hg10.block _ hX9.lt (by simp; omega)).trans hX9
    have hL10 : Below w.heap.size w w10 := hL9.grown hg10 hL9.size (fun j e => by cases e; omega)
    clear hB9 hX9 hC9 hL9 hg10
    by_cases hP : putErr a x = 0
    rotate_left
    · rw [putZ_no hP] at hC10
      have e2 : (putErr a x != 0) = true := by simpa using hP
      have eq : ∀ W, (binOp .eql 23 (bval z) (bval z)).run Try.prog W = .ok (.bool true) W := fun W => by rw [run_eql_block, eqB_refl]
      clear hP qz
      generalize putErr a x = P at e2 ⊢
      go_wp2_with (first | (refine wp_loadBlk rfl (.tmp 7) rfl w1.heap.size z rfl hC10 ?_) | (refine wp_loadBlk rfl (.tmp 3) rfl w.heap.size z rfl hB10 ?_))
      go_ret
      exact ⟨rfl, hL10⟩
    have hok := putErr_0.1 hP
    have hpl : a = 0 ∨ a = 64 ∨ a = 128 ∨ a = 192 := by unfold putOk at hok; rw [Bool.and_eq_true] at hok; exact (placeB_iff a).1 hok.1
    have hgot := got_last (z := z) hx hok
    have hzC := byt_putZ hz a hx
    have hout : ∀ i : Nat, ((i : Int) < a ∨ a + 64 ≤ (i : Int)) → putZ z a x i = z i := fun i hi => by
      unfold putZ
      rw [hok, if_pos rfl, over_out _ _ _ _ _ (by omega)]
    rw [hP]
    clear hP hok qz
    generalize putZ z a x = C at hC10 hgot hzC hout
    have HOUT := Lib.hid hout
    have HGOT := Lib.hid hgot
    have a0 : 0 ≤ a := by omega
    have a1 : a ≤ 192 := by omega
    clear hout hgot hpl
    have hlC10 := hC10.lt
    go_wp2_with (first | (refine wp_loadBlk rfl (.tmp 7) rfl w1.heap.size C rfl hC10 ?_))
    refine (inoGet_any C hzC a _ ha0 ha1).mono ?_
    rintro e w11 ⟨rfl, hb11⟩
    rw [val_congr HGOT.out.2, HGOT.out.1]
    have hB11 := hB10.below hb11 hB10.lt
    have hX11 := hX10.below hb11 hX10.lt
    have hC11 := hC10.below hb11 hlC10
    have hL11 : Below w.heap.size w w11 := hL10.trans (hb11.mono hL10.size)
    have hs11 := hb11.size
    clear hB10 hX10 hC10 hL10 hb11 HGOT
    have hal := zero_ino
    have hn11 := InoAt.new w11 .nil
    go_wp2_with (first | (refine wp_storeIno rfl (.tmp 11) (.tmp 51) rfl w11.heap.size x .nil rfl rfl hn11 ?_))
    intro w12 hY12 ho12
    have hB12 : Blk w12 w.heap.size 23 256 z := (hB11.alloc _).only ho12 (by omega)
    have hX12 : InoAt w12 (w.heap.size + 1) 27 x := (hX11.alloc _).only ho12 (by omega)
    have hC12 : Blk w12 w1.heap.size 23 256 C := (hC11.alloc _).only ho12 (by omega)
    have hL12 : Below w.heap.size w w12 := (hL11.alloc hL11.size _).trans (ho12.below hL11.size)
    clear hB11 hX11 hC11 hL11 hn11 ho12 hal
    have nx : ∀ W, (binOp .neq 27 x.val x.val).run Try.prog W = .ok (.bool false) W := fun W => by rw [run_neq_ino, inoEq_refl']; rfl
    go_wp2_with (first | (refine wp_loadInoG rfl (.tmp 11) rfl w11.heap.size x rfl hY12 ?_) | (refine wp_loadInoG rfl (.tmp 5) rfl (w.heap.size + 1) x rfl hX12 ?_))
    clear hY12 hX12 nx
    go_loopw [13] (fun u wr => ∃ k : Nat, k ≤ 256 ∧ u = .int .i64 (k : Int) ∧ Blk wr w1.heap.size 23 256 C ∧ Blk wr w.heap.size 23 256 z ∧ Below w.heap.size w wr) (fun u _ => 256 - (intOf u).toNat)
    case atStart => exact ⟨0, by omega, rfl, hC12, hB12, hL12⟩
    case round =>
      clear hC12 hB12 hL12
      obtain ⟨k, hk, rfl, hC, hB, hL⟩ := hrel
      by_cases hlt : k < 256
      · have l0 : (0 : Int) ≤ (k : Int) := by omega
        have l1 : (k : Int) < 256 := by omega
        have c2 : wr.cell? ⟨w.heap.size, k, none⟩ = some (.int .u8 (z k)) := by have := hB.seg k hlt; rwa [Nat.zero_add] at this
        have qk : (z k != z k) = false := by simp
        have ea : IntKind.i64.wrap (a + 64) = a + 64 := IntWalk.i64_in _ (by omega)
        by_cases h1 : (k : Int) < a
        · have c1 : wr.cell? ⟨w1.heap.size, k, none⟩ = some (.int .u8 (z k)) := by have := hC.seg k hlt; rwa [Nat.zero_add, HOUT.out k (.inl h1)] at this
          have d1 : decide ((k : Int) < a) = true := by simpa using h1
          go_wp2_with fail
          go_quiet (fail)
          go_wp2_with fail
          go_roundw
          case rel => exact ⟨k + 1, by omega, by go_num, hC, hB, bel_drewN hL _⟩
          case measure => simp [intOf]; omega
        have d1 : decide ((k : Int) < a) = false := by simpa using h1
        by_cases h2 : a + 64 ≤ (k : Int)
        · have c1 : wr.cell? ⟨w1.heap.size, k, none⟩ = some (.int .u8 (z k)) := by have := hC.seg k hlt; rwa [Nat.zero_add, HOUT.out k (.inr h2)] at this
          have d2 : decide (a + 64 ≤ (k : Int)) = true := by simpa using h2
          go_wp2_with fail
          go_quiet (fail)
          go_wp2_with fail
          go_roundw
          case rel => exact ⟨k + 1, by omega, by go_num, hC, hB, bel_drewN hL _⟩
          case measure => simp [intOf]; omega
        · have d2 : decide (a + 64 ≤ (k : Int)) = false := by simpa using h2
          go_wp2_with fail
          go_quiet (fail)
          go_wp2_with fail
          go_roundw
          case rel => exact ⟨k + 1, by omega, by go_num, hC, hB, bel_drewN hL _⟩
          case measure => simp [intOf]; omega
      · obtain rfl : k = 256 := by omega
        go_wp2_with fail
        go_ret
        exact ⟨rfl, hL⟩
  · have e1 : (E == 0) = false := by simpa using hE
    clear hE HO hal hI4
    have hB9 := hB4
    have hX9 := hX4
    have hC9 := hC4
    have hL9 := hL4
    clear hB4 hX4 hC4 hL4
    go_wp2_with (first | (refine wp_loadIno rfl (.tmp 5) rfl (w.heap.size + 1) x rfl hX9 ?_))
    refine (inoPut_any w1.heap.size 23 z hz a x hx _ hC9 ha0 ha1).mono ?_
    rintro e w10 ⟨rfl, hC10, hg10⟩
    have hB10 : Blk w10 w.heap.size 23 256 z := (hg10.block _ hB9.lt (by simp; omega)).trans hB9
    have hX10 : InoAt w10 (w.heap.size + 1) 27 x := (hg10.block _ hX9.lt (by simp; omega)).trans hX9
    have hL10 : Below w.heap.size w w10 := hL9.grown hg10 hL9.size (fun j e => by cases e; omega)
    clear hB9 hX9 hC9 hL9 hg10
    by_cases hP : putErr a x = 0
    rotate_left
    · rw [putZ_no hP] at hC10
      have e2 : (putErr a x != 0) = true := by simpa using hP
      have eq : ∀ W, (binOp .eql 23 (bval z) (bval z)).run Try.prog W = .ok (.bool true) W := fun W => by rw [run_eql_block, eqB_refl]
      clear hP qz
      generalize putErr a x = P at e2 ⊢
      go_wp2_with (first | (refine wp_loadBlk rfl (.tmp 7) rfl w1.heap.size z rfl hC10 ?_) | (refine wp_loadBlk rfl (.tmp 3) rfl w.heap.size z rfl hB10 ?_))
      go_ret
      exact ⟨rfl, hL10⟩
    have hok := putErr_0.1 hP
    have hpl : a = 0 ∨ a = 64 ∨ a = 128 ∨ a = 192 := by unfold putOk at hok; rw [Bool.and_eq_true] at hok; exact (placeB_iff a).1 hok.1
    have hgot := got_last (z := z) hx hok
    have hzC := byt_putZ hz a hx
    have hout : ∀ i : Nat, ((i : Int) < a ∨ a + 64 ≤ (i : Int)) → putZ z a x i = z i := fun i hi => by
      unfold putZ
      rw [hok, if_pos rfl, over_out _ _ _ _ _ (by omega)]
    rw [hP]
    clear hP hok qz
    generalize putZ z a x = C at hC10 hgot hzC hout
    have HOUT := Lib.hid hout
    have HGOT := Lib.hid hgot
    have a0 : 0 ≤ a := by omega
    have a1 : a ≤ 192 := by omega
    clear hout hgot hpl
    have hlC10 := hC10.lt
    go_wp2_with (first | (refine wp_loadBlk rfl (.tmp 7) rfl w1.heap.size C rfl hC10 ?_))
    refine (inoGet_any C hzC a _ ha0 ha1).mono ?_
    rintro e w11 ⟨rfl, hb11⟩
    rw [val_congr HGOT.out.2, HGOT.out.1]
    have hB11 := hB10.below hb11 hB10.lt
    have hX11 := hX10.below hb11 hX10.lt
    have hC11 := hC10.below hb11 hlC10
    have hL11 : Below w.heap.size w w11 := hL10.trans (hb11.mono hL10.size)
    have hs11 := hb11.size
    clear hB10 hX10 hC10 hL10 hb11 HGOT
    have hal := zero_ino
    have hn11 := InoAt.new w11 .nil
    go_wp2_with (first | (refine wp_storeIno rfl (.tmp 11) (.tmp 51) rfl w11.heap.size x .nil rfl rfl hn11 ?_))
    intro w12 hY12 ho12
    have hB12 : Blk w12 w.heap.size 23 256 z := (hB11.alloc _).only ho12 (by omega)
    have hX12 : InoAt w12 (w.heap.size + 1) 27 x := (hX11.alloc _).only ho12 (by omega)
    have hC12 : Blk w12 w1.heap.size 23 256 C := (hC11.alloc _).only ho12 (by omega)
    have hL12 : Below w.heap.size w w12 := (hL11.alloc hL11.size _).trans (ho12.below hL11.size)
    clear hB11 hX11 hC11 hL11 hn11 ho12 hal
    have nx : ∀ W, (binOp .neq 27 x.val x.val).run Try.prog W = .ok (.bool false) W := fun W => by rw [run_neq_ino, inoEq_refl']; rfl
    go_wp2_with (first | (refine wp_loadInoG rfl (.tmp 11) rfl w11.heap.size x rfl hY12 ?_) | (refine wp_loadInoG rfl (.tmp 5) rfl (w.heap.size + 1) x rfl hX12 ?_))
    clear hY12 hX12 nx
    go_loopw [13] (fun u wr => ∃ k : Nat, k ≤ 256 ∧ u = .int .i64 (k : Int) ∧ Blk wr w1.heap.size 23 256 C ∧ Blk wr w.heap.size 23 256 z ∧ Below w.heap.size w wr) (fun u _ => 256 - (intOf u).toNat)
    case atStart => exact ⟨0, by omega, rfl, hC12, hB12, hL12⟩
    case round =>
      clear hC12 hB12 hL12
      obtain ⟨k, hk, rfl, hC, hB, hL⟩ := hrel
      by_cases hlt : k < 256
      · have l0 : (0 : Int) ≤ (k : Int) := by omega
        have l1 : (k : Int) < 256 := by omega
        have c2 : wr.cell? ⟨w.heap.size, k, none⟩ = some (.int .u8 (z k)) := by have := hB.seg k hlt; rwa [Nat.zero_add] at this
        have qk : (z k != z k) = false := by simp
        have ea : IntKind.i64.wrap (a + 64) = a + 64 := IntWalk.i64_in _ (by omega)
        by_cases h1 : (k : Int) < a
        · have c1 : wr.cell? ⟨w1.heap.size, k, none⟩ = some (.int .u8 (z k)) := by have := hC.seg k hlt; rwa [Nat.zero_add, HOUT.out k (.inl h1)] at this
          have d1 : decide ((k : Int) < a) = true := by simpa using h1
          go_wp2_with fail
          go_quiet (fail)
          go_wp2_with fail
          go_roundw
          case rel => exact ⟨k + 1, by omega, by go_num, hC, hB, bel_drewN hL _⟩
          case measure => simp [intOf]; omega
        have d1 : decide ((k : Int) < a) = false := by simpa using h1
        by_cases h2 : a + 64 ≤ (k : Int)
        · have c1 : wr.cell? ⟨w1.heap.size, k, none⟩ = some (.int .u8 (z k)) := by have := hC.seg k hlt; rwa [Nat.zero_add, HOUT.out k (.inr h2)] at this
          have d2 : decide (a + 64 ≤ (k : Int)) = true := by simpa using h2
          go_wp2_with fail
          go_quiet (fail)
          go_wp2_with fail
          go_roundw
          case rel => exact ⟨k + 1, by omega, by go_num, hC, hB, bel_drewN hL _⟩
          case measure => simp [intOf]; omega
        · have d2 : decide (a + 64 ≤ (k : Int)) = false := by simpa using h2
          go_wp2_with fail
          go_quiet (fail)
          go_wp2_with fail
          go_roundw
          case rel => exact ⟨k + 1, by omega, by go_num, hC, hB, bel_drewN hL _⟩
          case measure => simp [intOf]; omega
      · obtain rfl : k = 256 := by omega
        go_wp2_with fail
        go_ret
        exact ⟨rfl, hL⟩
end Go.Proofs.Ytlgjpjccjklnnaa
