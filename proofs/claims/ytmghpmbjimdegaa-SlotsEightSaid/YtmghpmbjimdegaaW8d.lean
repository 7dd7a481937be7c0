/- The walk of the law SlotsEight. -/
import Derived.Test.YtmghpmbjimdegaaS8j
import Derived.SliceStrings
import Derived.Deep.Strs
namespace Go.Proofs.Ytmghpmbjimdegaa
open Go.RowKit Go.ChangeShapes Go.WideShapes Go.ChangeAt Go.Deep
set_option linter.unusedVariables false

/-- n strings stand at a place -/
def StrSeg (w : World) (b off n : Nat) (L : Nat → ByteArray) : Prop := ∀ i, i < n → w.cell? ⟨b, off + i, none⟩ = some (.string (L i))
def StrRow (w : World) (a : Option Addr) (n : Nat) (L : Nat → ByteArray) : Prop := n = 0 ∨ ∃ b off, a = some ⟨b, off, none⟩ ∧ StrSeg w b off n L
theorem StrSeg.lt {w : World} {b off n : Nat} {L : Nat → ByteArray} (h : StrSeg w b off n L) (hn : 0 < n) : b < w.heap.size := World.block_lt_of_cell? w _ (h 0 hn)
theorem StrSeg.below {w w' : World} {b off n : Nat} {L : Nat → ByteArray} (h : StrSeg w b off n L) (hb : Below w.heap.size w w') : StrSeg w' b off n L :=
  fun i hi => (hb.cell (p := ⟨b, off + i, none⟩) (h.lt (by omega))).trans (h i hi)
theorem strs_in {H : Type} {enc : TypeId × Value → H} {W : World} {a : Option Addr} {len cap : Nat} {d : DataW H} {p : List MemPlace} (h : DataW.Trod enc Try.prog W 0 (fun _ => true) true 55 (.slice a len cap) d p) :
    ∃ L, StrRow W a len L ∧ (∀ i, (L i).size ≤ 9223372036854775807) ∧ (len : Int) ≤ 9223372036854775807 := by
  obtain ⟨fuel, hf⟩ := h
  rcases open_strs Try.underlying55 Try.underlying9 (by kernel_rfl) hf with ⟨hcs, _⟩ | ⟨x, l, c, m, Sx, hcs, _, hl, hm, hmm, _, hcell⟩
  · simp [Value.cells] at hcs
    obtain ⟨rfl, rfl, rfl⟩ := hcs
    exact ⟨fun _ => ByteArray.empty, .inl rfl, fun _ => (by decide : ByteArray.empty.size ≤ 9223372036854775807), by omega⟩
  · simp [Value.cells] at hcs
    obtain ⟨rfl, rfl, rfl⟩ := hcs
    simp only [if_true] at hmm
    subst hmm
    have hmax : maxLen = 9223372036854775807 := rfl
    refine ⟨fun i => if i < m then Sx i else ByteArray.empty, ?_, fun i => ?_, by omega⟩
    · by_cases h0 : len = 0
      · exact .inl h0
      · obtain ⟨b, off, spot⟩ := x
        have hspot : spot = none := by simpa [Addr.add] using World.cell?_spot (hcell 0 (by omega)).1
        subst hspot
        refine .inr ⟨b, off, rfl, fun i hi => ?_⟩
        have := (hcell i (by omega)).1
        rw [addr_add] at this
        rw [this]; show _ = some (Value.string (if i < m then Sx i else ByteArray.empty)); rw [if_pos (by omega)]
    · show (if i < m then Sx i else ByteArray.empty).size ≤ _
      split
      · exact (hcell i (by omega)).2
      · decide

set_option maxRecDepth 100000 in
set_option maxHeartbeats 4000000 in
theorem eight_walk (a : Option Addr) (N cap : Nat) (L : Nat → ByteArray) (hL : ∀ i, (L i).size ≤ 9223372036854775807) (hN : (N : Int) ≤ 9223372036854775807) (w : World) (hrow : StrRow w a N L) :
    Calls Try.prog 8 #[.slice a N cap] w fun e w' => e = .returned (.bool true) ∧ Below w.heap.size w w' := by
  have hal := zero_block
  have HR := Lib.hid hrow
  have HLL := Lib.hid hL
  clear hrow hL
  go_enter Try.func8, Try.ntmps8
  go_wp2_with fail
  refine (awake8 _).mono ?_
  rintro e w1 ⟨rfl, hL1⟩
  by_cases h20 : 20 < N
  · have d : (20 : Int) < N := by omega
    go_wp2_with fail
    go_ret
    exact ⟨rfl, hL1⟩
  have d : ¬ (20 : Int) < N := by omega
  have st0 := E8.new hL1
  have HS : Hid (E8 w w1.heap.size z0 (w1.alloc (.cells (Ks .u8 256 (fun _ => 0)).toArray 23))) := st0
  clear st0 hL1
  go_wp2_with fail
  generalize w1.heap.size = G at *
  have HZ : Hid (∃ z, Eight L 0 0 z ∧ E8 w G z (w1.alloc (.cells (Ks .u8 256 (fun _ => 0)).toArray 23))) := ⟨z0, Eight.start L, HS.out⟩
  clear HS
  go_loopw [4, 5] (fun u v wr => ∃ (n i : Nat), i ≤ N ∧ u = .int .i64 (n : Int) ∧ v = .int .i64 (i : Int) ∧ Hid (∃ z, Eight L i n z ∧ E8 w G z wr)) (fun _ v _ => N - (intOf v).toNat)
  case atStart => exact ⟨0, 0, by omega, rfl, rfl, HZ⟩
  case round =>
    clear HZ
    obtain ⟨n, i, hiN, rfl, rfl, HI⟩ := hrel
    obtain ⟨z, hE, st⟩ := HI.out
    have HE := Lib.hid hE
    have hz := hE.byt
    have hn8 := hE.le
    clear hE HI
    by_cases hlt : i < N
    · obtain ⟨b, off, rfl, hseg⟩ : ∃ b off, a = some ⟨b, off, none⟩ ∧ StrSeg w b off N L := by
        rcases HR.out with h | h
        · omega
        · exact h
      have HSG := Lib.hid hseg
      clear hseg
      have l0 : (0 : Int) ≤ (i : Int) := by omega
      have l1 : (i : Int) < (N : Int) := by omega
      go_wp2_with fail
      go_loopw [6, 7] (fun u v wr => ∃ k : Nat, k ≤ i ∧ u = .bool (thB L i k) ∧ v = .int .i64 (k : Int) ∧ E8 w G z wr) (fun _ v _ => i - (intOf v).toNat)
      case atStart => exact ⟨0, by omega, rfl, rfl, st⟩
      case round =>
        clear st
        obtain ⟨k, hki, rfl, rfl, st⟩ := hrel
        by_cases hk : k < i
        · have m0 : (0 : Int) ≤ (k : Int) := by omega
          have m1 : (k : Int) < (i : Int) := by omega
          have m2 : (k : Int) < (N : Int) := by omega
          have HT : Hid (thB L i (k + 1) = (thB L i k || (L k).toList == (L i).toList)) := rfl
          have hck : ∀ x : InW (E8 w G z), x.W.cell? ⟨b, off + k, none⟩ = some (.string (L k)) := fun x => HSG.out.below x.h.bel k (by omega)
          have hci : ∀ x : InW (E8 w G z), x.W.cell? ⟨b, off + i, none⟩ = some (.string (L i)) := fun x => HSG.out.below x.h.bel i hlt
          cases hth : thB L i k with
          | true =>
            rw [hth] at HT
            go_wp2_with fail
            first
            | (go_roundw
               case rel => first | exact ⟨k + 1, by omega, by rw [HT.out]; rfl, by go_num, st⟩ | ((repeat apply Exists.intro); exact ⟨⟨k + 1, by omega, by rw [HT.out]; rfl, by go_num, st⟩, rfl⟩)
               case measure => simp [intOf]; omega)
            | (refine wp_region_S (E8 w G z) (by kernel_rfl) (by kernel_rfl) st.drew ?_
               clear st
               intro hne
               repeat (first | go_big_quiet_skip | (go_big_quiet_want; go_big_quiet_op; go_big_quiet_on))
               refine wpQuiet_nil ?_
               intro w7 h7
               have st7 := h7.out
               clear h7 hne hck hci
               go_wp2_with fail
               go_roundw
               case rel => first | exact ⟨k + 1, by omega, by rw [HT.out]; rfl, by go_num, st7⟩ | ((repeat apply Exists.intro); exact ⟨⟨k + 1, by omega, by rw [HT.out]; rfl, by go_num, st7⟩, rfl⟩)
               case measure => simp [intOf]; omega)
          | false =>
            rw [hth] at HT
            generalize hq : ((L k).toList == (L i).toList) = q at *
            go_wp2_with fail
            refine wp_region_S (E8 w G z) (by kernel_rfl) (by kernel_rfl) st.drew ?_
            clear st
            intro hne
            repeat (first | go_big_quiet_skip | (go_big_quiet_want; go_big_quiet_op; go_big_quiet_on))
            refine wpQuiet_nil ?_
            intro w7 h7
            have st7 := h7.out
            clear h7 hne hck hci
            go_wp2_with fail
            go_roundw
            case rel => first | exact ⟨k + 1, by omega, by rw [HT.out]; rfl, by go_num, st7⟩ | ((repeat apply Exists.intro); exact ⟨⟨k + 1, by omega, by rw [HT.out]; rfl, by go_num, st7⟩, rfl⟩)
            case measure => simp [intOf]; omega
        · obtain rfl : k = i := by omega
          have ck : wr.cell? ⟨b, off + k, none⟩ = some (.string (L k)) := HSG.out.below st.bel k hlt
          go_wp2_with fail
          have hLk := HLL.out k
          have hv : Hid ((k : Int) + 1 ≠ 0) := by show _ ≠ _; omega
          have hvi : Hid (0 ≤ (k : Int) + 1 ∧ (k : Int) + 1 < 4294967296) := by show _ ∧ _; omega
          refine (add_any G z hz (L k) hLk ((k : Int) + 1) hvi.out _ st.b).mono ?_
          rintro e w2 ⟨rfl, hB2, hg2⟩
          have st2 := st.put hB2 hg2
          have ck2 : w2.cell? ⟨b, off + k, none⟩ = some (.string (L k)) := HSG.out.below st2.bel k hlt
          clear st hB2 hg2 ck
          cases hm : mayB (L k) with
          | false =>
            obtain ⟨h1, h2⟩ := HE.out.may ((k : Int) + 1) hm
            have HE2 := Lib.hid h2
            rw [addZ_no (by rw [h1]; decide)] at st2
            rw [h1]
            have HM := Lib.hid hm
            clear h1 h2 hm
            go_wp2_with fail
            have HMC : Hid (∀ W, E8 w G z W → Calls Try.prog 15 #[.string (L k)] W fun e w' => e = .returned (.bool false) ∧ E8 w G z w') := fun W hW => (mayName_any (L k) hLk W).mono fun e w' h => ⟨by rw [h.1, HM.out], h.2 ▸ hW⟩
            refine wp_region_S (E8 w G z) (by kernel_rfl) (by kernel_rfl) st2.drew ?_
            have hB : Hid (∀ W, E8 w G z W → W.rangeAt G 0 (Ks .u8 256 z)) := fun W h => h.b.range
            have hci : ∀ x : InW (E8 w G z), x.W.cell? ⟨b, off + k, none⟩ = some (.string (L k)) := fun x => HSG.out.below x.h.bel k hlt
            clear st2 ck2
            intro hne
            repeat (first | go_big_quiet_skip | (go_big_quiet_want; go_big_quiet_op; go_big_quiet_on))
            go_big_quiet_want
            go_big_quiet_op
            refine ⟨_, fun s => q_call s HMC.out, ?_⟩
            go_big_quiet_on
            repeat (first | (first | go_big_quiet_skip | (go_big_quiet_want; go_big_quiet_op; go_big_quiet_on)) | (refine q_load rfl 23 _ rfl _ _ rfl _ _ hB.out Try.underlying23 rfl (by rw [Ks_length]; exact info_block) ?_; refine wpQuiet_frame (by simp only [Act.put, List.setIfInBounds_toArray, List.set_cons_succ, List.set_cons_zero]; exact rfl) ?_))
            refine wpQuiet_nil ?_
            intro st3w h7
            have st3 := h7.out
            clear h7 hne hci hB
            go_wp2_with fail
            go_roundw
            case rel => first | exact ⟨n, k + 1, by omega, rfl, by go_num, ⟨z, HE2.out, st3⟩⟩ | exact ⟨n, k + 1, by omega, by go_num, by go_num, ⟨z, HE2.out, st3⟩⟩ | ((repeat apply Exists.intro); exact ⟨⟨n, k + 1, by omega, rfl, by go_num, ⟨z, HE2.out, st3⟩⟩, rfl⟩) | ((repeat apply Exists.intro); exact ⟨⟨n, k + 1, by omega, by go_num, by go_num, ⟨z, HE2.out, st3⟩⟩, rfl⟩)
            case measure => simp [intOf]; omega
          | true =>
          have HM := Lib.hid hm
          cases hr : remB z (L k) with
          | true =>
            obtain ⟨h1, hth, h2⟩ := HE.out.hit ((k : Int) + 1) hr
            have HE2 := Lib.hid h2
            have HRB := Lib.hid hr
            rw [addZ_no (by rw [h1]; decide)] at st2
            rw [h1, hth]
            clear h1 h2 hm hr hth
            go_wp2_with fail
            have HMC : Hid (∀ W, E8 w G z W → Calls Try.prog 15 #[.string (L k)] W fun e w' => e = .returned (.bool true) ∧ E8 w G z w') := fun W hW => (mayName_any (L k) hLk W).mono fun e w' h => ⟨by rw [h.1, HM.out], h.2 ▸ hW⟩
            have HFC : Hid (∀ W, E8 w G z W → Calls Try.prog 23 #[bval z, .string (L k)] W fun e w' => e = .returned (.bool true) ∧ E8 w G z w') := fun W hW => (find8_any z hz (L k) W).mono fun e w' h => ⟨by rw [h.1, HRB.out], hW.below h.2⟩
            refine wp_region_S (E8 w G z) (by kernel_rfl) (by kernel_rfl) st2.drew ?_
            have hB : Hid (∀ W, E8 w G z W → W.rangeAt G 0 (Ks .u8 256 z)) := fun W h => h.b.range
            have hci : ∀ x : InW (E8 w G z), x.W.cell? ⟨b, off + k, none⟩ = some (.string (L k)) := fun x => HSG.out.below x.h.bel k hlt
            clear st2 ck2
            intro hne
            repeat (first | go_big_quiet_skip | (go_big_quiet_want; go_big_quiet_op; go_big_quiet_on))
            go_big_quiet_want
            go_big_quiet_op
            refine ⟨_, fun s => q_call s HMC.out, ?_⟩
            go_big_quiet_on
            repeat (first | (first | go_big_quiet_skip | (go_big_quiet_want; go_big_quiet_op; go_big_quiet_on)) | (refine q_load rfl 23 _ rfl _ _ rfl _ _ hB.out Try.underlying23 rfl (by rw [Ks_length]; exact info_block) ?_; refine wpQuiet_frame (by simp only [Act.put, List.setIfInBounds_toArray, List.set_cons_succ, List.set_cons_zero]; exact rfl) ?_))
            go_big_quiet_want
            go_big_quiet_op
            refine ⟨_, fun s => q_call s HFC.out, ?_⟩
            go_big_quiet_on
            repeat (first | (first | go_big_quiet_skip | (go_big_quiet_want; go_big_quiet_op; go_big_quiet_on)) | (refine q_load rfl 23 _ rfl _ _ rfl _ _ hB.out Try.underlying23 rfl (by rw [Ks_length]; exact info_block) ?_; refine wpQuiet_frame (by simp only [Act.put, List.setIfInBounds_toArray, List.set_cons_succ, List.set_cons_zero]; exact rfl) ?_))
            refine wpQuiet_nil ?_
            intro st3w h7
            have st3 := h7.out
            clear h7 hne hci hB
            go_wp2_with fail
            go_roundw
            case rel => first | exact ⟨n, k + 1, by omega, rfl, by go_num, ⟨z, HE2.out, st3⟩⟩ | exact ⟨n, k + 1, by omega, by go_num, by go_num, ⟨z, HE2.out, st3⟩⟩ | ((repeat apply Exists.intro); exact ⟨⟨n, k + 1, by omega, rfl, by go_num, ⟨z, HE2.out, st3⟩⟩, rfl⟩) | ((repeat apply Exists.intro); exact ⟨⟨n, k + 1, by omega, by go_num, by go_num, ⟨z, HE2.out, st3⟩⟩, rfl⟩)
            case measure => simp [intOf]; omega
          | false =>
          by_cases h8 : n = 8
          · subst h8
            obtain ⟨h1, h2⟩ := HE.out.full hv.out hm hr
            have HE2 := Lib.hid h2
            have HRB := Lib.hid hr
            rw [addZ_no (by rw [h1]; decide)] at st2
            rw [h1]
            clear h1 h2 hm hr
            go_wp2_with fail
            have HMC : Hid (∀ W, E8 w G z W → Calls Try.prog 15 #[.string (L k)] W fun e w' => e = .returned (.bool true) ∧ E8 w G z w') := fun W hW => (mayName_any (L k) hLk W).mono fun e w' h => ⟨by rw [h.1, HM.out], h.2 ▸ hW⟩
            have HFC : Hid (∀ W, E8 w G z W → Calls Try.prog 23 #[bval z, .string (L k)] W fun e w' => e = .returned (.bool false) ∧ E8 w G z w') := fun W hW => (find8_any z hz (L k) W).mono fun e w' h => ⟨by rw [h.1, HRB.out], hW.below h.2⟩
            cases hth : thB L k k with
            | false =>
              clear hth
              refine wp_region_S (E8 w G z) (by kernel_rfl) (by kernel_rfl) st2.drew ?_
              have hB : Hid (∀ W, E8 w G z W → W.rangeAt G 0 (Ks .u8 256 z)) := fun W h => h.b.range
              have hci : ∀ x : InW (E8 w G z), x.W.cell? ⟨b, off + k, none⟩ = some (.string (L k)) := fun x => HSG.out.below x.h.bel k hlt
              clear st2 ck2
              intro hne
              repeat (first | go_big_quiet_skip | (go_big_quiet_want; go_big_quiet_op; go_big_quiet_on))
              go_big_quiet_want
              go_big_quiet_op
              refine ⟨_, fun s => q_call s HMC.out, ?_⟩
              go_big_quiet_on
              repeat (first | (first | go_big_quiet_skip | (go_big_quiet_want; go_big_quiet_op; go_big_quiet_on)) | (refine q_load rfl 23 _ rfl _ _ rfl _ _ hB.out Try.underlying23 rfl (by rw [Ks_length]; exact info_block) ?_; refine wpQuiet_frame (by simp only [Act.put, List.setIfInBounds_toArray, List.set_cons_succ, List.set_cons_zero]; exact rfl) ?_))
              refine wpQuiet_nil ?_
              intro st3w h7
              have st3 := h7.out
              clear h7 hne hci hB
              go_wp2_with fail
              go_roundw
              case rel => first | exact ⟨8, k + 1, by omega, rfl, by go_num, ⟨z, HE2.out, st3⟩⟩ | exact ⟨8, k + 1, by omega, by go_num, by go_num, ⟨z, HE2.out, st3⟩⟩ | ((repeat apply Exists.intro); exact ⟨⟨8, k + 1, by omega, rfl, by go_num, ⟨z, HE2.out, st3⟩⟩, rfl⟩) | ((repeat apply Exists.intro); exact ⟨⟨8, k + 1, by omega, by go_num, by go_num, ⟨z, HE2.out, st3⟩⟩, rfl⟩)
              case measure => simp [intOf]; omega
            | true =>
              clear hth
              refine wp_region_S (E8 w G z) (by kernel_rfl) (by kernel_rfl) st2.drew ?_
              have hB : Hid (∀ W, E8 w G z W → W.rangeAt G 0 (Ks .u8 256 z)) := fun W h => h.b.range
              have hci : ∀ x : InW (E8 w G z), x.W.cell? ⟨b, off + k, none⟩ = some (.string (L k)) := fun x => HSG.out.below x.h.bel k hlt
              clear st2 ck2
              intro hne
              repeat (first | go_big_quiet_skip | (go_big_quiet_want; go_big_quiet_op; go_big_quiet_on))
              go_big_quiet_want
              go_big_quiet_op
              refine ⟨_, fun s => q_call s HMC.out, ?_⟩
              go_big_quiet_on
              repeat (first | (first | go_big_quiet_skip | (go_big_quiet_want; go_big_quiet_op; go_big_quiet_on)) | (refine q_load rfl 23 _ rfl _ _ rfl _ _ hB.out Try.underlying23 rfl (by rw [Ks_length]; exact info_block) ?_; refine wpQuiet_frame (by simp only [Act.put, List.setIfInBounds_toArray, List.set_cons_succ, List.set_cons_zero]; exact rfl) ?_))
              go_big_quiet_want
              go_big_quiet_op
              refine ⟨_, fun s => q_call s HFC.out, ?_⟩
              go_big_quiet_on
              repeat (first | (first | go_big_quiet_skip | (go_big_quiet_want; go_big_quiet_op; go_big_quiet_on)) | (refine q_load rfl 23 _ rfl _ _ rfl _ _ hB.out Try.underlying23 rfl (by rw [Ks_length]; exact info_block) ?_; refine wpQuiet_frame (by simp only [Act.put, List.setIfInBounds_toArray, List.set_cons_succ, List.set_cons_zero]; exact rfl) ?_))
              refine wpQuiet_nil ?_
              intro st3w h7
              have st3 := h7.out
              clear h7 hne hci hB
              go_wp2_with fail
              go_roundw
              case rel => first | exact ⟨8, k + 1, by omega, rfl, by go_num, ⟨z, HE2.out, st3⟩⟩ | exact ⟨8, k + 1, by omega, by go_num, by go_num, ⟨z, HE2.out, st3⟩⟩ | ((repeat apply Exists.intro); exact ⟨⟨8, k + 1, by omega, rfl, by go_num, ⟨z, HE2.out, st3⟩⟩, rfl⟩) | ((repeat apply Exists.intro); exact ⟨⟨8, k + 1, by omega, by go_num, by go_num, ⟨z, HE2.out, st3⟩⟩, rfl⟩)
              case measure => simp [intOf]; omega
          · obtain ⟨h1, hth, had, h2⟩ := HE.out.add h8 hv.out hvi.out hm hr
            have HE2 := Lib.hid h2
            have HAD := Lib.hid had
            have hz2 := h2.byt
            rw [h1, hth]
            clear h1 h2 hm hr hth had
            generalize addZ z (L k) ((k : Int) + 1) = z2 at *
            have q8 : ((n : Int) == 8) = false := by rw [beq_eq_false_iff_ne]; omega
            have q9 : ((n : Int) != (n : Int)) = false := by simp
            go_wp2_with fail
            have HMC : Hid (∀ W, E8 w G z2 W → Calls Try.prog 15 #[.string (L k)] W fun e w' => e = .returned (.bool true) ∧ E8 w G z2 w') := fun W hW => (mayName_any (L k) hLk W).mono fun e w' h => ⟨by rw [h.1, HM.out], h.2 ▸ hW⟩
            refine wp_region_S (E8 w G z2) (by kernel_rfl) (by kernel_rfl) st2.drew ?_
            have hB : Hid (∀ W, E8 w G z2 W → W.rangeAt G 0 (Ks .u8 256 z2)) := fun W h => h.b.range
            have hci : ∀ x : InW (E8 w G z2), x.W.cell? ⟨b, off + k, none⟩ = some (.string (L k)) := fun x => HSG.out.below x.h.bel k hlt
            clear st2 ck2
            intro hne
            repeat (first | go_big_quiet_skip | (go_big_quiet_want; go_big_quiet_op; go_big_quiet_on))
            go_big_quiet_want
            go_big_quiet_op
            refine ⟨_, fun s => q_call s HMC.out, ?_⟩
            go_big_quiet_on
            repeat (first | (first | go_big_quiet_skip | (go_big_quiet_want; go_big_quiet_op; go_big_quiet_on)) | (refine q_load rfl 23 _ rfl _ _ rfl _ _ hB.out Try.underlying23 rfl (by rw [Ks_length]; exact info_block) ?_; refine wpQuiet_frame (by simp only [Act.put, List.setIfInBounds_toArray, List.set_cons_succ, List.set_cons_zero]; exact rfl) ?_))
            refine wpQuiet_nil ?_
            intro st2bw h7
            have st2b := h7.out
            clear h7 hne hci hB
            go_wp2_with fail
            have HFC : Hid (∀ W, E8 w G z2 W → Calls Try.prog 13 #[bval z2, .string (L k)] W fun e w' => e = .returned (.tuple #[.int .i64 (n : Int), .int .u32 ((k : Int) + 1)]) ∧ E8 w G z2 w') := fun W hW => (find_any z2 hz2 (L k) W).mono fun e w' h => ⟨by rw [h.1, HAD.out.at_, HAD.out.fi], hW.below h.2⟩
            refine wp_region_S (E8 w G z2) (by kernel_rfl) (by kernel_rfl) st2b.drew ?_
            have hB : Hid (∀ W, E8 w G z2 W → W.rangeAt G 0 (Ks .u8 256 z2)) := fun W h => h.b.range
            have hci : ∀ x : InW (E8 w G z2), x.W.cell? ⟨b, off + k, none⟩ = some (.string (L k)) := fun x => HSG.out.below x.h.bel k hlt
            clear st2b
            intro hne
            refine q_load rfl 23 _ rfl _ _ rfl _ _ hB.out Try.underlying23 rfl (by rw [Ks_length]; exact info_block) ?_
            refine wpQuiet_frame (by simp only [Act.put, List.setIfInBounds_toArray, List.set_cons_succ, List.set_cons_zero]; exact rfl) ?_
            repeat (first | go_big_quiet_skip | (go_big_quiet_want; go_big_quiet_op; go_big_quiet_on))
            go_big_quiet_want
            go_big_quiet_op
            refine ⟨_, fun s => q_call s HFC.out, ?_⟩
            go_big_quiet_on
            repeat (first | go_big_quiet_skip | (go_big_quiet_want; go_big_quiet_op; go_big_quiet_on))
            refine wpQuiet_nil ?_
            intro w7 h7
            have st3 := h7.out
            clear h7 hne hci hB
            go_wp2_with fail
            go_roundw
            case rel => first | exact ⟨n + 1, k + 1, by omega, rfl, by go_num, ⟨z2, HE2.out, st3⟩⟩ | exact ⟨n + 1, k + 1, by omega, by go_num, by go_num, ⟨z2, HE2.out, st3⟩⟩ | ((repeat apply Exists.intro); exact ⟨⟨n + 1, k + 1, by omega, rfl, by go_num, ⟨z2, HE2.out, st3⟩⟩, rfl⟩) | ((repeat apply Exists.intro); exact ⟨⟨n + 1, k + 1, by omega, by go_num, by go_num, ⟨z2, HE2.out, st3⟩⟩, rfl⟩)
            case measure => simp [intOf]; omega
    · obtain rfl : i = N := by omega
      have hB := st.b
      go_wp2_with (first | (refine wp_loadBlkG rfl _ rfl _ _ rfl hB ?_))
      clear hB
      refine (list_any z hz _).mono ?_
      rintro e w2 ⟨hb2, hlr⟩
      have st2 := st.below hb2
      clear st
      rcases hlr with ⟨hd, rfl⟩ | ⟨hd, g, hg, rfl, hA⟩
      · rw [HE.out.dir] at hd; cases hd
      clear hd hb2
      by_cases h8 : n = 8
      · subst h8
        go_wp2_with fail
        go_ret
        exact ⟨rfl, st2.bel⟩
      · have q8 : ((n : Int) == 8) = false := by rw [beq_eq_false_iff_ne]; omega
        have l0 : (0 : Int) ≤ (n : Int) := by omega
        have l1 : (n : Int) < 8 := by omega
        have r1 := hA.slots.range n (by omega)
        have h0 := HE.out.free n (by omega) (by omega)
        rw [Nat.zero_add, no_name HE.out.dir (by omega) h0, h0] at r1
        clear h0
        have he : ∀ W, (binOp .eql 33 (.agg #[.int .u32 0, .string ByteArray.empty]) (.agg #[.int .u32 0, .string ByteArray.empty])).run Try.prog W = .ok (.bool true) W := fun W => by rw [run_eql_slot]; simp
        have c0 : w2.cell? ⟨g, n * 2, none⟩ = some (.int .u32 0) := r1 0 _ rfl
        have c1 : w2.cell? ⟨g, n * 2 + 1, none⟩ = some (.string ByteArray.empty) := r1 1 _ rfl
        go_wp2_with fail
        go_ret
        exact ⟨ret_bool (decide_eq_true (by omega)), st2.bel⟩
end Go.Proofs.Ytmghpmbjimdegaa
