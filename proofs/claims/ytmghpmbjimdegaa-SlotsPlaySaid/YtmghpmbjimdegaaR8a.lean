/- The reference's side of chapter 8: quernref08.MayName, Bytes. -/
import Derived.Test.YtmghpmbjimdegaaW8a
import Derived.Test.YtmghpmbjimdegaaS8j
import Derived.Test.YtmghpmbjimdegaaMakeB
namespace Go.Proofs.Ytmghpmbjimdegaa
open Go.RowKit
set_option linter.unusedVariables false

set_option maxRecDepth 100000 in
set_option maxHeartbeats 4000000 in
theorem rMay_any (s : ByteArray) (hs : s.size ≤ 9223372036854775807) (w : World) : Calls Try.prog 16 #[.string s] w fun e w' => e = .returned (.bool (mayB s)) ∧ w = w' := by
  have HP : Hid (mayB s = (decide (1 ≤ s.size) && (decide (s.size ≤ 27) && (!s.toList == [46] && !s.toList == [46, 46])) && okL s.toList)) := by
    show _ = _
    unfold mayB
    rw [mayL_pre, preL, ← ByteArray.toList_eq]
    rw [show s.toList.length = s.size by rw [ByteArray.toList_eq]; rfl]; rfl
  have HZ : Hid ((s.toList == []) = decide (s.size = 0)) := by
    show _ = _
    rw [ByteArray.toList_eq, Bool.eq_iff_iff, beq_iff_eq, decide_eq_true_eq]
    exact List.length_eq_zero_iff.symm
  go_enter Try.func16, Try.ntmps16
  by_cases h1 : 1 ≤ s.size
  rotate_left
  · have q0 : (s.toList == []) = true := by rw [HZ.out]; exact decide_eq_true (by omega)
    have HN : Hid (mayB s = false) := by show _ = _; rw [HP.out, decide_eq_false h1]; rfl
    clear HZ
    go_wp2_with fail
    go_ret
    exact ⟨by rw [HN.out]; rfl, rfl⟩
  have q0 : (s.toList == []) = false := by rw [HZ.out]; exact decide_eq_false (by omega)
  clear HZ
  by_cases h2 : s.size ≤ 27
  rotate_left
  · have d2 : (27 : Int) < s.size := by omega
    have HN : Hid (mayB s = false) := by show _ = _; rw [HP.out, decide_eq_false h2]; simp
    go_wp2_with fail
    go_ret
    exact ⟨by rw [HN.out]; rfl, rfl⟩
  have d2 : ¬ (27 : Int) < s.size := by omega
  cases h3 : s.toList == [46] with
  | true =>
    have HN : Hid (mayB s = false) := by show _ = _; rw [HP.out, h3]; simp
    go_wp2_with fail
    go_ret
    exact ⟨by rw [HN.out]; rfl, rfl⟩
  | false =>
  cases h4 : s.toList == [46, 46] with
  | true =>
    have HN : Hid (mayB s = false) := by show _ = _; rw [HP.out, h4]; simp
    go_wp2_with fail
    go_ret
    exact ⟨by rw [HN.out]; rfl, rfl⟩
  | false =>
  have HY : Hid (mayB s = okL s.toList) := by
    show _ = _
    rw [HP.out, h3, h4, decide_eq_true h1, decide_eq_true h2]; rfl
  clear HP
  go_wp2_with fail
  go_loopw [3] (fun u wr => ∃ k : Nat, k ≤ s.size ∧ u = .int .i64 (k : Int) ∧ Hid (okL (s.toList.take k) = true) ∧ wr = w) (fun u _ => s.size - (intOf u).toNat)
  case atStart => exact ⟨0, by omega, rfl, rfl, rfl⟩
  case round =>
    obtain ⟨k, hk, rfl, HK, rfl⟩ := hrel
    by_cases hlt : k < s.size
    · have hidx : s.data.size = s.size := rfl
      have HO : Hid (okL (s.toList.take (k + 1)) = (!((s[k].toNat : Int) == 47) && !((s[k].toNat : Int) == 0))) := by
        show _ = _
        have h := okL_take s.toList k (by rw [ByteArray.toList_eq]; simpa using hlt)
        have e : s.toList[k]'(by rw [ByteArray.toList_eq]; simpa using hlt) = s[k] := by simp [ByteArray.toList_eq]; rfl
        rw [h, HK.out, e, ← byte_ne, ← byte_ne0]; rfl
      have HNO : Hid (okL (s.toList.take (k + 1)) = false → mayB s = false) := fun h => by
        rw [HY.out]
        unfold okL at h ⊢
        cases hall : s.toList.all fun c => c != 47 && c != 0 with
        | false => rfl
        | true =>
          rw [List.all_eq_true] at hall
          rw [List.all_eq_true.2 (fun x hx => hall x (List.mem_of_mem_take hx))] at h
          cases h
      cases hc1 : ((s[k].toNat : Int) == 47) with
      | true =>
        have HN : Hid (mayB s = false) := HNO.out (by rw [HO.out, hc1]; rfl)
        go_wp2_with fail
        go_ret
        exact ⟨by rw [HN.out]; rfl, rfl⟩
      | false =>
      cases hc2 : ((s[k].toNat : Int) == 0) with
      | true =>
        have HN : Hid (mayB s = false) := HNO.out (by rw [HO.out, hc1, hc2]; rfl)
        go_wp2_with fail
        go_ret
        exact ⟨by rw [HN.out]; rfl, rfl⟩
      | false =>
        have HK1 : Hid (okL (s.toList.take (k + 1)) = true) := by show _ = _; rw [HO.out, hc1, hc2]; rfl
        go_wp2_with fail
        go_roundw
        case rel => first | exact ⟨k + 1, by omega, by go_num, HK1, rfl⟩ | exact ⟨k + 1, by omega, by go_num, HK1, trivial⟩ | exact ⟨⟨k + 1, by omega, by go_num, HK1⟩, rfl⟩ | exact ⟨k + 1, by omega, by go_num, HK1⟩ | ((repeat apply Exists.intro); exact ⟨⟨k + 1, by omega, by go_num, HK1, rfl⟩, rfl⟩)
        case measure => simp [intOf]; omega
    · obtain rfl : k = s.size := by omega
      have HM : Hid (mayB s = true) := by
        show _ = _
        rw [HY.out, ← HK.out, show s.size = s.toList.length by rw [ByteArray.toList_eq]; rfl, List.take_length]
      go_wp2_with fail
      go_ret
      exact ⟨by rw [HM.out]; rfl, rfl⟩

/-- the bytes of a slot -/
def bS (ino : Int) (s : ByteArray) : Nat → Int := if ino = 0 then fun _ => 0 else mkS s ino
/-- with the first i bytes of the name -/
def mkP (s : ByteArray) (ino : Int) (i : Nat) : Nat → Int := fun j => if j < 4 then byteOf ino j else if j = 4 then (s.size : Int) else if j - 5 < i then bz s (j - 5) else 0
theorem mkP_zero (s : ByteArray) (ino : Int) (j : Nat) : over (over (fun _ => 0) 0 4 (byteOf ino)) 4 1 (fun _ => (s.size : Int)) j = mkP s ino 0 j := by
  unfold over mkP
  by_cases h : j < 4
  · rw [if_neg (by omega), if_pos (by omega), if_pos h]; rfl
  · rw [if_neg h]
    by_cases h4 : j = 4
    · rw [if_pos (by omega), if_pos h4]
    · rw [if_neg (by omega), if_neg (by omega), if_neg h4, if_neg (by omega)]
theorem mkP_succ (s : ByteArray) (ino : Int) (i j : Nat) : over (mkP s ino i) (5 + i) 1 (fun _ => bz s i) j = mkP s ino (i + 1) j := by
  unfold over mkP
  by_cases h : j < 4
  · rw [if_neg (by omega), if_pos h, if_pos h]
  · by_cases h4 : j = 4
    · rw [if_neg (by omega), if_neg h, if_pos h4, if_neg h, if_pos h4]
    · by_cases h5 : j - 5 = i
      · rw [if_pos (by omega), if_neg h, if_neg h4, if_pos (by omega), h5]
      · rw [if_neg (by omega), if_neg h, if_neg h4, if_neg h, if_neg h4]
        by_cases h6 : j - 5 < i
        · rw [if_pos h6, if_pos (by omega)]
        · rw [if_neg h6, if_neg (by omega)]
theorem Mine.blk {w : World} {base g n : Nat} {e : TypeId} {z : Nat → Int} (h : Mine w base e (some ⟨g, 0, none⟩) n n z) : Blk w g e n z ∧ base ≤ g := by
  rcases h.2 with ⟨hv, _⟩ | ⟨g', cap', cur, hv, hb, hg, hn, hc, hs, ht⟩
  · cases hv
  · injection hv with h1 h2 h3
    injection h1 with h1
    injection h1 with h1
    subst h1 h3
    refine ⟨?_, hb⟩
    have : cur = (Ks .u8 n z).toArray := by
      apply Array.ext'
      rw [← show (Bs n z) = Ks .u8 n z from rfl, ← ht, List.take_of_length_le (by simp; omega)]
    unfold Blk
    rw [hg, this]
structure ByB (w : World) (ino : Int) (s : ByteArray) (W : World) : Prop where
  x : At W w.heap.size 33 #[.int .u32 ino, .string s]
  bel : Below w.heap.size w W
structure ByS (w : World) (ino : Int) (s : ByteArray) (G : Nat) (z : Nat → Int) (W : World) : Prop extends ByB w ino s W where
  b : Blk W G 5 32 z
  ge : w.heap.size < G
theorem ByS.only {w : World} {ino : Int} {s : ByteArray} {G : Nat} {z y : Nat → Int} {W W' : World} (h : ByS w ino s G z W) (hB : Blk W' G 5 32 y) (ho : Only G W W') : ByS w ino s G y W' :=
  ⟨⟨h.x.only ho (by have := h.ge; omega), h.bel.trans (ho.below (Nat.le_of_lt h.ge))⟩, hB, h.ge⟩
theorem ByS.drew {w : World} {ino : Int} {s : ByteArray} {G : Nat} {z : Nat → Int} {W : World} (h : ByS w ino s G z W) : ByS w ino s G z W.drew := ⟨⟨h.x, h.bel.drew⟩, h.b, h.ge⟩
set_option maxRecDepth 100000 in
set_option maxHeartbeats 4000000 in
theorem rBytes_any (ino : Int) (s : ByteArray) (hi : 0 ≤ ino ∧ ino < 4294967296) (hs : ino = 0 ∨ s.size ≤ 27) (w : World) :
    Calls Try.prog 26 #[sv ino s] w fun e w' => ∃ g, w.heap.size ≤ g ∧ e = .returned (.slice (some ⟨g, 0, none⟩) 32 32) ∧ Blk w' g 5 32 (bS ino s) ∧ Below w.heap.size w w' := by
  obtain ⟨hi0, hi1⟩ := hi
  have HS : Hid (ByB w ino s (w.alloc (.cells #[.int .u32 ino, .string s] 33))) := ⟨At.new _ _ _, (Below.refl _ _).alloc (Nat.le_refl _) _⟩
  go_enter Try.func26, Try.ntmps26
  go_wp2_with (first | (refine wp_makeB rfl _ _ rfl (w.heap.size + 1) 32 32 rfl rfl rfl (by omega) (by simp) ?_))
  intro w1 hm1 hg1
  have st0 := HS.out
  have hsz : (w.alloc (.cells #[.int .u32 ino, .string s] 33)).heap.size = w.heap.size + 1 := by simp
  obtain ⟨hb1, hge1⟩ := hm1.blk
  have hlt1 : w.heap.size < w.heap.size + 1 := by omega
  have st1 : ByS w ino s (w.heap.size + 1) (fun _ => 0) w1 := ⟨⟨(hg1.block _ st0.x.lt (by simp)).trans st0.x, st0.bel.grown hg1 st0.bel.size (fun k e => by cases e)⟩, hb1, hlt1⟩
  clear st0 HS hm1 hg1 hb1 hge1 hlt1 hsz
  generalize w.heap.size + 1 = G at *
  have c0 : w1.cell? ⟨w.heap.size, 0, none⟩ = some (.int .u32 ino) := st1.x.cell (i := 0) rfl
  have c1 : w1.cell? ⟨w.heap.size, 1, none⟩ = some (.string s) := st1.x.cell (i := 1) rfl
  by_cases h0 : ino = 0
  · subst h0
    have fin : Hid (∃ g, w.heap.size ≤ g ∧ (Ending.returned (.slice (some ⟨G, 0, none⟩) 32 32)) = .returned (.slice (some ⟨g, 0, none⟩) 32 32) ∧ Blk w1 g 5 32 (bS 0 s) ∧ Below w.heap.size w w1) := ⟨G, by have := st1.ge; omega, rfl, st1.b, st1.bel⟩
    clear hs
    go_wp2_with fail
    go_ret
    exact fin.out
  have hs27 : s.size ≤ 27 := by
    rcases hs with h | h
    · exact absurd h h0
    · exact h
  have q0 : (ino == 0) = false := by simpa using h0
  have HB : Hid (bS ino s = mkS s ino) := by show _ = _; unfold bS; rw [if_neg h0]
  clear h0 hs
  go_wp2_with fail
  refine (rput32_yes G 0 32 32 0 ino (fun _ => 0) _ (by decide) (by decide) (by decide) hi0 hi1 st1.b.seg byt_zero (st1.b.soft _ _)).mono ?_
  rintro e w2 ⟨rfl, hp2⟩
  have st2 := st1.only (st1.b.puts hp2) hp2.only
  clear st1 hp2 c0 c1
  have c0 : w2.cell? ⟨w.heap.size, 0, none⟩ = some (.int .u32 ino) := st2.x.cell (i := 0) rfl
  have c1 : w2.cell? ⟨w.heap.size, 1, none⟩ = some (.string s) := st2.x.cell (i := 1) rfl
  have l6 : IntKind.u8.wrap (s.size : Int) = (s.size : Int) := IntWalk.u8_in _ (by omega)
  have hB := st2.b
  go_wp2_with (first | (refine wp_storeByte rfl _ _ rfl _ 4 (s.size : Int) rfl rfl hB (by omega) ?_))
  intro w3 hB3 ho3
  have st3 : ByS w ino s G (mkP s ino 0) w3 := st2.only (hB3.congr fun j _ => mkP_zero s ino j) ho3
  clear st2 hB hB3 ho3 c0 c1
  go_wp2_with fail
  go_loopw [4] (fun u wr => ∃ k : Nat, k ≤ s.size ∧ u = .int .i64 (k : Int) ∧ ByS w ino s G (mkP s ino k) wr) (fun u _ => s.size - (intOf u).toNat)
  case atStart => exact ⟨0, by omega, rfl, st3⟩
  case round =>
    clear st3
    obtain ⟨k, hk, rfl, st⟩ := hrel
    have c1 : wr.cell? ⟨w.heap.size, 1, none⟩ = some (.string s) := st.x.cell (i := 1) rfl
    by_cases hlt : k < s.size
    · have hidx : s.data.size = s.size := rfl
      have l0 : (0 : Int) ≤ (k : Int) := by omega
      have l1 : (k : Int) < (s.size : Int) := by omega
      have hB := st.b
      have HZ : Hid ((s[k].toNat : Int) = bz s k) := by
        show _ = _
        unfold bz
        rw [List.getD, List.getElem?_eq_getElem (by simpa using hlt)]; rfl
      go_wp2_with (first | (refine wp_storeByte rfl _ _ rfl _ (5 + k) (s[k].toNat : Int) rfl rfl hB (by omega) ?_))
      intro w4 hB4 ho4
      have st4 : ByS w ino s G (mkP s ino (k + 1)) w4 := st.only (hB4.congr fun j _ => by rw [HZ.out]; exact mkP_succ s ino k j) ho4
      clear st hB hB4 ho4 c1
      go_wp2_with fail
      go_roundw
      case rel => first | exact ⟨k + 1, by omega, by go_num, st4⟩ | ((repeat apply Exists.intro); exact ⟨⟨k + 1, by omega, by go_num, st4⟩, rfl⟩)
      case measure => simp [intOf]; omega
    · obtain rfl : k = s.size := by omega
      have fin : Hid (∃ g, w.heap.size ≤ g ∧ (Ending.returned (.slice (some ⟨G, 0, none⟩) 32 32)) = .returned (.slice (some ⟨g, 0, none⟩) 32 32) ∧ Blk wr g 5 32 (bS ino s) ∧ Below w.heap.size w wr) := ⟨G, by have := st.ge; omega, rfl, by rw [HB.out]; exact st.b, st.bel⟩
      go_wp2_with fail
      go_ret
      exact fin.out
end Go.Proofs.Ytmghpmbjimdegaa
