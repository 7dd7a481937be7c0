/- The reference's side of chapter 8: quernref08.Find, Same, Put. -/
import Derived.Test.YtmghpmbjimdegaaR8b
namespace Go.Proofs.Ytmghpmbjimdegaa
open Go.RowKit
set_option linter.unusedVariables false

/-- the list that was told -/
structure RfS (w : World) (z : Nat → Int) (a : Option Addr) (cap : Nat) (W : World) : Prop where
  own : W.ownsRow w.heap.size 33 2 (.slice a 8 cap) 8 (Sc (dI z) (dM z) 8)
  bel : Below w.heap.size w W
theorem RfS.drew {w : World} {z : Nat → Int} {a : Option Addr} {cap : Nat} {W : World} (h : RfS w z a cap W) : RfS w z a cap W.drew := ⟨h.own, h.bel.drew⟩
theorem RfS.below {w : World} {z : Nat → Int} {a : Option Addr} {cap : Nat} {W W' : World} (h : RfS w z a cap W) (hb : Below W.heap.size W W') : RfS w z a cap W' := ⟨own_bel h.own hb, h.bel.trans (hb.mono h.bel.size)⟩
theorem own_low {W : World} {base base' n : Nat} {e : TypeId} {size : Nat} {v : Value} {xs : List Value} (h : W.ownsRow base e size v n xs) (hb : base' ≤ base) : W.ownsRow base' e size v n xs := by
  refine ⟨h.1, ?_⟩
  rcases h.2 with h' | ⟨g', cap', cur, hv, hbb, hr⟩
  · exact .inl h'
  · exact .inr ⟨g', cap', cur, hv, by omega, hr⟩
theorem own_at {W : World} {base : Nat} {e : TypeId} {size : Nat} {a : Option Addr} {n cap : Nat} {xs : List Value} (h : W.ownsRow base e size (.slice a n cap) n xs) (hn : 0 < n) : ∃ g, a = some ⟨g, 0, none⟩ ∧ base ≤ g ∧ g < W.heap.size := by
  rcases h.2 with ⟨hv, h0⟩ | ⟨g', cap', cur, hv, hb, hg, _⟩
  · omega
  · injection hv with h1; exact ⟨g', h1, hb, (Array.getElem?_eq_some_iff.1 hg).1⟩
theorem own_sseg {W : World} {base : Nat} {e : TypeId} {g n cap : Nat} {I : Nat → Int} {N : Nat → ByteArray} (h : W.ownsRow base e 2 (.slice (some ⟨g, 0, none⟩) n cap) n (Sc I N n)) (hn : 0 < n) : SlSeg W g 0 n I N := by
  rcases own_slots h with h | ⟨b, off, h, hs⟩
  · omega
  · injection h with h; injection h with h1 h2; subst h1 h2; exact hs
theorem dI_ge {z : Nat → Int} (hz : Byt z) (i : Nat) : 0 ≤ dI z i ∧ dI z i < 4294967296 := by
  unfold dI slI
  split
  · exact g32_bd (fun j => hz _) 0
  · decide

set_option maxRecDepth 100000 in
set_option maxHeartbeats 4000000 in
theorem rFind_any (z : Nat → Int) (hz : Byt z) (s : ByteArray) (w : World) : Calls Try.prog 14 #[bval z, .string s] w fun e w' => e = .returned (.tuple #[.int .i64 (fS z s), .int .u32 (fI z s)]) ∧ Below w.heap.size w w' := by
  have hB := Blk.new w 23 256 z
  have hL : Below w.heap.size w (w.alloc (.cells (Ks .u8 256 z).toArray 23)) := (Below.refl _ _).alloc (Nat.le_refl _) _
  have HL := Lib.hid hL
  clear hL
  go_enter Try.func14, Try.ntmps14
  go_wp2_with (first | (refine wp_loadBlkG rfl _ rfl _ _ rfl hB ?_))
  refine (rList_any z hz _).mono ?_
  rintro e w1 ⟨hb1', hlr⟩
  have hb1 : Below w.heap.size w w1 := HL.out.trans (hb1'.mono HL.out.size)
  have hsz := HL.out.size
  clear hB HL hb1'
  rcases hlr with ⟨hd, rfl⟩ | ⟨hd, a, cap, rfl, hown⟩
  · have HF : Hid (fS z s = -1) := firstB_none fun i _ => by unfold hitB rI; rw [hd]; rfl
    clear hd
    go_wp2_with fail
    go_loopw [8] (fun u wr => u = .int .i64 0 ∧ Below w.heap.size w wr) (fun u _ => 0)
    case atStart => exact ⟨rfl, hb1⟩
    case round =>
      clear hb1
      obtain ⟨rfl, hb⟩ := hrel
      go_wp2_with fail
      go_ret2
      exact ⟨by rw [fI, HF.out]; rfl, hb⟩
  obtain ⟨g, rfl, hgb, _⟩ := own_at hown (by decide)
  have st1 : RfS w z (some ⟨g, 0, none⟩) cap w1 := ⟨own_low hown (by omega), hb1⟩
  have HFE : Hid (fS z s = firstB (hitB (rI z) (rN z) s) 8) := rfl
  have HHB : Hid (∀ i, hitB (rI z) (rN z) s i = (dI z i != 0 && (dM z i).toList == s.toList)) := fun i => by unfold hitB; rw [rI_yes hd, rN_yes hd, ByteArray.toList_eq, ByteArray.toList_eq]
  have HRI : Hid (∀ i, rI z i = dI z i) := fun i => rI_yes hd i
  clear hown hb1 hd
  go_wp2_with fail
  go_loopw [8] (fun u wr => ∃ k : Nat, k ≤ 8 ∧ u = .int .i64 (k : Int) ∧ Hid (∀ i, i < k → hitB (rI z) (rN z) s i = false) ∧ RfS w z (some ⟨g, 0, none⟩) cap wr) (fun u _ => 8 - (intOf u).toNat)
  case atStart => exact ⟨0, by omega, rfl, fun i hi => by omega, st1⟩
  case round =>
    clear st1
    obtain ⟨k, hk, rfl, HNO, st⟩ := hrel
    by_cases hlt : k < 8
    · have l0 : (0 : Int) ≤ (k : Int) := by omega
      have l1 : (k : Int) < 8 := by omega
      have c0 : wr.cell? ⟨g, k * 2, none⟩ = some (.int .u32 (dI z k)) := by have := (own_sseg st.own (by decide) k hlt).1; rwa [Nat.zero_add] at this
      have c1 : wr.cell? ⟨g, k * 2 + 1, none⟩ = some (.string (dM z k)) := by have := (own_sseg st.own (by decide) k hlt).2; rwa [Nat.zero_add] at this
      have HK := Lib.hid (HHB.out k)
      have HNX : Hid (hitB (rI z) (rN z) s k = false → ∀ i, i < k + 1 → hitB (rI z) (rN z) s i = false) := fun h i hi => by
        by_cases e : i = k
        · rw [e]; exact h
        · exact HNO.out i (by omega)
      obtain ⟨hd0, hd1⟩ := dI_ge hz k
      by_cases h0 : dI z k = 0
      · have q0 : ¬ 0 < dI z k := by omega
        have HN1 : Hid (∀ i, i < k + 1 → hitB (rI z) (rN z) s i = false) := HNX.out (by rw [HK.out, h0]; rfl)
        go_wp2_with fail
        go_roundw
        case rel => first | exact ⟨k + 1, by omega, by go_num, HN1, st⟩ | ((repeat apply Exists.intro); exact ⟨⟨k + 1, by omega, by go_num, HN1, st⟩, rfl⟩)
        case measure => simp [intOf]; omega
      have q0 : 0 < dI z k := by omega
      have e0 : Hid ((dI z k != 0) = true) := by show _ = _; simpa using h0
      clear h0
      cases hq : ((dM z k).toList == s.toList) with
      | false =>
        have HN1 : Hid (∀ i, i < k + 1 → hitB (rI z) (rN z) s i = false) := HNX.out (by rw [HK.out, hq, Bool.and_false])
        go_wp2_with fail
        go_roundw
        case rel => first | exact ⟨k + 1, by omega, by go_num, HN1, st⟩ | ((repeat apply Exists.intro); exact ⟨⟨k + 1, by omega, by go_num, HN1, st⟩, rfl⟩)
        case measure => simp [intOf]; omega
      | true =>
        have HF : Hid (fS z s = (k : Int)) := by show _ = _; rw [HFE.out]; exact firstB_hit hlt HNO.out (by rw [HK.out, hq, e0.out]; rfl)
        go_wp2_with fail
        have hc0 : ∀ x : InW (RfS w z (some ⟨g, 0, none⟩) cap), x.W.cell? ⟨g, k * 2, none⟩ = some (.int .u32 (dI z k)) := fun x => by have := (own_sseg x.h.own (by decide) k hlt).1; rwa [Nat.zero_add] at this
        refine wp_region_S (RfS w z (some ⟨g, 0, none⟩) cap) (by kernel_rfl) (by kernel_rfl) st.drew ?_
        clear st c0 c1
        intro hne
        repeat (first | go_big_quiet_skip | (go_big_quiet_want; go_big_quiet_op; go_big_quiet_on))
        refine wpQuiet_nil ?_
        intro w7 h7
        have st7 := h7.out
        clear h7 hne hc0
        go_wp2_with fail
        go_ret2
        exact ⟨by rw [fI, HF.out, if_neg (by omega), HRI.out]; rfl, st7.bel⟩
    · obtain rfl : k = 8 := by omega
      have HF : Hid (fS z s = -1) := by show _ = _; rw [HFE.out]; exact firstB_none HNO.out
      go_wp2_with fail
      go_ret2
      exact ⟨by rw [fI, HF.out]; rfl, st.bel⟩

structure SmS (w : World) (a b : Option Addr) (n : Nat) (I : Nat → Int) (N : Nat → ByteArray) (W : World) : Prop where
  s1 : SlRow W a n I N
  s2 : SlRow W b n I N
  bel : Below w.heap.size w W
theorem SmS.drew {w : World} {a b : Option Addr} {n : Nat} {I : Nat → Int} {N : Nat → ByteArray} {W : World} (h : SmS w a b n I N W) : SmS w a b n I N W.drew := ⟨h.s1, h.s2, h.bel.drew⟩
set_option maxRecDepth 100000 in
set_option maxHeartbeats 4000000 in
theorem rSame_yes (a b : Option Addr) (n cap cap' : Nat) (I : Nat → Int) (N : Nat → ByteArray) (hn : (n : Int) ≤ 9223372036854775807) (w : World) (h1 : SlRow w a n I N) (h2 : SlRow w b n I N) :
    Calls Try.prog 12 #[.slice a n cap, .slice b n cap'] w fun e w' => e = .returned (.bool true) ∧ Below w.heap.size w w' := by
  have HS : Hid (SmS w a b n I N w) := ⟨h1, h2, Below.refl _ _⟩
  clear h1 h2
  have q1 : ((n : Int) != (n : Int)) = false := by simp
  go_enter Try.func12, Try.ntmps12
  go_wp2_with fail
  have st0 := HS.out
  clear HS
  go_loopw [5] (fun u wr => ∃ k : Nat, k ≤ n ∧ u = .int .i64 (k : Int) ∧ SmS w a b n I N wr) (fun u _ => n - (intOf u).toNat)
  case atStart => exact ⟨0, by omega, rfl, st0⟩
  case round =>
    clear st0
    obtain ⟨k, hk, rfl, st⟩ := hrel
    by_cases hlt : k < n
    · have l0 : (0 : Int) ≤ (k : Int) := by omega
      have l1 : (k : Int) < (n : Int) := by omega
      obtain ⟨ab, ao, ha⟩ : ∃ b off, a = some ⟨b, off, none⟩ := by
        rcases st.s1 with h | ⟨b, off, h, _⟩
        · omega
        · exact ⟨b, off, h⟩
      obtain ⟨bb, bo, hb⟩ : ∃ b' off, b = some ⟨b', off, none⟩ := by
        rcases st.s2 with h | ⟨b, off, h, _⟩
        · omega
        · exact ⟨b, off, h⟩
      subst ha hb
      have r1 : Hid (∀ W, SmS w (some ⟨ab, ao, none⟩) (some ⟨bb, bo, none⟩) n I N W → W.rangeAt ab (ao + k * 2) [.int .u32 (I k), .string (N k)]) := fun W h => by
        rcases h.s1 with h | ⟨b, off, h, hs⟩
        · omega
        · injection h with h; injection h with h1 h2; subst h1 h2; exact hs.range k hlt
      have r2 : Hid (∀ W, SmS w (some ⟨ab, ao, none⟩) (some ⟨bb, bo, none⟩) n I N W → W.rangeAt bb (bo + k * 2) [.int .u32 (I k), .string (N k)]) := fun W h => by
        rcases h.s2 with h | ⟨b, off, h, hs⟩
        · omega
        · injection h with h; injection h with h1 h2; subst h1 h2; exact hs.range k hlt
      have hne2 : ∀ W, (binOp .neq 33 (.agg #[.int .u32 (I k), .string (N k)]) (.agg #[.int .u32 (I k), .string (N k)])).run Try.prog W = .ok (.bool false) W := fun W => by rw [run_neq_slot]; simp
      go_wp2_with fail
      refine wp_region_S (SmS w (some ⟨ab, ao, none⟩) (some ⟨bb, bo, none⟩) n I N) (by kernel_rfl) (by kernel_rfl) st.drew ?_
      clear st
      intro hne
      repeat (first | (first | go_big_quiet_skip | (go_big_quiet_want; go_big_quiet_op; go_big_quiet_on)) | (refine q_load rfl 33 _ rfl _ _ rfl _ _ r1.out Try.underlying33 rfl (by kernel_rfl) ?_; refine wpQuiet_frame (by simp only [Act.put, List.setIfInBounds_toArray, List.set_cons_succ, List.set_cons_zero]; exact rfl) ?_) | (refine q_load rfl 33 _ rfl _ _ rfl _ _ r2.out Try.underlying33 rfl (by kernel_rfl) ?_; refine wpQuiet_frame (by simp only [Act.put, List.setIfInBounds_toArray, List.set_cons_succ, List.set_cons_zero]; exact rfl) ?_))
      refine wpQuiet_nil ?_
      intro w7 h7
      have st7 := h7.out
      clear h7 hne
      go_wp2_with fail
      go_roundw
      case rel => first | exact ⟨k + 1, by omega, by go_num, st7⟩ | ((repeat apply Exists.intro); exact ⟨⟨k + 1, by omega, by go_num, st7⟩, rfl⟩)
      case measure => simp [intOf]; omega
    · obtain rfl : k = n := by omega
      go_wp2_with fail
      go_ret
      exact ⟨rfl, st.bel⟩
structure PtS (w : World) (z : Nat → Int) (g : Nat) (y : Nat → Int) (W : World) : Prop where
  b : Blk W w.heap.size 23 256 z
  p : Blk W g 5 32 y
  r : Blk W (w.heap.size + 1 + 1) 23 256 (fun _ => 0)
  bel : Below w.heap.size w W
  ge : w.heap.size < g
theorem PtS.put {w : World} {z z' : Nat → Int} {g : Nat} {y : Nat → Int} {W W' : World} (h : PtS w z g y W) (hB : Blk W' w.heap.size 23 256 z') (ho : Only w.heap.size W W') : PtS w z' g y W' :=
  ⟨hB, h.p.only ho (Nat.ne_of_gt h.ge), h.r.only ho (by omega), h.bel.trans (ho.below (Nat.le_refl _)), h.ge⟩
theorem PtS.drew {w : World} {z : Nat → Int} {g : Nat} {y : Nat → Int} {W : World} (h : PtS w z g y W) : PtS w z g y W.drew := ⟨h.b, h.p, h.r, h.bel.drew, h.ge⟩
def putN (z : Nat → Int) (i : Nat) (y : Nat → Int) (n : Nat) : Nat → Int := over z (32 * i) n y
theorem putN_succ (z : Nat → Int) (i : Nat) (y : Nat → Int) (n j : Nat) : over (putN z i y n) (32 * i + n) 1 (fun _ => y n) j = putN z i y (n + 1) j := by
  unfold putN over
  by_cases h : 32 * i + n = j
  · subst h
    rw [if_pos (by omega), if_pos (by omega), show 32 * i + n - 32 * i = n by omega]
  · rw [if_neg (by omega)]
    by_cases h2 : 32 * i ≤ j ∧ j < 32 * i + n
    · rw [if_pos h2, if_pos (by omega)]
    · rw [if_neg h2, if_neg (by omega)]
theorem results_blk {fn : Func} {p : Tmp} (h : fn.results = #[.cell p 23]) (tmps : Array Value) (w : World) (g : Nat) (z : Nat → Int)
    (hp : tmps.getD p undef = .pointer (some ⟨g, 0, none⟩)) (hg : Blk w g 23 256 z) : (results fn tmps).run Try.prog w = .ok (bval z) w := by
  have hp' : tmps[p]?.getD undef = .pointer (some ⟨g, 0, none⟩) := by simpa using hp
  simp [results, h, hp', asAddr, run_loadVar_row w g 23 23 _ (0, 0) _ hg Try.underlying23 rfl (info_block' _)]
set_option maxRecDepth 100000 in
set_option maxHeartbeats 4000000 in
theorem rPut_any (z : Nat → Int) (i : Nat) (hi8 : i < 8) (ino : Int) (s : ByteArray) (hi : 0 ≤ ino ∧ ino < 4294967296) (hs : ino = 0 ∨ s.size ≤ 27) (w : World) :
    Calls Try.prog 33 #[bval z, .int .i64 (i : Int), sv ino s] w fun e w' => e = .returned (bval (putS z i (bS ino s))) ∧ Below w.heap.size w w' := by
  have hal := zero_block
  obtain ⟨hi0, hi1⟩ := hi
  have HS : Hid (Blk (((w.alloc (.cells (Ks .u8 256 z).toArray 23)).alloc (.cells #[.int .u32 ino, .string s] 33)).alloc (.cells (Ks .u8 256 (fun _ => 0)).toArray 23)) w.heap.size 23 256 z ∧
      Blk (((w.alloc (.cells (Ks .u8 256 z).toArray 23)).alloc (.cells #[.int .u32 ino, .string s] 33)).alloc (.cells (Ks .u8 256 (fun _ => 0)).toArray 23)) (w.heap.size + 1 + 1) 23 256 (fun _ => 0) ∧
      Below w.heap.size w (((w.alloc (.cells (Ks .u8 256 z).toArray 23)).alloc (.cells #[.int .u32 ino, .string s] 33)).alloc (.cells (Ks .u8 256 (fun _ => 0)).toArray 23))) := by
    refine ⟨((Blk.new w _ 256 z).alloc _).alloc _, ?_, (((Below.refl _ _).alloc (Nat.le_refl _) _).alloc (by simp) _).alloc (by simp; omega) _⟩
    have := Blk.new ((w.alloc (.cells (Ks .u8 256 z).toArray 23)).alloc (.cells #[.int .u32 ino, .string s] 33)) 23 256 (fun _ => 0)
    simpa using this
  go_enter Try.func33, Try.ntmps33
  go_wp2_with fail
  generalize ((w.alloc (.cells (Ks .u8 256 z).toArray 23)).alloc (.cells #[.int .u32 ino, .string s] 33)).alloc (.cells (Ks .u8 256 (fun _ => 0)).toArray 23) = w0 at *
  refine (rBytes_any ino s ⟨hi0, hi1⟩ hs _).mono ?_
  rintro e w1 ⟨g, hg, rfl, hp, hb1⟩
  obtain ⟨h1, h2, h3⟩ := HS.out
  have st1 : PtS w (putN z i (bS ino s) 0) g (bS ino s) w1 := ⟨(h1.below hb1 h1.lt).congr fun j _ => by unfold putN over; rw [if_neg (by omega)], hp, h2.below hb1 h2.lt, h3.trans (hb1.mono h3.size), by have := h1.lt; omega⟩
  have HPS : Hid (putN z i (bS ino s) 32 = putS z i (bS ino s)) := rfl
  generalize hyy : bS ino s = y at *
  have HYY := Lib.hid hyy
  clear hyy
  clear HS h1 h2 h3 hp hb1 hg
  go_wp2_with fail
  go_loopw [8] (fun u wr => ∃ k : Nat, k ≤ 32 ∧ u = .int .i64 (k : Int) ∧ PtS w (putN z i y k) g y wr) (fun u _ => 32 - (intOf u).toNat)
  case atStart => exact ⟨0, by omega, rfl, st1⟩
  case round =>
    clear st1
    obtain ⟨k, hk, rfl, st⟩ := hrel
    by_cases hlt : k < 32
    · have l0 : (0 : Int) ≤ (k : Int) := by omega
      have l1 : (k : Int) < 32 := by omega
      have hB := st.b
      have c0 : wr.cell? ⟨g, k, none⟩ = some (.int .u8 (y k)) := by have := st.p.seg k hlt; rwa [Nat.zero_add] at this
      have e1 : (32 * (i : Int) + (k : Int)).toNat = 32 * i + k := by omega
      have e2 : (32 * (i : Int) + (k : Int)) < 256 := by omega
      have e3 : (0 : Int) ≤ 32 * (i : Int) + (k : Int) := by omega
      go_wp2_with (first | (refine wp_storeByte rfl _ _ rfl _ (32 * i + k) (y k) rfl rfl hB (by omega) ?_))
      intro w4 hB4 ho4
      have st4 : PtS w (putN z i y (k + 1)) g y w4 := st.put (hB4.congr fun j _ => putN_succ z i y k j) ho4
      clear st hB hB4 ho4 c0
      go_wp2_with fail
      go_roundw
      case rel => first | exact ⟨k + 1, by omega, by go_num, st4⟩ | ((repeat apply Exists.intro); exact ⟨⟨k + 1, by omega, by go_num, st4⟩, rfl⟩)
      case measure => simp [intOf]; omega
    · obtain rfl : k = 32 := by omega
      have hB := st.b
      have hR := st.r
      rw [HPS.out] at hB
      go_wp2_with (first | (refine wp_loadBlkG rfl _ rfl _ _ rfl hB ?_) | (refine wp_storeBlk rfl _ _ rfl (w.heap.size + 1 + 1) _ _ rfl rfl hR ?_))
      intro w9 hB9 ho9
      go_wp2_with fail
      exact bodyPost_ret (results_blk rfl _ _ (w.heap.size + 1 + 1) _ rfl hB9) rfl ⟨by rw [HYY.out], st.bel.trans (ho9.below (by omega))⟩
end Go.Proofs.Ytmghpmbjimdegaa
