/- The reference's side of chapter 8: quernref08.List. -/
import Derived.Test.YtmghpmbjimdegaaR8a
namespace Go.Proofs.Ytmghpmbjimdegaa
open Go.RowKit
set_option linter.unusedVariables false

theorem own_bel {w w' : World} {base : Nat} {e : TypeId} {size : Nat} {v : Value} {n : Nat} {xs : List Value} (h : w.ownsRow base e size v n xs) (hb : Below w.heap.size w w') : w'.ownsRow base e size v n xs :=
  World.ownsRow.kept h (grown_below (row := none) hb) (Classical.em _)
theorem own_drew {w : World} {base : Nat} {e : TypeId} {size : Nat} {v : Value} {n : Nat} {xs : List Value} (h : w.ownsRow base e size v n xs) : w.drew.ownsRow base e size v n xs := h
theorem own_slots {W : World} {base k : Nat} {e : TypeId} {a : Option Addr} {cap : Nat} {I : Nat → Int} {N : Nat → ByteArray} (h : W.ownsRow base e 2 (.slice a k cap) k (Sc I N k)) : SlRow W a k I N := by
  rcases h.2 with ⟨hv, h0⟩ | ⟨g, cap', cur, hv, hb, hg, hn, hc, hs, ht⟩
  · exact .inl h0
  · injection hv with h1 h2 h3
    subst h1
    refine .inr ⟨g, 0, rfl, fun i hi => ?_⟩
    obtain ⟨h1, h2⟩ := Sc_get I N k i hi
    rw [← ht, List.getElem?_take_of_lt (by omega)] at h1 h2
    rw [Nat.zero_add]
    exact ⟨cell_of_heap hg (by simpa using h1), cell_of_heap hg (by simpa using h2)⟩
theorem own_slice {W : World} {base n : Nat} {e : TypeId} {size : Nat} {v : Value} {xs : List Value} (h : W.ownsRow base e size v n xs) : ∃ a cap, v = .slice a n cap := by
  rcases h.2 with ⟨rfl, rfl⟩ | ⟨g, cap, cur, rfl, _⟩
  · exact ⟨none, 0, rfl⟩
  · exact ⟨_, cap, rfl⟩

/-- the name that the reference reads -/
def xN (y : Nat → Int) : ByteArray := if sIno y = 0 then ByteArray.empty else if sLen y ≤ 27 then sNm y else ByteArray.empty
theorem may_empty : mayB ByteArray.empty = false := by decide +kernel
theorem sNm_size (y : Nat → Int) : (sNm y).size = sLen y := by unfold sNm; rw [strOfNums_size]; simp
theorem xN_size (y : Nat → Int) : (xN y).size ≤ 27 := by
  unfold xN
  split
  · decide
  · split
    · rw [sNm_size]; assumption
    · decide
theorem bz_sNm {y : Nat → Int} (hy : Byt y) (j : Nat) (hj : j < sLen y) : bz (sNm y) j = y (5 + j) := by
  have h5 := hy (5 + j)
  unfold bz sNm
  rw [strOfNums_data, List.map_map, List.getD, List.getElem?_eq_getElem (by simpa using hj)]
  simp only [List.getElem_map, List.getElem_range, Function.comp, Option.getD_some]
  rw [UInt8.toNat_ofNat']
  omega
theorem mk_sNm {y : Nat → Int} (hy : Byt y) (h : sLen y ≤ 27) (j : Nat) (hj : j < 5 + sLen y) : mkS (sNm y) (sIno y) j = y j := by
  unfold mkS
  by_cases h4 : j < 4
  · rw [if_pos h4]
    have := byteOf_g32 y hy 0 j h4
    rw [Nat.zero_add] at this
    exact this
  · rw [if_neg h4]
    by_cases h5 : j = 4
    · rw [if_pos h5, h5, sNm_size]
      unfold sLen
      have := hy 4
      omega
    · rw [if_neg h5, if_pos (by rw [sNm_size]; omega), bz_sNm hy _ (by omega)]
      congr 1; omega
/-- what the reference asks of a slot is what makes it right -/
theorem slot_ref {y : Nat → Int} (hy : Byt y) : (sIno y ≠ 0 → mayB (xN y) = false → sOk y = false) ∧ (¬ (sIno y ≠ 0 ∧ mayB (xN y) = false) → eqB (bS (sIno y) (xN y)) y 32 = sOk y) ∧
    (sOk y = true → slI y = sIno y ∧ slN y = xN y ∧ (sIno y ≠ 0 → mayB (xN y) = true)) := by
  by_cases h0 : sIno y = 0
  · refine ⟨fun h => absurd h0 h, fun _ => ?_, fun hk => ⟨?_, ?_, fun h => absurd h0 h⟩⟩
    · unfold bS sOk
      rw [if_pos h0, if_pos h0, Bool.eq_iff_iff, eqB_iff, allZ_iff]
      exact ⟨fun h i hi => (h i hi).symm, fun h i hi => (h i hi).symm⟩
    · unfold slI; rw [hk]; rfl
    · unfold slN xN; rw [hk, h0]; rfl
  · by_cases h27 : sLen y ≤ 27
    · have hx : xN y = sNm y := by unfold xN; rw [if_neg h0, if_pos h27]
      rw [hx]
      refine ⟨fun _ hm => ?_, fun hc => ?_, fun hk => ⟨?_, ?_, fun _ => ?_⟩⟩
      · unfold sOk; rw [if_neg h0, hm]; simp
      · have hm : mayB (sNm y) = true := by
          cases e : mayB (sNm y) with
          | true => rfl
          | false => exact absurd ⟨h0, e⟩ hc
        unfold bS sOk
        rw [if_neg h0, if_neg h0, hm, decide_eq_true h27, Bool.true_and, Bool.and_true, Bool.eq_iff_iff, eqB_iff, allZ_iff]
        constructor
        · intro h j hj
          have := h (5 + sLen y + j) (by omega)
          rw [← this]
          unfold mkS
          rw [if_neg (by omega), if_neg (by omega), if_neg (by rw [sNm_size]; omega)]
        · intro h j hj
          by_cases hj2 : j < 5 + sLen y
          · exact mk_sNm hy h27 j hj2
          · have := h (j - (5 + sLen y)) (by omega)
            rw [show 5 + sLen y + (j - (5 + sLen y)) = j by omega] at this
            rw [this]
            unfold mkS
            rw [if_neg (by omega), if_neg (by omega), if_neg (by rw [sNm_size]; omega)]
      · unfold slI; rw [hk]; rfl
      · unfold slN; rw [hk, show (sIno y != 0) = true by simpa using h0]; rfl
      · unfold sOk at hk
        rw [if_neg h0, Bool.and_eq_true, Bool.and_eq_true] at hk
        exact hk.2.2
    · have hx : xN y = ByteArray.empty := by unfold xN; rw [if_neg h0, if_neg h27]
      have hn : sOk y = false := by unfold sOk; rw [if_neg h0, decide_eq_false h27]; rfl
      rw [hx, may_empty, hn]
      exact ⟨fun _ _ => rfl, fun h => absurd ⟨h0, rfl⟩ h, fun h => by cases h⟩

structure RlS (w : World) (z : Nat → Int) (k : Nat) (a : Option Addr) (cap : Nat) (W : World) : Prop where
  b : Blk W w.heap.size 23 256 z
  own : W.ownsRow (w.heap.size + 1) 33 2 (.slice a k cap) k (Sc (dI z) (dM z) k)
  bel : Below w.heap.size w W
theorem RlS.below {w : World} {z : Nat → Int} {k : Nat} {a : Option Addr} {cap : Nat} {W W' : World} (h : RlS w z k a cap W) (hb : Below W.heap.size W W') : RlS w z k a cap W' := ⟨h.b.below hb h.b.lt, own_bel h.own hb, h.bel.trans (hb.mono h.bel.size)⟩
theorem RlS.drew {w : World} {z : Nat → Int} {k : Nat} {a : Option Addr} {cap : Nat} {W : World} (h : RlS w z k a cap W) : RlS w z k a cap W.drew := ⟨h.b, h.own, h.bel.drew⟩
def RListRead (w : World) (z : Nat → Int) (e : Ending) (w' : World) : Prop :=
  Below w.heap.size w w' ∧ (dirB z = false ∧ e = .returned (.tuple #[.slice none 0 0, .int .i64 80]) ∨
    dirB z = true ∧ ∃ a cap, e = .returned (.tuple #[.slice a 8 cap, .int .i64 0]) ∧ w'.ownsRow (w.heap.size + 1) 33 2 (.slice a 8 cap) 8 (Sc (dI z) (dM z) 8))

theorem At.setCell {w : World} {g : Nat} {T : TypeId} {cs : Array Value} (h : At w g T cs) (i : Nat) (v : Value) : At (w.setCell ⟨g, i, none⟩ v) g T (cs.setIfInBounds i v) := by
  obtain ⟨hlt, hk⟩ := Array.getElem?_eq_some_iff.1 h
  show (w.heap.modify g _)[g]? = _
  rw [Array.getElem?_eq_getElem (by rw [Array.size_modify]; exact hlt), Array.getElem_modify_self, hk]
  rfl
theorem info_str : (Try.prog.info? 9).map (·.size) = some 1 := by kernel_rfl
theorem info_slot' : (Try.prog.info? 33).map (fun i => (i.zero, i.size, i.bytes)) = some (some (.agg #[.int .u32 0, .string ByteArray.empty]), 2, 24) := by kernel_rfl
theorem run_slot1 (x : Int) (s : ByteArray) (w : World) : (Instr.buildSlice 24 1 #[(0, .agg #[.int .u32 x, .string s])]).run Try.prog w = .ok (.slice (some ⟨w.heap.size, 0, none⟩) 1 1) (w.alloc (.cells #[.int .u32 x, .string s] 33)) := by kernel_rfl
theorem slotNews (w : World) (x : Int) (s : ByteArray) : ∀ (j : Nat) (u : Value), ([.int .u32 x, .string s] : List Value)[j]? = some u → (w.alloc (.cells #[.int .u32 x, .string s] 33)).cell? ((⟨w.heap.size, 0, none⟩ : Addr).add j) = some u := by
  intro j u hj
  rw [addr_add]
  rcases j with _ | _ | j
  · cases hj; exact cell_of_heap (heap_alloc_new w _) rfl
  · cases hj; exact cell_of_heap (heap_alloc_new w _) rfl
  · cases hj
theorem slotOne (x : Int) (s : ByteArray) : ∀ u ∈ ([.int .u32 x, .string s] : List Value), u.oneCell' = true := by
  intro u hu
  simp only [List.mem_cons, List.not_mem_nil, or_false] at hu
  rcases hu with rfl | rfl <;> rfl
/-- with the slot that is looked at -/
structure RlX (w : World) (z : Nat → Int) (k : Nat) (a : Option Addr) (cap : Nat) (X : Nat) (ino : Int) (s : ByteArray) (W : World) : Prop extends RlS w z k a cap W where
  x : At W X 33 #[.int .u32 ino, .string s]
  ne : w.heap.size < X
theorem RlX.below {w : World} {z : Nat → Int} {k : Nat} {a : Option Addr} {cap X : Nat} {ino : Int} {s : ByteArray} {W W' : World} (h : RlX w z k a cap X ino s W) (hb : Below W.heap.size W W') : RlX w z k a cap X ino s W' := ⟨h.toRlS.below hb, h.x.below hb h.x.lt, h.ne⟩
theorem RlX.drew {w : World} {z : Nat → Int} {k : Nat} {a : Option Addr} {cap X : Nat} {ino : Int} {s : ByteArray} {W : World} (h : RlX w z k a cap X ino s W) : RlX w z k a cap X ino s W.drew := ⟨h.toRlS.drew, h.x, h.ne⟩
theorem RlX.name {w : World} {z : Nat → Int} {k : Nat} {a : Option Addr} {cap X : Nat} {ino : Int} {s : ByteArray} {W : World} (h : RlX w z k a cap X ino s W) (hX : ∀ q, (Value.slice a k cap).ownBlock = some q → q ≠ X) (t : ByteArray) : RlX w z k a cap X ino t (W.setCell ⟨X, 1, none⟩ (.string t)) := by
  have ho : Only X W (W.setCell ⟨X, 1, none⟩ (.string t)) := Only.setCell W ⟨X, 1, none⟩ _
  refine ⟨⟨h.b.only ho (Nat.ne_of_lt h.ne), World.ownsRow.kept h.own (grown_only ho) ?_, h.bel.trans (ho.below (Nat.le_of_lt h.ne))⟩, h.x.setCell 1 _, h.ne⟩
  cases e : (Value.slice a k cap).ownBlock with
  | none => exact .inl rfl
  | some q => exact .inr (fun e2 => by cases e2; exact hX _ e rfl)
theorem RlS.new {w : World} {z : Nat → Int} {k : Nat} {a : Option Addr} {cap : Nat} {W : World} (h : RlS w z k a cap W) (ino : Int) (s : ByteArray) : RlX w z k a cap W.heap.size ino s (W.alloc (.cells #[.int .u32 ino, .string s] 33)) :=
  ⟨h.below ((Below.refl _ _).alloc (Nat.le_refl _) _), At.new _ _ _, h.b.lt⟩

set_option maxRecDepth 100000 in
set_option maxHeartbeats 4000000 in
theorem rList_any (z : Nat → Int) (hz : Byt z) (w : World) : Calls Try.prog 10 #[bval z] w (RListRead w z) := by
  have hal := zero_slot
  have HS : Hid (RlS w z 0 none 0 (w.alloc (.cells (Ks .u8 256 z).toArray 23))) := ⟨Blk.new _ _ _ _, World.ownsRow_nil _ _ _ _, (Below.refl _ _).alloc (Nat.le_refl _) _⟩
  go_enter Try.func10, Try.ntmps10
  go_wp2_with fail
  have st0 := HS.out
  clear HS
  go_loopw [4, 5] (fun v u wr => ∃ (k : Nat) (a : Option Addr) (cap : Nat), k ≤ 8 ∧ u = .int .i64 (k : Int) ∧ v = .slice a k cap ∧ Hid (rdB z k = true) ∧ RlS w z k a cap wr) (fun _ u _ => 8 - (intOf u).toNat)
  case atStart => exact ⟨0, none, 0, by omega, rfl, rfl, rfl, st0⟩
  case round =>
    clear st0
    obtain ⟨k, a, cap, hk, rfl, rfl, HRD, st⟩ := hrel
    by_cases hlt : k < 8
    · have hsl : ∀ W, (Instr.sliceAt 23 (.pointer (some ⟨w.heap.size, 0, none⟩)) (some (.int .i64 (32 * (k : Int)))) (some (.int .i64 (32 * (k : Int) + 32))) none).run Try.prog W = .ok (.slice (some ⟨w.heap.size, 32 * k, none⟩) 32 (256 - 32 * k)) W := fun W => by
        have := run_sliceBlk w.heap.size 0 (32 * k) (32 * k + 32) (32 * (k : Int)) (32 * (k : Int) + 32) (by omega) (by omega) (by omega) (by omega) (by omega) W
        simp only [Nat.zero_add, show 32 * k + 32 - 32 * k = 32 by omega] at this
        exact this
      go_wp2_with fail
      have HY : Hid (∀ W, RlS w z k a cap W → Seg W w.heap.size (32 * k) 32 (sl z k)) := fun W h => by
        have := h.b.seg.sub (32 * k) 32 (by omega)
        rw [Nat.zero_add] at this; exact this
      have hyb : Byt (sl z k) := fun j => hz _
      refine (rget32_yes w.heap.size (32 * k) 32 _ 0 (sl z k) _ (by decide) (by decide) (by decide) (HY.out _ st) hyb).mono ?_
      rintro e w1 ⟨rfl, m, hw1⟩
      have st1 : RlS w z k a cap w1 := by rw [hw1]; exact st.below (bel_drewN (Below.refl _ _) m)
      clear st hw1 hsl
      have HIN : Hid (g32 (sl z k) (0 : Int).toNat = sIno (sl z k)) := rfl
      rw [HIN.out]
      clear HIN
      obtain ⟨HR1, HR2, HR3⟩ : Hid (_) ∧ Hid (_) ∧ Hid (_) := slot_ref hyb
      have hI : 0 ≤ sIno (sl z k) ∧ sIno (sl z k) < 4294967296 := g32_bd hyb 0
      have hdI : Hid (dI z k = slI (sl z k) ∧ dM z k = slN (sl z k)) := ⟨rfl, rfl⟩
      have hlb : sLen (sl z k) < 256 := by have := hyb 4; unfold sLen; omega
      have c4 : ∀ W, RlS w z k a cap W → W.cell? ⟨w.heap.size, 32 * k + 4, none⟩ = some (.int .u8 (sLen (sl z k) : Int)) := fun W h => by
        rw [HY.out W h 4 (by omega)]; have := hyb 4; unfold sLen; congr 2; omega
      have HXN : Hid (xN (sl z k) = if sIno (sl z k) = 0 then ByteArray.empty else if sLen (sl z k) ≤ 27 then sNm (sl z k) else ByteArray.empty) := rfl
      have HXS : Hid ((xN (sl z k)).size ≤ 27) := xN_size _
      generalize hy : sl z k = y at *
      obtain ⟨hI0, hI1⟩ := hI
      by_cases h0 : sIno y = 0
      · have st2 : Hid (RlX w z k a cap w1.heap.size 0 ByteArray.empty (w1.alloc (.cells #[.int .u32 0, .string ByteArray.empty] 33))) := st1.new 0 ByteArray.empty
        have st2 := st2.out
        have hX := st2.x
        have c41 := c4 _ st2.toRlS
        have e0 : (w1.alloc (.cells #[.int .u32 0, .string ByteArray.empty] 33)).cell? ⟨w1.heap.size, 0, none⟩ = some (.int .u32 0) := st2.x.cell (i := 0) rfl
        have e1 : (w1.alloc (.cells #[.int .u32 0, .string ByteArray.empty] 33)).cell? ⟨w1.heap.size, 1, none⟩ = some (.string ByteArray.empty) := st2.x.cell (i := 1) rfl
        have HXE : Hid (xN y = ByteArray.empty) := by show _ = _; rw [HXN.out, if_pos h0]
        have HEQ : Hid (eqB (bS 0 ByteArray.empty) y 32 = sOk y) := by show _ = _; rw [← HR2.out (fun h => h.1 h0), h0, HXE.out]
        have HI0 : Hid (sIno y = 0) := h0
        rw [h0]
        clear h0 st1
        go_wp2_with fail
        generalize w1.heap.size = X at *
        --TAIL A
        refine (rBytes_any (0) (ByteArray.empty) (by decide) (.inl rfl) _).mono ?_
        rintro e w3 ⟨g, hg, rfl, hBy, hb3⟩
        have st3 := st2.below hb3
        clear st2 hb3 hX e0 e1
        go_wp2_with fail
        refine (same_any _ _ 32 _ _ (bS (0) (ByteArray.empty)) y _ (by decide) (.inr ⟨_, _, rfl, hBy.seg⟩) (.inr ⟨_, _, rfl, HY.out _ st3.toRlS⟩)).mono ?_
        rintro e w4 ⟨rfl, m', hw4⟩
        have st4 : RlX w z k a cap X (0) (ByteArray.empty) w4 := by rw [hw4]; exact st3.below (bel_drewN (Below.refl _ _) m')
        clear st3 hw4 hBy hg
        rw [HEQ.out]
        cases hok : sOk y with
        | false =>
          have fin : Hid (RListRead w z (.returned (.tuple #[.slice none 0 0, .int .i64 80])) w4) := ⟨st4.bel, .inl ⟨rdB_no hlt (by rw [rdB_succ, hy, hok]; simp), rfl⟩⟩
          clear hok
          go_wp2_with fail
          go_ret2
          exact fin.out
        | true =>
        have HOK := Lib.hid hok
        obtain ⟨HV1, HV2, HV3⟩ : Hid (_) ∧ Hid (_) ∧ Hid (_) := HR3.out hok
        clear hok
        have HZK : Hid (dI z k = 0 ∧ dM z k = ByteArray.empty) := ⟨by rw [hdI.out.1, HV1.out, HI0.out], by rw [hdI.out.2, HV2.out, HXE.out]⟩
        go_wp2_with fail
        go_loopw [11] (fun u wr => ∃ j : Nat, j ≤ k ∧ u = .int .i64 (j : Int) ∧ True ∧ RlX w z k a cap X (0) (ByteArray.empty) wr) (fun u _ => k - (intOf u).toNat)
        case atStart => exact ⟨0, by omega, rfl, trivial, st4⟩
        case round =>
          clear st4
          obtain ⟨j, hjk, rfl, _, st⟩ := hrel
          by_cases hj : j < k
          · have m0 : (0 : Int) ≤ (j : Int) := by omega
            have m1 : (j : Int) < (k : Int) := by omega
            go_wp2_with fail
            first
            | (go_roundw
               case rel => first | exact ⟨j + 1, by omega, by go_num, trivial, st⟩ | ((repeat apply Exists.intro); exact ⟨⟨j + 1, by omega, by go_num, trivial, st⟩, rfl⟩) | exact ⟨j + 1, by omega, by go_num, st⟩ | ((repeat apply Exists.intro); exact ⟨⟨j + 1, by omega, by go_num, st⟩, rfl⟩)
               case measure => simp [intOf]; omega)
            | (refine wp_region_S (RlX w z k a cap X (0) (ByteArray.empty)) (by kernel_rfl) (by kernel_rfl) st.drew ?_
               clear st
               intro hne
               repeat (first | go_big_quiet_skip | (go_big_quiet_want; go_big_quiet_op; go_big_quiet_on))
               refine wpQuiet_nil ?_
               intro w7 h7
               have st7 := h7.out
               clear h7 hne
               go_wp2_with fail
               go_roundw
               case rel => first | exact ⟨j + 1, by omega, by go_num, trivial, st7⟩ | ((repeat apply Exists.intro); exact ⟨⟨j + 1, by omega, by go_num, trivial, st7⟩, rfl⟩) | exact ⟨j + 1, by omega, by go_num, st7⟩ | ((repeat apply Exists.intro); exact ⟨⟨j + 1, by omega, by go_num, st7⟩, rfl⟩)
               case measure => simp [intOf]; omega)
          · obtain rfl : j = k := by omega
            have HRD1 : Hid (rdB z (j + 1) = true) := by
              show _ = _
              rw [rdB_succ, HRD.out, hy, HOK.out]
              rw [HZK.out.1]; rfl
            have hbs := run_slot1
            have c0 : wr.cell? ⟨X, 0, none⟩ = some (.int .u32 (0)) := st.x.cell (i := 0) rfl
            have c1 : wr.cell? ⟨X, 1, none⟩ = some (.string (ByteArray.empty)) := st.x.cell (i := 1) rfl
            have hown' := World.ownsRow.alloc st.own (.cells #[.int .u32 (0), .string (ByteArray.empty)] 33)
            obtain ⟨i0, hi, hz0, hz1, hz2⟩ := info_parts info_slot'
            have hblt := st.b.lt
            have hnews := slotNews wr (0) (ByteArray.empty)
            have hone := slotOne (0) (ByteArray.empty)
            clear hal
            go_wp2_with (first | (refine wpList_append_own _ rfl _ _ 24 rfl (w.heap.size + 1) 33 i0 (.agg #[.int .u32 0, .string ByteArray.empty]) 2 24 Try.underlying24 hi hz0 hz1 hz2 rfl (by decide) _ j _ rfl hown' ⟨wr.heap.size, 0, none⟩ 1 1 [.int .u32 (0), .string (ByteArray.empty)] rfl rfl hnews hone (by unfold maxLen; omega) (by omega) (by simp; omega) ?_))
            intro v' w7 hown7 hg7 _
            have hob : ∀ q, (Value.slice a j cap).ownBlock = some q → w.heap.size + 1 ≤ q := fun q hq => (World.ownsRow.lt hown' q hq).1
            rw [show Sc (dI z) (dM z) j ++ [.int .u32 (0), .string (ByteArray.empty)] = Sc (dI z) (dM z) (j + 1) by unfold Sc; rw [HZK.out.1, HZK.out.2]; cases j <;> rfl] at hown7
            obtain ⟨a', cap', hv'⟩ := own_slice hown7
            subst hv'
            have st7 : RlS w z (j + 1) a' cap' w7 := ⟨(hg7.block _ (st.b.alloc _).lt (fun e => by have := hob _ e.symm; omega)).trans (st.b.alloc _), hown7, (st.bel.alloc st.bel.size _).grown hg7 (st.bel.alloc st.bel.size _).size (fun q e => by have := hob q e; omega)⟩
            clear st hown' hown7 hg7 hbs c0 c1 hnews hone hob
            go_wp2_with fail
            go_roundw
            case rel => first | exact ⟨j + 1, a', cap', by omega, by go_num, rfl, HRD1, st7⟩ | ((repeat apply Exists.intro); exact ⟨⟨j + 1, a', cap', by omega, by go_num, rfl, HRD1, st7⟩, rfl⟩)
            case measure => simp [intOf]; omega
        --END A
      · have HI0 : Hid (sIno y ≠ 0) := h0
        have q0 : (0 : Int) < sIno y := by omega
        have st2 : RlX w z k a cap w1.heap.size (sIno y) ByteArray.empty (w1.alloc (.cells #[.int .u32 (sIno y), .string ByteArray.empty] 33)) := st1.new (sIno y) ByteArray.empty
        have hob : Hid (∀ q, (Value.slice a k cap).ownBlock = some q → q ≠ w1.heap.size) := fun q hq => by have := (World.ownsRow.lt st1.own q hq).2; omega
        have c41 := c4 _ st2.toRlS
        have e0 : (w1.alloc (.cells #[.int .u32 (sIno y), .string ByteArray.empty] 33)).cell? ⟨w1.heap.size, 0, none⟩ = some (.int .u32 (sIno y)) := st2.x.cell (i := 0) rfl
        have e1 : (w1.alloc (.cells #[.int .u32 (sIno y), .string ByteArray.empty] 33)).cell? ⟨w1.heap.size, 1, none⟩ = some (.string ByteArray.empty) := st2.x.cell (i := 1) rfl
        have hX := st2.x
        have st2b : Hid (RlX w z k a cap w1.heap.size (sIno y) (xN y) (w1.alloc (.cells #[.int .u32 (sIno y), .string (xN y)] 33))) := st1.new (sIno y) (xN y)
        clear st1
        by_cases h27 : sLen y ≤ 27
        rotate_left
        · have d27 : ¬ (sLen y : Int) ≤ 27 := by omega
          have HXE : Hid (xN y = ByteArray.empty) := by show _ = _; rw [HXN.out, if_neg h0, if_neg h27]
          have HN : Hid (sOk y = false) := HR1.out h0 (by rw [HXE.out]; exact may_empty)
          clear h0
          go_wp2_with fail
          refine (rMay_any ByteArray.empty (by decide) _).mono ?_
          rintro e w3 ⟨rfl, rfl⟩
          rw [may_empty]
          have fin : Hid (RListRead w z (.returned (.tuple #[.slice none 0 0, .int .i64 80])) (w1.alloc (.cells #[.int .u32 (sIno y), .string ByteArray.empty] 33))) := ⟨st2.bel, .inl ⟨rdB_no hlt (by rw [rdB_succ, hy, HN.out]; simp), rfl⟩⟩
          go_wp2_with fail
          go_ret2
          exact fin.out
        have d27 : (sLen y : Int) ≤ 27 := by omega
        have HXE : Hid (xN y = sNm y) := by show _ = _; rw [HXN.out, if_neg h0, if_pos h27]
        have hseg := HY.out _ st2.toRlS
        have hcv : ∀ dst, Try.prog.underlying dst = some .string → (convert 58 dst (.slice (some ⟨w.heap.size, 32 * k + 5, none⟩) (sLen y) (256 - 32 * k - 5))).run Try.prog (w1.alloc (.cells #[.int .u32 (sIno y), .string ByteArray.empty] 33)) = .ok (.string (sNm y)) (w1.alloc (.cells #[.int .u32 (sIno y), .string ByteArray.empty] 33)) := by
          exact run_convert_bytes_arg _ 58 5 Try.underlying58 Try.underlying5 w.heap.size (32 * k + 5) (sLen y) _ _ (by simp) (fun j hj => by
            have := hseg (5 + j) (by omega)
            rw [Nat.add_assoc, this]
            simp [List.getD, hj])
        have hcv1 := hcv 9 Try.underlying9
        have hsl : ∀ W, (Instr.slice 58 (.slice (some ⟨w.heap.size, 32 * k, none⟩) 32 (256 - 32 * k)) (some (.int .i64 5)) (some (.int .i64 (5 + (sLen y : Int)))) none).run Try.prog W = .ok (.slice (some ⟨w.heap.size, 32 * k + 5, none⟩) (sLen y) (256 - 32 * k - 5)) W := fun W => by
          have hsz : ∀ W, (sizeOf 5).run Try.prog W = .ok 1 W := fun W => by kernel_rfl
          rw [run_slice_lh W 58 _ 32 (256 - 32 * k) (by kernel_rfl) .i64 .i64 5 (5 + (sLen y : Int)) (by omega) (by omega) (by omega), show Try.prog.elem 58 = 5 from by kernel_rfl, hsz]
          simp only [Result.andThen, sliced, Nat.mul_one]
          rw [show (5 + (sLen y : Int)).toNat = 5 + sLen y by omega, show (5 : Int).toNat = 5 from rfl, show 5 + sLen y - 5 = sLen y by omega, if_neg (by omega), Option.map_some, addr_add]
        clear hseg hcv
        have hsoft : (w1.alloc (.cells #[.int .u32 (sIno y), .string ByteArray.empty] 33)).frozen? ⟨w1.heap.size, 1, none⟩ = false := soft_of_heap st2.x 1
        rw [← HXE.out] at hcv1
        have HEQ : Hid (¬ mayB (xN y) = false → eqB (bS (sIno y) (xN y)) y 32 = sOk y) := fun h => HR2.out (fun h2 => h h2.2)
        have HNO1 : Hid (mayB (xN y) = false → sOk y = false) := fun h => HR1.out h0 h
        clear h0 HXN HR1 HR2 HXE
        go_wp2_with (first | (refine wp_store1 rfl 9 _ _ rfl _ _ _ rfl rfl _ e1 hsoft info_str rfl ?_))
        clear hsoft hcv1 hsl e0 e1 hX c41 c4 st2
        have st2 := st2b.out
        clear st2b
        generalize w1.alloc (.cells #[.int .u32 (sIno y), .string (xN y)] 33) = w2 at *
        generalize w1.heap.size = X at *
        have e0 : w2.cell? ⟨X, 0, none⟩ = some (.int .u32 (sIno y)) := st2.x.cell (i := 0) rfl
        have e1 : w2.cell? ⟨X, 1, none⟩ = some (.string (xN y)) := st2.x.cell (i := 1) rfl
        have hX := st2.x
        go_wp2_with fail
        refine (rMay_any (xN y) (by have := HXS.out; omega) _).mono ?_
        rintro e w3 ⟨rfl, rfl⟩
        cases hm : mayB (xN y) with
        | false =>
          have fin : Hid (RListRead w z (.returned (.tuple #[.slice none 0 0, .int .i64 80])) w2) := ⟨st2.bel, .inl ⟨rdB_no hlt (by rw [rdB_succ, hy, HNO1.out hm]; simp), rfl⟩⟩
          clear hm
          go_wp2_with fail
          go_ret2
          exact fin.out
        | true =>
        replace HEQ : Hid (eqB (bS (sIno y) (xN y)) y 32 = sOk y) := HEQ.out (by rw [hm]; decide)
        clear hm
        go_wp2_with fail
        --TAIL B
        refine (rBytes_any (sIno y) (xN y) ⟨hI0, hI1⟩ (.inr HXS.out) _).mono ?_
        rintro e w3 ⟨g, hg, rfl, hBy, hb3⟩
        have st3 := st2.below hb3
        clear st2 hb3 hX e0 e1
        go_wp2_with fail
        refine (same_any _ _ 32 _ _ (bS (sIno y) (xN y)) y _ (by decide) (.inr ⟨_, _, rfl, hBy.seg⟩) (.inr ⟨_, _, rfl, HY.out _ st3.toRlS⟩)).mono ?_
        rintro e w4 ⟨rfl, m', hw4⟩
        have st4 : RlX w z k a cap X (sIno y) (xN y) w4 := by rw [hw4]; exact st3.below (bel_drewN (Below.refl _ _) m')
        clear st3 hw4 hBy hg
        rw [HEQ.out]
        cases hok : sOk y with
        | false =>
          have fin : Hid (RListRead w z (.returned (.tuple #[.slice none 0 0, .int .i64 80])) w4) := ⟨st4.bel, .inl ⟨rdB_no hlt (by rw [rdB_succ, hy, hok]; simp), rfl⟩⟩
          clear hok
          go_wp2_with fail
          go_ret2
          exact fin.out
        | true =>
        have HOK := Lib.hid hok
        obtain ⟨HV1, HV2, HV3⟩ : Hid (_) ∧ Hid (_) ∧ Hid (_) := HR3.out hok
        clear hok
        have HZK : Hid (dI z k = sIno y ∧ dM z k = xN y) := ⟨by rw [hdI.out.1, HV1.out], by rw [hdI.out.2, HV2.out]⟩
        go_wp2_with fail
        go_loopw [11] (fun u wr => ∃ j : Nat, j ≤ k ∧ u = .int .i64 (j : Int) ∧ Hid (∀ i, i < j → hitB (dI z) (dM z) (dM z k) i = false) ∧ RlX w z k a cap X (sIno y) (xN y) wr) (fun u _ => k - (intOf u).toNat)
        case atStart => exact ⟨0, by omega, rfl, fun i hi => by omega, st4⟩
        case round =>
          clear st4
          obtain ⟨j, hjk, rfl, HNO, st⟩ := hrel
          by_cases hj : j < k
          · have m0 : (0 : Int) ≤ (j : Int) := by omega
            have m1 : (j : Int) < (k : Int) := by omega
            obtain ⟨lb, loff, hla⟩ : ∃ b off, a = some ⟨b, off, none⟩ := by
              rcases own_slots st.own with h | ⟨b, off, h, _⟩
              · omega
              · exact ⟨b, off, h⟩
            subst hla
            have HSG : Hid (∀ W, RlX w z k (some ⟨lb, loff, none⟩) cap X (sIno y) (xN y) W → SlSeg W lb loff k (dI z) (dM z)) := fun W h => by
              rcases own_slots h.own with h | ⟨b, off, h, hs⟩
              · omega
              · injection h with h; injection h with h1 h2; subst h1 h2; exact hs
            have hcj : ∀ x : InW (RlX w z k (some ⟨lb, loff, none⟩) cap X (sIno y) (xN y)), x.W.cell? ⟨lb, loff + j * 2 + 1, none⟩ = some (.string (dM z j)) := fun x => (HSG.out x.W x.h j hj).2
            have hcx : ∀ x : InW (RlX w z k (some ⟨lb, loff, none⟩) cap X (sIno y) (xN y)), x.W.cell? ⟨X, 1, none⟩ = some (.string (xN y)) := fun x => x.h.x.cell (i := 1) rfl
            have HHT : Hid (hitB (dI z) (dM z) (dM z k) j = ((dM z j).toList == (xN y).toList)) := by
              show _ = _
              unfold hitB
              rw [HZK.out.2, ByteArray.toList_eq, ByteArray.toList_eq]
              cases he : ((dM z j).data.toList == (xN y).data.toList) with
              | false => rw [Bool.and_false]
              | true =>
                have he' : dM z j = xN y := ba_ext (beq_iff_eq.1 he)
                have : dI z j ≠ 0 := fun h0 => by
                  have hokj := ((rdB_iff z k).1 HRD.out).1 j hj
                  have hemp : dM z j = ByteArray.empty := by
                    unfold dI slI at h0
                    rw [hokj] at h0
                    unfold dM slN
                    rw [show sIno (sl z j) = 0 from h0]
                    simp
                  have := HV3.out HI0.out
                  rw [← he', hemp, may_empty] at this
                  cases this
                rw [show (dI z j != 0) = true by simpa using this]; rfl
            have HNX : Hid (hitB (dI z) (dM z) (dM z k) j = false → ∀ i, i < j + 1 → hitB (dI z) (dM z) (dM z k) i = false) := fun h i hi => by
              by_cases e : i = j
              · rw [e]; exact h
              · exact HNO.out i (by omega)
            generalize hq : ((dM z j).toList == (xN y).toList) = q at *
            go_wp2_with fail
            refine wp_region_S (RlX w z k (some ⟨lb, loff, none⟩) cap X (sIno y) (xN y)) (by kernel_rfl) (by kernel_rfl) st.drew ?_
            clear st
            intro hne
            repeat (first | go_big_quiet_skip | (go_big_quiet_want; go_big_quiet_op; go_big_quiet_on))
            refine wpQuiet_nil ?_
            intro w7 h7
            have st7 := h7.out
            clear h7 hne hcj hcx hq
            cases q with
            | true =>
              have fin : Hid (RListRead w z (.returned (.tuple #[.slice none 0 0, .int .i64 80])) w7) := ⟨st7.bel, .inl ⟨rdB_no hlt (by
                rw [rdB_succ, HRD.out, hy, HOK.out, Bool.true_and, Bool.true_and, Bool.or_eq_false_iff]
                refine ⟨by rw [HZK.out.1]; simpa using HI0.out, ?_⟩
                rw [beq_eq_false_iff_ne]
                intro hf
                rw [firstB_hit hj HNO.out HHT.out] at hf
                omega), rfl⟩⟩
              go_wp2_with fail
              go_ret2
              exact fin.out
            | false =>
              have HN1 := Lib.hid (HNX.out HHT.out)
              go_wp2_with fail
              go_roundw
              case rel => first | exact ⟨j + 1, by omega, by go_num, HN1, st7⟩ | ((repeat apply Exists.intro); exact ⟨⟨j + 1, by omega, by go_num, HN1, st7⟩, rfl⟩)
              case measure => simp [intOf]; omega
          · obtain rfl : j = k := by omega
            have HRD1 : Hid (rdB z (j + 1) = true) := by
              show _ = _
              rw [rdB_succ, HRD.out, hy, HOK.out]
              rw [firstB_none HNO.out]; simp
            have hbs := run_slot1
            have c0 : wr.cell? ⟨X, 0, none⟩ = some (.int .u32 (sIno y)) := st.x.cell (i := 0) rfl
            have c1 : wr.cell? ⟨X, 1, none⟩ = some (.string (xN y)) := st.x.cell (i := 1) rfl
            have hown' := World.ownsRow.alloc st.own (.cells #[.int .u32 (sIno y), .string (xN y)] 33)
            obtain ⟨i0, hi, hz0, hz1, hz2⟩ := info_parts info_slot'
            have hblt := st.b.lt
            have hnews := slotNews wr (sIno y) (xN y)
            have hone := slotOne (sIno y) (xN y)
            clear hal
            go_wp2_with (first | (refine wpList_append_own _ rfl _ _ 24 rfl (w.heap.size + 1) 33 i0 (.agg #[.int .u32 0, .string ByteArray.empty]) 2 24 Try.underlying24 hi hz0 hz1 hz2 rfl (by decide) _ j _ rfl hown' ⟨wr.heap.size, 0, none⟩ 1 1 [.int .u32 (sIno y), .string (xN y)] rfl rfl hnews hone (by unfold maxLen; omega) (by omega) (by simp; omega) ?_))
            intro v' w7 hown7 hg7 _
            have hob : ∀ q, (Value.slice a j cap).ownBlock = some q → w.heap.size + 1 ≤ q := fun q hq => (World.ownsRow.lt hown' q hq).1
            rw [show Sc (dI z) (dM z) j ++ [.int .u32 (sIno y), .string (xN y)] = Sc (dI z) (dM z) (j + 1) by unfold Sc; rw [HZK.out.1, HZK.out.2]; cases j <;> rfl] at hown7
            obtain ⟨a', cap', hv'⟩ := own_slice hown7
            subst hv'
            have st7 : RlS w z (j + 1) a' cap' w7 := ⟨(hg7.block _ (st.b.alloc _).lt (fun e => by have := hob _ e.symm; omega)).trans (st.b.alloc _), hown7, (st.bel.alloc st.bel.size _).grown hg7 (st.bel.alloc st.bel.size _).size (fun q e => by have := hob q e; omega)⟩
            clear st hown' hown7 hg7 hbs c0 c1 hnews hone hob
            go_wp2_with fail
            go_roundw
            case rel => first | exact ⟨j + 1, a', cap', by omega, by go_num, rfl, HRD1, st7⟩ | ((repeat apply Exists.intro); exact ⟨⟨j + 1, a', cap', by omega, by go_num, rfl, HRD1, st7⟩, rfl⟩)
            case measure => simp [intOf]; omega
        --END B
    · obtain rfl : k = 8 := by omega
      have fin : Hid (RListRead w z (.returned (.tuple #[.slice a 8 cap, .int .i64 0])) wr) := ⟨st.bel, .inr ⟨HRD.out, a, cap, rfl, st.own⟩⟩
      go_wp2_with fail
      go_ret2
      exact fin.out
end Go.Proofs.Ytmghpmbjimdegaa
