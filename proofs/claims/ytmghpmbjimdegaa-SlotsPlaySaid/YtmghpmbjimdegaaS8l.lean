/- quernlaw08.holds. -/
import Derived.Test.YtmghpmbjimdegaaS8k
import Derived.Test.YtmghpmbjimdegaaR8c
namespace Go.Proofs.Ytmghpmbjimdegaa
open Go.RowKit
set_option linter.unusedVariables false

def EnSeg (w : World) (b off n : Nat) (nm : Nat → ByteArray) (iv : Nat → Int) : Prop := ∀ i, i < n → w.cell? ⟨b, off + i * 2, none⟩ = some (.string (nm i)) ∧ w.cell? ⟨b, off + i * 2 + 1, none⟩ = some (.int .u32 (iv i))
def EnRow (w : World) (a : Option Addr) (n : Nat) (nm : Nat → ByteArray) (iv : Nat → Int) : Prop := n = 0 ∨ ∃ b off, a = some ⟨b, off, none⟩ ∧ EnSeg w b off n nm iv
theorem EnSeg.below {w w' : World} {b off n : Nat} {nm : Nat → ByteArray} {iv : Nat → Int} (h : EnSeg w b off n nm iv) {B : Nat} (hb : Below B w w') (hB : b < B) : EnSeg w' b off n nm iv :=
  fun i hi => ⟨(hb.cell (p := ⟨b, off + i * 2, none⟩) hB).trans (h i hi).1, (hb.cell (p := ⟨b, off + i * 2 + 1, none⟩) hB).trans (h i hi).2⟩
theorem EnSeg.lt {w : World} {b off n : Nat} {nm : Nat → ByteArray} {iv : Nat → Int} (h : EnSeg w b off n nm iv) (hn : 0 < n) : b < w.heap.size := World.block_lt_of_cell? w _ (h 0 hn).1
theorem EnRow.below {w w' : World} {a : Option Addr} {n : Nat} {nm : Nat → ByteArray} {iv : Nat → Int} (h : EnRow w a n nm iv) (hb : Below w.heap.size w w') : EnRow w' a n nm iv := by
  by_cases h0 : n = 0
  · exact .inl h0
  rcases h with h | ⟨b, off, rfl, h⟩
  · exact .inl h
  · exact .inr ⟨b, off, rfl, h.below hb (h.lt (by omega))⟩
/-- the block, the entries, and the slots that are told -/
structure HoS (w : World) (z : Nat → Int) (a : Option Addr) (m : Nat) (nm : Nat → ByteArray) (iv : Nat → Int) (g : Nat) (W : World) : Prop where
  b : Blk W w.heap.size 23 256 z
  e : EnRow W a m nm iv
  s : At W g 63 (Sc (dI z) (dM z) 8).toArray
  bel : Below w.heap.size w W
theorem HoS.below {w : World} {z : Nat → Int} {a : Option Addr} {m : Nat} {nm : Nat → ByteArray} {iv : Nat → Int} {g : Nat} {W W' : World} (h : HoS w z a m nm iv g W) (hb : Below W.heap.size W W') : HoS w z a m nm iv g W' :=
  ⟨h.b.below hb h.b.lt, h.e.below hb, h.s.below hb h.s.lt, h.bel.trans (hb.mono h.bel.size)⟩
theorem HoS.drew {w : World} {z : Nat → Int} {a : Option Addr} {m : Nat} {nm : Nat → ByteArray} {iv : Nat → Int} {g : Nat} {W : World} (h : HoS w z a m nm iv g W) : HoS w z a m nm iv g W.drew := ⟨h.b, h.e, h.s, h.bel.drew⟩
set_option maxRecDepth 100000 in
set_option maxHeartbeats 4000000 in
theorem holds_any (z : Nat → Int) (a : Option Addr) (m cap : Nat) (nm : Nat → ByteArray) (iv : Nat → Int) (hp : Play z m nm iv) (w : World) (he : EnRow w a m nm iv) :
    Calls Try.prog 22 #[bval z, .slice a m cap] w fun e w' => e = .returned (.bool true) ∧ Below w.heap.size w w' := by
  have hz := hp.byt
  have HP := Lib.hid hp
  have hm8 := hp.le
  have HS := Lib.hid (B1.new w z)
  have HE := Lib.hid he
  clear hp he
  go_enter Try.func22, Try.ntmps22
  have st0 := HS.out
  have hB := st0.b
  have he0 : EnRow (w.alloc (.cells (Ks .u8 256 z).toArray 23)) a m nm iv := HE.out.below ((Below.refl _ _).alloc (Nat.le_refl _) _)
  clear HS HE
  go_wp2_with (first | (refine wp_loadBlkG rfl _ rfl _ _ rfl hB ?_))
  clear hB
  generalize w.alloc (.cells (Ks .u8 256 z).toArray 23) = w0 at *
  refine (list_any z hz _).mono ?_
  rintro e w1 ⟨hb1, hlr⟩
  rcases hlr with ⟨hd, rfl⟩ | ⟨hd, g, hg, rfl, hA⟩
  · rw [HP.out.dir] at hd; cases hd
  have st1 : HoS w z a m nm iv g w1 := ⟨st0.b.below hb1 st0.b.lt, he0.below hb1, hA, st0.bel.trans (hb1.mono st0.bel.size)⟩
  clear st0 hb1 he0 hA hd hg
  go_wp2_with fail
  go_loopw [7, 8] (fun v u wr => ∃ k : Nat, k ≤ 8 ∧ v = .int .i64 (cntB (useB z) k : Int) ∧ u = .int .i64 (k : Int) ∧ HoS w z a m nm iv g wr) (fun _ u _ => 8 - (intOf u).toNat)
  case atStart => exact ⟨0, by omega, rfl, rfl, st1⟩
  case round =>
    clear st1
    obtain ⟨k, hk, rfl, rfl, st⟩ := hrel
    have hcl := cntB_le (useB z) k
    by_cases hlt : k < 8
    · have l0 : (0 : Int) ≤ (k : Int) := by omega
      have l1 : (k : Int) < 8 := by omega
      have c0 : wr.cell? ⟨g, k * 2, none⟩ = some (.int .u32 (dI z k)) := by have := (st.s.slots k hlt).1; rwa [Nat.zero_add] at this
      have HC : Hid (cntB (useB z) (k + 1) = cntB (useB z) k + if useB z k then 1 else 0) := rfl
      obtain ⟨hd0, hd1⟩ := dI_ge hz k
      by_cases h0 : dI z k = 0
      · have HC1 : Hid (cntB (useB z) (k + 1) = cntB (useB z) k) := by show _ = _; rw [HC.out, show useB z k = false by unfold useB; rw [h0]; rfl]; rfl
        have q0 : ¬ 0 < dI z k := by omega
        go_wp2_with fail
        go_roundw
        case rel => first | exact ⟨k + 1, by omega, by rw [HC1.out], by go_num, st⟩ | ((repeat apply Exists.intro); exact ⟨⟨k + 1, by omega, by rw [HC1.out], by go_num, st⟩, rfl⟩)
        case measure => simp [intOf]; omega
      · have HC1 : Hid (cntB (useB z) (k + 1) = cntB (useB z) k + 1) := by show _ = _; rw [HC.out, show useB z k = true by unfold useB; simpa using h0]; rfl
        have q0 : 0 < dI z k := by omega
        generalize cntB (useB z) k = c at *
        go_wp2_with fail
        go_roundw
        case rel => first | exact ⟨k + 1, by omega, by rw [HC1.out]; go_num, by go_num, st⟩ | ((repeat apply Exists.intro); exact ⟨⟨k + 1, by omega, by rw [HC1.out]; go_num, by go_num, st⟩, rfl⟩)
        case measure => simp [intOf]; omega
    · obtain rfl : k = 8 := by omega
      rw [HP.out.cnt]
      clear hcl
      go_wp2_with fail
      go_loopw [9] (fun u wr => ∃ j : Nat, j ≤ m ∧ u = .int .i64 (j : Int) ∧ HoS w z a m nm iv g wr) (fun u _ => m - (intOf u).toNat)
      case atStart => exact ⟨0, by omega, rfl, st⟩
      case round =>
        clear st
        obtain ⟨j, hj, rfl, st⟩ := hrel
        by_cases hlt2 : j < m
        · have l0 : (0 : Int) ≤ (j : Int) := by omega
          have l1 : (j : Int) < (m : Int) := by omega
          obtain ⟨q, hq, f1, f2, g1, g2⟩ := HP.out.find hlt2
          obtain ⟨lb, lo, hla⟩ : ∃ b off, a = some ⟨b, off, none⟩ := by
            rcases st.e with h | ⟨b, off, h, _⟩
            · omega
            · exact ⟨b, off, h⟩
          subst hla
          have HSG : Hid (∀ W, HoS w z (some ⟨lb, lo, none⟩) m nm iv g W → EnSeg W lb lo m nm iv) := fun W h => by
            rcases h.e with h | ⟨b, off, h, hs⟩
            · omega
            · injection h with h; injection h with h1 h2; subst h1 h2; exact hs
          have hc0 : ∀ x : InW (HoS w z (some ⟨lb, lo, none⟩) m nm iv g), x.W.cell? ⟨lb, lo + j * 2, none⟩ = some (.string (nm j)) := fun x => (HSG.out x.W x.h j hlt2).1
          have hc1 : ∀ x : InW (HoS w z (some ⟨lb, lo, none⟩) m nm iv g), x.W.cell? ⟨lb, lo + j * 2 + 1, none⟩ = some (.int .u32 (iv j)) := fun x => (HSG.out x.W x.h j hlt2).2
          have hB : Hid (∀ W, HoS w z (some ⟨lb, lo, none⟩) m nm iv g W → W.rangeAt w.heap.size 0 (Ks .u8 256 z)) := fun W h => h.b.range
          have HFC : Hid (∀ W, HoS w z (some ⟨lb, lo, none⟩) m nm iv g W → Calls Try.prog 13 #[bval z, .string (nm j)] W fun e w' => e = .returned (.tuple #[.int .i64 (q : Int), .int .u32 (iv j)]) ∧ HoS w z (some ⟨lb, lo, none⟩) m nm iv g w') := fun W hW => (find_any z hz (nm j) W).mono fun e w' h => ⟨by rw [h.1, f1, f2], hW.below h.2⟩
          clear f1 f2
          go_wp2_with fail
          refine wp_region_S (HoS w z (some ⟨lb, lo, none⟩) m nm iv g) (by kernel_rfl) (by kernel_rfl) st.drew ?_
          clear st
          intro hne
          refine q_load rfl 23 _ rfl _ _ rfl _ _ hB.out Try.underlying23 rfl (by rw [Ks_length]; exact info_block) ?_
          refine wpQuiet_frame (by simp only [Act.put, List.setIfInBounds_toArray, List.set_cons_succ, List.set_cons_zero]; exact rfl) ?_
          repeat (first | go_big_quiet_skip | (go_big_quiet_want; go_big_quiet_op; go_big_quiet_on))
          go_big_quiet_want
          go_big_quiet_op
          refine ⟨_, fun s => q_call s HFC.out, ?_⟩
          go_big_quiet_on
          repeat (first | go_big_quiet_skip | (go_big_quiet_want; go_big_quiet_op; go_big_quiet_on))
          refine wpQuiet_nil ?_
          intro w7 h7
          have st7 := h7.out
          clear h7 hne hB
          have hs0 : ∀ x : InW (HoS w z (some ⟨lb, lo, none⟩) m nm iv g), x.W.cell? ⟨g, q * 2, none⟩ = some (.int .u32 (iv j)) := fun x => by have := (x.h.s.slots q hq).1; rwa [Nat.zero_add, g1] at this
          have hs1 : ∀ x : InW (HoS w z (some ⟨lb, lo, none⟩) m nm iv g), x.W.cell? ⟨g, q * 2 + 1, none⟩ = some (.string (nm j)) := fun x => by have := (x.h.s.slots q hq).2; rwa [Nat.zero_add, g2] at this
          have r0 : (0 : Int) ≤ (q : Int) := by omega
          have r2 : ¬ (q : Int) < 0 := by omega
          have r1 : (q : Int) < 8 := by omega
          have qa : (iv j != iv j) = false := by simp
          have qb : ((nm j).toList == (nm j).toList) = true := by simp
          have qc : ((nm j).toList != (nm j).toList) = false := by simp
          clear g1 g2
          go_wp2_with fail
          refine wp_region_S (HoS w z (some ⟨lb, lo, none⟩) m nm iv g) (by kernel_rfl) (by kernel_rfl) st7.drew ?_
          clear st7
          intro hne
          have r3 : decide ((q : Int) < 0) = false := decide_eq_false (by omega)
          repeat (first | go_big_quiet_skip | (go_big_quiet_want; go_big_quiet_op; go_big_quiet_on))
          refine wpQuiet_nil ?_
          intro w8 h8
          have st8 := h8.out
          clear h8 hne hc0 hc1 hs0 hs1
          go_wp2_with fail
          go_roundw
          case rel => first | exact ⟨j + 1, by omega, by go_num, st8⟩ | ((repeat apply Exists.intro); exact ⟨⟨j + 1, by omega, by go_num, st8⟩, rfl⟩)
          case measure => simp [intOf]; omega
        · obtain rfl : j = m := by omega
          go_wp2_with fail
          go_ret
          exact ⟨ret_bool (by simp), st.bel⟩
end Go.Proofs.Ytmghpmbjimdegaa
