/- slots.cut, slots.slot: the bytes of a slot. -/
import Derived.Test.YtmghpmbjimdegaaS8a
import Derived.Test.YtmghpmbjimdegaaAt
import Derived.Test.YtmghpmbjimdegaaSlice
import Derived.Laws.BytesArg
namespace Go.Proofs.Ytmghpmbjimdegaa
open Go.RowKit
set_option linter.unusedVariables false

/-- the bytes of slot i -/
def sl (z : Nat → Int) (i : Nat) : Nat → Int := fun j => z (32 * i + j)
def sIno (y : Nat → Int) : Int := g32 y 0
def sLen (y : Nat → Int) : Nat := (y 4).toNat
def sNm (y : Nat → Int) : ByteArray := strOfNums ((List.range (sLen y)).map fun j => y (5 + j))
/-- are they right? -/
def sOk (y : Nat → Int) : Bool := if sIno y = 0 then allZ y 32 else decide (sLen y ≤ 27) && (allZ (fun j => y (5 + sLen y + j)) (27 - sLen y) && mayB (sNm y))
def slI (y : Nat → Int) : Int := if sOk y then sIno y else 0
def slN (y : Nat → Int) : ByteArray := if sOk y && sIno y != 0 then sNm y else ByteArray.empty
abbrev sv (i : Int) (s : ByteArray) : Value := .agg #[.int .u32 i, .string s]

theorem zero_slot (W : World) : (zeroValue 33).run Try.prog W = .ok (sv 0 ByteArray.empty) W := by kernel_rfl
theorem info_slot (i : Int) (s : ByteArray) : (Try.prog.info? 33).map (·.size) = some (#[Value.int .u32 i, .string s] : Array Value).size := by kernel_rfl
theorem one_slot (i : Int) (s : ByteArray) : (#[Value.int .u32 i, .string s] : Array Value).all (·.oneCell') = true := by simp [Value.oneCell']
theorem results_slot {fn : Func} {p u : Tmp} (h : fn.results = #[.cell p 33, .tmp u]) (tmps : Array Value) (w : World) (g : Nat) (i : Int) (s : ByteArray)
    (hp : tmps.getD p undef = .pointer (some ⟨g, 0, none⟩)) (hg : At w g 33 #[.int .u32 i, .string s]) : (results fn tmps).run Try.prog w = .ok (.tuple #[sv i s, tmps.getD u undef]) w :=
  results_row_tmp h tmps w g 33 _ (0, 0) _ hp hg Try.underlying33 rfl (info_slot _ _)

set_option maxRecDepth 100000 in
theorem cut_any (g i : Nat) (hi : i < 8) (w : World) : Calls Try.prog 31 #[.pointer (some ⟨g, 0, none⟩), .int .i64 (i : Int)] w fun e w' => e = .returned (.slice (some ⟨g, 32 * i, none⟩) 32 32) ∧ w = w' := by
  have hsl : ∀ W, (Instr.sliceAt 23 (.pointer (some ⟨g, 0, none⟩)) (some (.int .i64 (32 * (i : Int)))) (some (.int .i64 (32 * ((i : Int) + 1)))) (some (.int .i64 (32 * ((i : Int) + 1))))).run Try.prog W = .ok (.slice (some ⟨g, 32 * i, none⟩) 32 32) W := fun W => by
    have hal : Try.prog.arrayLen 23 = 256 := by kernel_rfl
    have hsz : ∀ W, (sizeOf (Try.prog.elem 23)).run Try.prog W = .ok 1 W := fun W => by kernel_rfl
    rw [run_sliceAt_array_lhm W 23 _ (by kernel_rfl) .i64 .i64 .i64 _ _ _ (by omega) (by omega) (by omega) (by rw [hal]; omega), hsz]
    simp only [Result.andThen, slicedAt, Nat.mul_one]
    rw [show (32 * (i : Int)).toNat = 32 * i by omega, show (32 * ((i : Int) + 1)).toNat = 32 * i + 32 by omega, if_neg (by omega), addr_add]
    simp only [Nat.zero_add, show 32 * i + 32 - 32 * i = 32 by omega]
  go_enter Try.func31, Try.ntmps31
  go_wp2_with fail
  go_ret
  exact ⟨rfl, rfl⟩

set_option maxRecDepth 100000 in
set_option maxHeartbeats 1000000 in
theorem slot_any (g i : Nat) (hi : i < 8) {T : TypeId} (z : Nat → Int) (hz : Byt z) (w : World) (hB : Blk w g T 256 z) :
    Calls Try.prog 35 #[.slice (some ⟨g, 32 * i, none⟩) 32 32] w fun e w' => e = .returned (.tuple #[sv (slI (sl z i)) (slN (sl z i)), .bool (sOk (sl z i))]) ∧ Below w.heap.size w w' := by
  have hal := zero_slot
  have hB0 : Hid (Blk (w.alloc (.cells #[.int .u32 0, .string ByteArray.empty] 33)) g T 256 z) := hB.alloc _
  have hA0 : Hid (At (w.alloc (.cells #[.int .u32 0, .string ByteArray.empty] 33)) w.heap.size 33 #[.int .u32 0, .string ByteArray.empty]) := At.new _ _ _
  have hL0 : Hid (Below w.heap.size w (w.alloc (.cells #[.int .u32 0, .string ByteArray.empty] 33))) := (Below.refl _ _).alloc (Nat.le_refl _) _
  have hglt := hB.lt
  clear hB
  generalize hy : sl z i = y
  have hseg : Hid (Seg (w.alloc (.cells #[.int .u32 0, .string ByteArray.empty] 33)) g (32 * i) 32 y) := by
    have := hB0.out.seg.sub (32 * i) 32 (by omega)
    rw [Nat.zero_add] at this
    rw [← hy]; exact this
  have hyb : Byt y := by rw [← hy]; exact fun j => hz _
  clear hy hB0
  go_enter Try.func35, Try.ntmps35
  go_wp2_with fail
  have hget := get32_yes g (32 * i) 32 32 0 y _ (by decide) (by decide) (by decide) hseg.out hyb
  refine (hget.mono (R' := fun e w' => e = .returned (.tuple #[.int .u32 (sIno y), .bool true]) ∧ Seg w' g (32 * i) 32 y ∧ At w' w.heap.size 33 #[.int .u32 0, .string ByteArray.empty] ∧ Below w.heap.size w w') (fun e w' h => ⟨h.1, h.2 ▸ hseg.out, h.2 ▸ hA0.out, h.2 ▸ hL0.out⟩)).mono ?_
  rintro e w1 ⟨rfl, hs, hA, hL⟩
  clear hseg hA0 hL0 hget hal
  have hI := g32_bd hyb 0
  by_cases h0 : sIno y = 0
  · have HO : Hid (sOk y = allZ y 32) := by show _ = _; unfold sOk; rw [if_pos h0]
    have HI : Hid (sIno y = 0) := h0
    rw [h0]
    clear h0
    go_wp2_with fail
    refine (zero_any _ 32 32 y _ (by decide) (.inr ⟨_, _, rfl, hs⟩)).mono ?_
    rintro e w2 ⟨rfl, rfl⟩
    go_wp2_with (first | (refine wp_storeAt rfl 33 _ _ rfl _ _ _ rfl rfl hA (info_slot _ _) rfl (one_slot _ _) ?_))
    intro w2 hA2 ho2
    go_wp2_with fail
    exact bodyPost_ret (results_slot rfl _ _ w.heap.size _ _ rfl hA2) rfl ⟨by rw [slI, slN, HO.out, HI.out]; cases allZ y 32 <;> rfl, hL.trans (ho2.below (Nat.le_refl _))⟩
  have hlen : y 4 = (sLen y : Int) := by have := hyb 4; unfold sLen; omega
  have hlb : sLen y < 256 := by have := hyb 4; unfold sLen; omega
  have HO : Hid (sOk y = (decide (sLen y ≤ 27) && (allZ (fun j => y (5 + sLen y + j)) (27 - sLen y) && mayB (sNm y)))) := by show _ = _; unfold sOk; rw [if_neg h0]
  have HI : Hid (sIno y ≠ 0) := h0
  have q0 : (sIno y == 0) = false := by simpa using h0
  have c4 : w1.cell? ⟨g, 32 * i + 4, none⟩ = some (.int .u8 (sLen y : Int)) := by rw [← hlen]; exact hs 4 (by omega)
  clear h0 hlen
  have HNM : Hid (sNm y = strOfNums ((List.range (sLen y)).map fun j => y (5 + j))) := rfl
  generalize hn : sLen y = n at *
  by_cases h27 : n ≤ 27
  rotate_left
  · have HN : Hid (sOk y = false) := by show _ = _; rw [HO.out, decide_eq_false h27]; rfl
    have d1 : (32 : Int) < 5 + (n : Int) := by omega
    go_wp2_with (first | (refine wp_storeAt rfl 33 _ _ rfl _ _ _ rfl rfl hA (info_slot _ _) rfl (one_slot _ _) ?_))
    intro w2 hA2 ho2
    go_wp2_with fail
    exact bodyPost_ret (results_slot rfl _ _ w.heap.size _ _ rfl hA2) rfl ⟨by rw [slI, slN, HN.out]; rfl, hL.trans (ho2.below (Nat.le_refl _))⟩
  have d1 : ¬ (32 : Int) < 5 + (n : Int) := by omega
  have hrow : Row w1 (some ⟨g, 32 * i, none⟩) 32 y := .inr ⟨_, _, rfl, hs⟩
  have hsl := fun W => run_sl_low (some ⟨g, 32 * i, none⟩) 32 32 (5 + n) (5 + (n : Int)) (by omega) (by omega) W
  have hrs : Hid (Row w1 (slAt (some ⟨g, 32 * i, none⟩) (5 + n) 32) (32 - (5 + n)) (fun j => y (5 + n + j))) := hrow.slice (by omega) (by omega)
  clear hrow
  go_wp2_with fail
  refine (zero_any _ _ _ _ _ (by omega) (by exact hrs.out)).mono ?_
  rintro e w2 ⟨rfl, rfl⟩
  clear hsl hrs
  rw [show 32 - (5 + n) = 27 - n by omega]
  cases hzz : allZ (fun j => y (5 + n + j)) (27 - n) with
  | false =>
    have HN : Hid (sOk y = false) := by show _ = _; rw [HO.out, hzz]; simp
    clear hzz
    go_wp2_with (first | (refine wp_storeAt rfl 33 _ _ rfl _ _ _ rfl rfl hA (info_slot _ _) rfl (one_slot _ _) ?_))
    intro w2 hA2 ho2
    go_wp2_with fail
    exact bodyPost_ret (results_slot rfl _ _ w.heap.size _ _ rfl hA2) rfl ⟨by rw [slI, slN, HN.out]; rfl, hL.trans (ho2.below (Nat.le_refl _))⟩
  | true =>
  have HO2 : Hid (sOk y = mayB (sNm y)) := by show _ = _; rw [HO.out, hzz, decide_eq_true h27]; rfl
  clear hzz HO
  have hsl : ∀ W, (Instr.slice 58 (.slice (some ⟨g, 32 * i, none⟩) 32 32) (some (.int .i64 5)) (some (.int .i64 (5 + (n : Int)))) none).run Try.prog W = .ok (.slice (some ⟨g, 32 * i + 5, none⟩) n 27) W := fun W => by
    have hsz : ∀ W, (sizeOf 5).run Try.prog W = .ok 1 W := fun W => by kernel_rfl
    rw [run_slice_lh W 58 _ 32 32 (by kernel_rfl) .i64 .i64 5 (5 + (n : Int)) (by omega) (by omega) (by omega), show Try.prog.elem 58 = 5 from by kernel_rfl, hsz]
    simp only [Result.andThen, sliced, Nat.mul_one]
    rw [show (5 + (n : Int)).toNat = 5 + n by omega]
    simp [addr_add]
  have hcv : ∀ dst, Try.prog.underlying dst = some .string → (convert 58 dst (.slice (some ⟨g, 32 * i + 5, none⟩) n 27)).run Try.prog w1 = .ok (.string (sNm y)) w1 := by
    rw [HNM.out]
    exact run_convert_bytes_arg w1 58 5 Try.underlying58 Try.underlying5 g (32 * i + 5) n 27 _ (by simp) (fun j hj => by
      have := hs (5 + j) (by omega)
      rw [Nat.add_assoc, this]
      simp [List.getD, hj])
  have hcv1 := hcv 9 Try.underlying9
  have hnsz : (sNm y).size = n := by rw [HNM.out, strOfNums_size]; simp
  generalize hsn : sNm y = s at *
  have HSN : Hid (sNm y = s) := hsn
  clear hcv hsn
  go_wp2_with fail
  refine (mayName_any s (by omega) _).mono ?_
  rintro e w2 ⟨rfl, rfl⟩
  clear hsl hcv1
  cases hm : mayB s with
  | false =>
    have HN : Hid (sOk y = false) := by show _ = _; rw [HO2.out, hm]
    clear hm
    go_wp2_with (first | (refine wp_storeAt rfl 33 _ _ rfl _ _ _ rfl rfl hA (info_slot _ _) rfl (one_slot _ _) ?_))
    intro w2 hA2 ho2
    go_wp2_with fail
    exact bodyPost_ret (results_slot rfl _ _ w.heap.size _ _ rfl hA2) rfl ⟨by rw [slI, slN, HN.out]; rfl, hL.trans (ho2.below (Nat.le_refl _))⟩
  | true =>
  have HY : Hid (sOk y = true) := by show _ = _; rw [HO2.out, hm]
  have HQ := Lib.hid q0
  clear hm
  go_wp2_with (first | (refine wp_storeAt rfl 33 _ _ rfl _ _ _ rfl rfl hA (info_slot _ _) rfl (one_slot _ _) ?_))
  intro w2 hA2 ho2
  go_wp2_with fail
  exact bodyPost_ret (results_slot rfl _ _ w.heap.size _ _ rfl hA2) rfl ⟨by rw [slI, slN, HY.out, bne, HQ.out, HSN.out]; rfl, hL.trans (ho2.below (Nat.le_refl _))⟩
end Go.Proofs.Ytmghpmbjimdegaa
