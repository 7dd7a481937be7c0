/- slots.named, slots.free: slots in memory. -/
import Derived.Test.YtmghpmbjimdegaaS8b
import Derived.WalkMore
import Derived.Deep.MidRow
namespace Go.Proofs.Ytmghpmbjimdegaa
open Go.RowKit
set_option linter.unusedVariables false

/-- n slots stand at a place -/
def SlSeg (w : World) (b off n : Nat) (I : Nat → Int) (N : Nat → ByteArray) : Prop := ∀ i, i < n → w.cell? ⟨b, off + i * 2, none⟩ = some (.int .u32 (I i)) ∧ w.cell? ⟨b, off + i * 2 + 1, none⟩ = some (.string (N i))
def SlRow (w : World) (a : Option Addr) (n : Nat) (I : Nat → Int) (N : Nat → ByteArray) : Prop := n = 0 ∨ ∃ b off, a = some ⟨b, off, none⟩ ∧ SlSeg w b off n I N
theorem SlSeg.below {w w' : World} {b off n : Nat} {I : Nat → Int} {N : Nat → ByteArray} (h : SlSeg w b off n I N) {B : Nat} (hb : Below B w w') (hB : b < B) : SlSeg w' b off n I N :=
  fun i hi => ⟨(hb.cell (p := ⟨b, off + i * 2, none⟩) hB).trans (h i hi).1, (hb.cell (p := ⟨b, off + i * 2 + 1, none⟩) hB).trans (h i hi).2⟩
theorem SlSeg.lt {w : World} {b off n : Nat} {I : Nat → Int} {N : Nat → ByteArray} (h : SlSeg w b off n I N) (hn : 0 < n) : b < w.heap.size := World.block_lt_of_cell? w _ (h 0 hn).1
theorem SlRow.below {w w' : World} {a : Option Addr} {n : Nat} {I : Nat → Int} {N : Nat → ByteArray} (h : SlRow w a n I N) (hb : Below w.heap.size w w') : SlRow w' a n I N := by
  rcases h with h | ⟨b, off, rfl, h⟩
  · exact .inl h
  · by_cases h0 : n = 0
    · exact .inl h0
    · exact .inr ⟨b, off, rfl, h.below hb (h.lt (by omega))⟩
theorem SlSeg.range {w : World} {b off n : Nat} {I : Nat → Int} {N : Nat → ByteArray} (h : SlSeg w b off n I N) (i : Nat) (hi : i < n) : w.rangeAt b (off + i * 2) [.int .u32 (I i), .string (N i)] := by
  intro j v hj
  rcases j with _ | _ | j
  · cases hj; exact (h i hi).1
  · cases hj; exact (h i hi).2
  · cases hj

/-- has slot i this name? -/
def hitB (I : Nat → Int) (N : Nat → ByteArray) (s : ByteArray) (i : Nat) : Bool := I i != 0 && (N i).data.toList == s.data.toList
/-- the first of n for which it holds, -1: none -/
def firstB (p : Nat → Bool) : Nat → Int
  | 0 => -1
  | n + 1 => if firstB p n = -1 then (if p n then (n : Int) else -1) else firstB p n
theorem firstB_none {p : Nat → Bool} {n : Nat} (h : ∀ i, i < n → p i = false) : firstB p n = -1 := by
  induction n with
  | zero => rfl
  | succ n ih => unfold firstB; rw [ih fun i hi => h i (by omega), h n (by omega)]; rfl
theorem firstB_hit {p : Nat → Bool} {n k : Nat} (hk : k < n) (h : ∀ i, i < k → p i = false) (hp : p k = true) : firstB p n = (k : Int) := by
  induction n with
  | zero => omega
  | succ n ih =>
    unfold firstB
    by_cases hkn : k < n
    · rw [ih hkn, if_neg (by omega)]
    · obtain rfl : k = n := by omega
      rw [firstB_none h, hp]; rfl
theorem firstB_cases (p : Nat → Bool) (n : Nat) : (firstB p n = -1 ∧ ∀ i, i < n → p i = false) ∨ ∃ k, k < n ∧ firstB p n = (k : Int) ∧ p k = true ∧ ∀ i, i < k → p i = false := by
  induction n with
  | zero => exact .inl ⟨rfl, fun i hi => by omega⟩
  | succ n ih =>
    rcases ih with ⟨h1, h2⟩ | ⟨k, hk, h1, h2, h3⟩
    · cases hp : p n with
      | false => exact .inl ⟨by unfold firstB; rw [h1, hp]; rfl, fun i hi => by
          by_cases e : i = n
          · rw [e]; exact hp
          · exact h2 i (by omega)⟩
      | true => exact .inr ⟨n, by omega, by unfold firstB; rw [h1, hp]; rfl, hp, h2⟩
    · exact .inr ⟨k, by omega, by unfold firstB; rw [h1, if_neg (by omega)], h2, h3⟩
theorem firstB_congr {p q : Nat → Bool} {n : Nat} (h : ∀ i, i < n → p i = q i) : firstB p n = firstB q n := by
  induction n with
  | zero => rfl
  | succ n ih => unfold firstB; rw [ih fun i hi => h i (by omega), h n (by omega)]

set_option maxRecDepth 100000 in
set_option maxHeartbeats 1000000 in
theorem named_any (a : Option Addr) (n cap : Nat) (I : Nat → Int) (N : Nat → ByteArray) (s : ByteArray) (hn : (n : Int) ≤ 9223372036854775807) (w : World) (hs : SlRow w a n I N) :
    Calls Try.prog 28 #[.slice a n cap, .string s] w fun e w' => e = .returned (.int .i64 (firstB (hitB I N s) n)) ∧ Below w.heap.size w w' := by
  have HS := Lib.hid hs
  clear hs
  go_enter Try.func28, Try.ntmps28
  go_wp2_with fail
  go_step3
  go_wp2_with fail
  go_step3
  go_wp2_with fail
  have hal := zero_slot
  go_loopw [5, 10] (fun v u wr => ∃ k : Nat, k ≤ n ∧ v = .int .i64 (-1) ∧ u = .int .i64 (k : Int) ∧ Hid (∀ i, i < k → hitB I N s i = false) ∧ Below w.heap.size w wr) (fun _ u _ => n - (intOf u).toNat)
  case atStart => exact ⟨0, by omega, rfl, rfl, fun i hi => by omega, Below.refl _ _⟩
  case round =>
    obtain ⟨k, hk, rfl, rfl, HNO, hb⟩ := hrel
    by_cases hlt : k < n
    · obtain ⟨b, off, rfl, hseg⟩ : ∃ b off, a = some ⟨b, off, none⟩ ∧ SlSeg w b off n I N := by
        rcases HS.out with h | h
        · omega
        · exact h
      have hr := (hseg.below hb (hseg.lt (by omega))).range k hlt
      have hA0 := At.new wr 33 #[.int .u32 0, .string ByteArray.empty]
      go_wp2_with (first | (refine wpList_load_mid rfl 33 _ rfl _ _ rfl _ _ hr Try.underlying33 rfl (by kernel_rfl) ?_) | (refine wp_storeAt rfl 33 _ _ rfl _ #[.int .u32 (I k), .string (N k)] _ rfl rfl hA0 (info_slot _ _) rfl (one_slot _ _) ?_))
      intro w2 hA2 ho2
      have hb2 : Below w.heap.size w w2 := (hb.alloc hb.size _).trans (ho2.below hb.size)
      have c0 := hA2.cell (i := 0) rfl
      have c1 := hA2.cell (i := 1) rfl
      clear hr hA0 hb ho2
      have HH : Hid (hitB I N s k = (I k != 0 && (N k).toList == s.toList)) := by show _ = _; unfold hitB; rw [ByteArray.toList_eq, ByteArray.toList_eq]
      have c0' : w2.cell? ⟨wr.heap.size, 0, none⟩ = some (.int .u32 (I k)) := c0
      have c1' : w2.cell? ⟨wr.heap.size, 1, none⟩ = some (.string (N k)) := c1
      clear c0 c1
      have hnx : Hid (hitB I N s k = false → ∀ i, i < k + 1 → hitB I N s i = false) := fun h i hi => by
        by_cases e : i = k
        · rw [e]; exact h
        · exact HNO.out i (by omega)
      cases h1 : (I k != 0) with
      | false =>
        have HN1 : Hid (∀ i, i < k + 1 → hitB I N s i = false) := hnx.out (by rw [HH.out, h1]; rfl)
        clear hnx HH
        go_wp2_with fail
        go_roundw
        case rel => first | exact ⟨k + 1, by omega, rfl, by go_num, HN1, hb2⟩ | ((repeat apply Exists.intro); exact ⟨⟨k + 1, by omega, rfl, by go_num, HN1, hb2⟩, rfl⟩)
        case measure => simp [intOf]; omega
      | true =>
      cases h2 : ((N k).toList == s.toList) with
      | false =>
        have HN1 : Hid (∀ i, i < k + 1 → hitB I N s i = false) := hnx.out (by rw [HH.out, h1, h2]; rfl)
        clear hnx HH
        go_wp2_with fail
        go_roundw
        case rel => first | exact ⟨k + 1, by omega, rfl, by go_num, HN1, hb2⟩ | ((repeat apply Exists.intro); exact ⟨⟨k + 1, by omega, rfl, by go_num, HN1, hb2⟩, rfl⟩)
        case measure => simp [intOf]; omega
      | true =>
        have HF : Hid (firstB (hitB I N s) n = (k : Int)) := firstB_hit hlt HNO.out (by rw [HH.out, h1, h2]; rfl)
        clear hnx HH
        go_wp2_with fail
        try rw [Exit.noGoto_ret]
        go_ret
        exact ⟨by rw [HF.out]; rfl, hb2⟩
    · obtain rfl : k = n := by omega
      have HF : Hid (firstB (hitB I N s) k = -1) := firstB_none HNO.out
      go_wp2_with fail
      try rw [Exit.noGoto_ret]
      go_ret
      exact ⟨by rw [HF.out]; rfl, hb⟩

set_option maxRecDepth 100000 in
set_option maxHeartbeats 1000000 in
theorem free_any (a : Option Addr) (n cap : Nat) (I : Nat → Int) (N : Nat → ByteArray) (hn : (n : Int) ≤ 9223372036854775807) (w : World) (hs : SlRow w a n I N) :
    Calls Try.prog 30 #[.slice a n cap] w fun e w' => e = .returned (.int .i64 (firstB (fun i => I i == 0) n)) ∧ Below w.heap.size w w' := by
  have HS := Lib.hid hs
  clear hs
  go_enter Try.func30, Try.ntmps30
  go_wp2_with fail
  have hal := zero_slot
  go_loopw [7] (fun u wr => ∃ k : Nat, k ≤ n ∧ u = .int .i64 (k : Int) ∧ Hid (∀ i, i < k → (I i == 0) = false) ∧ Below w.heap.size w wr) (fun u _ => n - (intOf u).toNat)
  case atStart => exact ⟨0, by omega, rfl, fun i hi => by omega, Below.refl _ _⟩
  case round =>
    obtain ⟨k, hk, rfl, HNO, hb⟩ := hrel
    by_cases hlt : k < n
    · obtain ⟨b, off, rfl, hseg⟩ : ∃ b off, a = some ⟨b, off, none⟩ ∧ SlSeg w b off n I N := by
        rcases HS.out with h | h
        · omega
        · exact h
      have hr := (hseg.below hb (hseg.lt (by omega))).range k hlt
      have hA0 := At.new wr 33 #[.int .u32 0, .string ByteArray.empty]
      go_wp2_with (first | (refine wpList_load_mid rfl 33 _ rfl _ _ rfl _ _ hr Try.underlying33 rfl (by kernel_rfl) ?_) | (refine wp_storeAt rfl 33 _ _ rfl _ #[.int .u32 (I k), .string (N k)] _ rfl rfl hA0 (info_slot _ _) rfl (one_slot _ _) ?_))
      intro w2 hA2 ho2
      have hb2 : Below w.heap.size w w2 := (hb.alloc hb.size _).trans (ho2.below hb.size)
      have c0 : w2.cell? ⟨wr.heap.size, 0, none⟩ = some (.int .u32 (I k)) := hA2.cell (i := 0) rfl
      clear hr hA0 hb ho2
      cases h1 : (I k == 0) with
      | false =>
        have HN1 : Hid (∀ i, i < k + 1 → (I i == 0) = false) := fun i hi => by
          by_cases e : i = k
          · rw [e]; exact h1
          · exact HNO.out i (by omega)
        go_wp2_with fail
        go_roundw
        case rel => first | exact ⟨k + 1, by omega, by go_num, HN1, hb2⟩ | ((repeat apply Exists.intro); exact ⟨⟨k + 1, by omega, by go_num, HN1, hb2⟩, rfl⟩)
        case measure => simp [intOf]; omega
      | true =>
        have HF : Hid (firstB (fun i => I i == 0) n = (k : Int)) := firstB_hit hlt HNO.out h1
        go_wp2_with fail
        go_ret
        exact ⟨by rw [HF.out]; rfl, hb2⟩
    · obtain rfl : k = n := by omega
      have HF : Hid (firstB (fun i => I i == 0) k = -1) := firstB_none HNO.out
      go_wp2_with fail
      go_ret
      exact ⟨by rw [HF.out]; rfl, hb⟩
end Go.Proofs.Ytmghpmbjimdegaa
