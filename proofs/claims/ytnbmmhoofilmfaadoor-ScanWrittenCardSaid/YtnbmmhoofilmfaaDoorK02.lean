/- Texts of this claim, merged by a program (a claim may have 60 files): Nums, Ref1, NumsAny. -/
import Derived.Test.YtnbmmhoofilmfaaDoorRows
import Derived.Test.YtnbmmhoofilmfaaDoorK01
import Derived.WalkKit
import Derived.Outline
import Derived.Deep.QuietTactic
import Derived.BigQuiet
import Derived.IntWalk
/- Contracts of package nums and of quernref01: what each function returns, and what it leaves in memory. -/
namespace Go.Proofs.YtnbmmhoofilmfaaDoor
open Go.RowKit
set_option linter.unusedVariables false

theorem within_yes (n at' size : Int) (w : World) (hn : 0 ≤ n) (hl : n ≤ 9223372036854775807) (hs : 0 ≤ size) (h : 0 ≤ at' ∧ at' + size ≤ n) :
    Calls Tryd.prog 153 #[.int .i64 n, .int .i64 at', .int .i64 size] w fun e w' => e = .returned (.bool true) ∧ w = w' := by
  have h1 : at' ≤ n - size := by omega
  have h2 : size ≤ n := by omega
  obtain ⟨h, _⟩ := h
  go_enter Tryd.func153, Tryd.ntmps153
  go_wp2
  go_ret
  exact ⟨ret_bool (by simp), rfl⟩

theorem within_no (n at' size : Int) (w : World) (hn : 0 ≤ n) (hl : n ≤ 9223372036854775807) (hs : 0 ≤ size) (h : ¬ (0 ≤ at' ∧ at' + size ≤ n)) :
    Calls Tryd.prog 153 #[.int .i64 n, .int .i64 at', .int .i64 size] w fun e w' => e = .returned (.bool false) ∧ w = w' := by
  by_cases h0 : 0 ≤ at'
  · by_cases h2 : size ≤ n
    · have h1 : decide (at' ≤ n - size) = false := by simp; omega
      clear h
      go_enter Tryd.func153, Tryd.ntmps153
      go_wp2
      go_ret
      exact ⟨rfl, rfl⟩
    · clear h
      go_enter Tryd.func153, Tryd.ntmps153
      go_wp2
      go_ret
      exact ⟨rfl, rfl⟩
  · clear h
    go_enter Tryd.func153, Tryd.ntmps153
    go_wp2
    go_ret
    exact ⟨rfl, rfl⟩


set_option maxHeartbeats 1000000 in
theorem iget16_yes (b off len cap : Nat) (at' : Int) (z : Nat → Int) (w : World) (hl : (len : Int) ≤ 9223372036854775807) (h0 : 0 ≤ at') (h1 : at' + 2 ≤ len)
    (hs : Seg w b off len z) (hz : Byt z) :
    Calls Tryd.prog 174 #[.slice (some ⟨b, off, none⟩) len cap, .int .i64 at', .int .i64 2] w fun e w' => e = .returned (.tuple #[.int .u16 (g16 z at'.toNat), .bool true]) ∧ w = w' := by
  obtain ⟨i, rfl⟩ := Int.eq_ofNat_of_zero_le h0
  have c0 := hs (i) (by omega)
  have z0 := hz (i)
  have c1 := hs (i + 1) (by omega)
  have z1 := hz (i + 1)
  have e1 : bits BinOp.or IntKind.u16 0 (z (i + 1)) = z (i + 1) := by have := shl_or_u16 0 (z (i + 1)) (by omega) (by omega) (by omega) (by omega); simpa using this
  have e0 : bits BinOp.or IntKind.u16 ((z (i + 1)) * 256) (z i) = (z (i + 1)) * 256 + z i := shl_or_u16 _ _ (by omega) (by omega) (by omega) (by omega)
  have r : Hid ((z (i + 1)) * 256 + z i = g16 z ((i : Int)).toNat) := by show _ = _; unfold g16; rw [Int.toNat_natCast]; omega
  go_enter Tryd.func174, Tryd.ntmps174
  go_wp2_with (go_at_call 153; refine (within_yes _ _ _ _ (by omega) (by omega) (by omega) (by omega)).mono ?_; rintro e w' ⟨rfl, rfl⟩)
  refine wp_loop_rounds 3 ?_
  rw [rounds_succ]
  go_wp2
  rw [rounds_succ]
  go_wp2
  rw [rounds_succ]
  go_wp2
  go_ret2
  exact ⟨ret_ib r.out rfl, rfl⟩

theorem iget16_no (a : Option Addr) (len cap : Nat) (at' : Int) (w : World) (hl : (len : Int) ≤ 9223372036854775807) (h : ¬ (0 ≤ at' ∧ at' + 2 ≤ len)) :
    Calls Tryd.prog 174 #[.slice a len cap, .int .i64 at', .int .i64 2] w fun e w' => e = .returned (.tuple #[.int .u16 0, .bool false]) ∧ w = w' := by
  have H := Lib.hid h
  clear h
  go_enter Tryd.func174, Tryd.ntmps174
  go_wp2_with (go_at_call 153; refine (within_no _ _ _ _ (by omega) (by omega) (by omega) H.out).mono ?_; rintro e w' ⟨rfl, rfl⟩)
  go_ret2
  exact ⟨rfl, rfl⟩

theorem get16_yes (b off len cap : Nat) (at' : Int) (z : Nat → Int) (w : World) (hl : (len : Int) ≤ 9223372036854775807) (h0 : 0 ≤ at') (h1 : at' + 2 ≤ len)
    (hs : Seg w b off len z) (hz : Byt z) :
    Calls Tryd.prog 164 #[.slice (some ⟨b, off, none⟩) len cap, .int .i64 at'] w fun e w' => e = .returned (.tuple #[.int .u32 (g16 z at'.toNat), .bool true]) ∧ w = w' := by
  have hb := g16_bd hz at'.toNat
  go_enter Tryd.func164, Tryd.ntmps164
  go_wp2_with (go_at_call 174; refine (iget16_yes _ _ _ _ _ z _ hl h0 h1 hs hz).mono ?_; rintro e w' ⟨rfl, rfl⟩)
  go_ret2
  exact ⟨rfl, rfl⟩

theorem get16_no (a : Option Addr) (len cap : Nat) (at' : Int) (w : World) (hl : (len : Int) ≤ 9223372036854775807) (h : ¬ (0 ≤ at' ∧ at' + 2 ≤ len)) :
    Calls Tryd.prog 164 #[.slice a len cap, .int .i64 at'] w fun e w' => e = .returned (.tuple #[.int .u32 0, .bool false]) ∧ w = w' := by
  have H := Lib.hid h
  clear h
  go_enter Tryd.func164, Tryd.ntmps164
  go_wp2_with (go_at_call 174; refine (iget16_no _ _ _ _ _ hl H.out).mono ?_; rintro e w' ⟨rfl, rfl⟩)
  go_ret2
  exact ⟨rfl, rfl⟩


set_option maxHeartbeats 1000000 in
theorem iget32_yes (b off len cap : Nat) (at' : Int) (z : Nat → Int) (w : World) (hl : (len : Int) ≤ 9223372036854775807) (h0 : 0 ≤ at') (h1 : at' + 4 ≤ len)
    (hs : Seg w b off len z) (hz : Byt z) :
    Calls Tryd.prog 154 #[.slice (some ⟨b, off, none⟩) len cap, .int .i64 at', .int .i64 4] w fun e w' => e = .returned (.tuple #[.int .u32 (g32 z at'.toNat), .bool true]) ∧ w = w' := by
  obtain ⟨i, rfl⟩ := Int.eq_ofNat_of_zero_le h0
  have c0 := hs (i) (by omega)
  have z0 := hz (i)
  have c1 := hs (i + 1) (by omega)
  have z1 := hz (i + 1)
  have c2 := hs (i + 2) (by omega)
  have z2 := hz (i + 2)
  have c3 := hs (i + 3) (by omega)
  have z3 := hz (i + 3)
  have e3 : bits BinOp.or IntKind.u32 0 (z (i + 3)) = z (i + 3) := by have := shl_or_u32 0 (z (i + 3)) (by omega) (by omega) (by omega) (by omega); simpa using this
  have e2 : bits BinOp.or IntKind.u32 ((z (i + 3)) * 256) (z (i + 2)) = (z (i + 3)) * 256 + z (i + 2) := shl_or_u32 _ _ (by omega) (by omega) (by omega) (by omega)
  have e1 : bits BinOp.or IntKind.u32 (((z (i + 3)) * 256 + z (i + 2)) * 256) (z (i + 1)) = ((z (i + 3)) * 256 + z (i + 2)) * 256 + z (i + 1) := shl_or_u32 _ _ (by omega) (by omega) (by omega) (by omega)
  have e0 : bits BinOp.or IntKind.u32 ((((z (i + 3)) * 256 + z (i + 2)) * 256 + z (i + 1)) * 256) (z i) = (((z (i + 3)) * 256 + z (i + 2)) * 256 + z (i + 1)) * 256 + z i := shl_or_u32 _ _ (by omega) (by omega) (by omega) (by omega)
  have r : Hid ((((z (i + 3)) * 256 + z (i + 2)) * 256 + z (i + 1)) * 256 + z i = g32 z ((i : Int)).toNat) := by show _ = _; unfold g32; rw [Int.toNat_natCast]; omega
  go_enter Tryd.func154, Tryd.ntmps154
  go_wp2_with (go_at_call 153; refine (within_yes _ _ _ _ (by omega) (by omega) (by omega) (by omega)).mono ?_; rintro e w' ⟨rfl, rfl⟩)
  refine wp_loop_rounds 5 ?_
  rw [rounds_succ]
  go_wp2
  rw [rounds_succ]
  go_wp2
  rw [rounds_succ]
  go_wp2
  rw [rounds_succ]
  go_wp2
  rw [rounds_succ]
  go_wp2
  go_ret2
  exact ⟨ret_ib r.out rfl, rfl⟩

theorem iget32_no (a : Option Addr) (len cap : Nat) (at' : Int) (w : World) (hl : (len : Int) ≤ 9223372036854775807) (h : ¬ (0 ≤ at' ∧ at' + 4 ≤ len)) :
    Calls Tryd.prog 154 #[.slice a len cap, .int .i64 at', .int .i64 4] w fun e w' => e = .returned (.tuple #[.int .u32 0, .bool false]) ∧ w = w' := by
  have H := Lib.hid h
  clear h
  go_enter Tryd.func154, Tryd.ntmps154
  go_wp2_with (go_at_call 153; refine (within_no _ _ _ _ (by omega) (by omega) (by omega) H.out).mono ?_; rintro e w' ⟨rfl, rfl⟩)
  go_ret2
  exact ⟨rfl, rfl⟩

theorem get32_yes (b off len cap : Nat) (at' : Int) (z : Nat → Int) (w : World) (hl : (len : Int) ≤ 9223372036854775807) (h0 : 0 ≤ at') (h1 : at' + 4 ≤ len)
    (hs : Seg w b off len z) (hz : Byt z) :
    Calls Tryd.prog 135 #[.slice (some ⟨b, off, none⟩) len cap, .int .i64 at'] w fun e w' => e = .returned (.tuple #[.int .u32 (g32 z at'.toNat), .bool true]) ∧ w = w' := by
  have hb := g32_bd hz at'.toNat
  go_enter Tryd.func135, Tryd.ntmps135
  go_wp2_with (go_at_call 154; refine (iget32_yes _ _ _ _ _ z _ hl h0 h1 hs hz).mono ?_; rintro e w' ⟨rfl, rfl⟩)
  go_ret2
  exact ⟨rfl, rfl⟩

theorem get32_no (a : Option Addr) (len cap : Nat) (at' : Int) (w : World) (hl : (len : Int) ≤ 9223372036854775807) (h : ¬ (0 ≤ at' ∧ at' + 4 ≤ len)) :
    Calls Tryd.prog 135 #[.slice a len cap, .int .i64 at'] w fun e w' => e = .returned (.tuple #[.int .u32 0, .bool false]) ∧ w = w' := by
  have H := Lib.hid h
  clear h
  go_enter Tryd.func135, Tryd.ntmps135
  go_wp2_with (go_at_call 154; refine (iget32_no _ _ _ _ _ hl H.out).mono ?_; rintro e w' ⟨rfl, rfl⟩)
  go_ret2
  exact ⟨rfl, rfl⟩


set_option maxHeartbeats 1000000 in
theorem iput_yes (b off len cap : Nat) (at' : Int) (size : Nat) (v : Int) (z : Nat → Int) (w : World) (hl : (len : Int) ≤ 9223372036854775807) (h0 : 0 ≤ at') (h1 : at' + size ≤ len)
    (hv : 0 ≤ v) (hs : Seg w b off len z) (hf : Soft w b off len) :
    Calls Tryd.prog 127 #[.slice (some ⟨b, off, none⟩) len cap, .int .i64 at', .int .i64 size, .int .u32 v] w fun e w' => e = .returned (.bool true) ∧ Puts b (off + at'.toNat) size (byteOf v) w w' := by
  obtain ⟨i, rfl⟩ := Int.eq_ofNat_of_zero_le h0
  rw [Int.toNat_natCast]
  go_enter Tryd.func127, Tryd.ntmps127
  go_wp2_with (go_at_call 153; refine (within_yes _ _ _ _ (by omega) (by omega) (by omega) (by omega)).mono ?_; rintro e w' ⟨rfl, rfl⟩)
  go_loopw [3, 17] (fun u k wr => ∃ j : Nat, j ≤ size ∧ k = .int .i64 j ∧ (∃ x : Int, 0 ≤ x ∧ (∀ m, byteOf x m = byteOf v (j + m)) ∧ u = .int .u32 x) ∧ Puts b (off + i) j (byteOf v) w wr) (fun _ k _ => size - (intOf k).toNat)
  case atStart => exact ⟨0, by omega, rfl, ⟨v, hv, fun m => by rw [Nat.zero_add], rfl⟩, Puts.nil _ _ _ _⟩
  case round =>
    obtain ⟨j, hj, rfl, ⟨x, hx0, hx, rfl⟩, hp⟩ := hrel
    by_cases hlt : j < size
    · have hcw := hs (i + j) (by omega)
      have hc : wr.cell? ⟨b, off + (i + j), none⟩ = some (.int .u8 (z (i + j))) := by
        have := hp.cell (off + (i + j)); rw [if_neg (by omega)] at this; rw [this]; exact hcw
      have hfr : wr.frozen? ⟨b, off + (i + j), none⟩ = false := by rw [hp.only.frozen]; exact hf _ (by omega)
      have HCW := Lib.hid hcw
      have HX := Lib.hid hx
      clear hcw hx
      go_wp2
      go_roundw
      case rel =>
        refine ⟨j + 1, by omega, by go_num, ⟨x / 256, by omega, fun m => ?_, rfl⟩, ?_⟩
        · rw [← byteOf_succ, HX.out]; congr 1; omega
        · have := hp.snoc (u := .int .u8 (z (i + j))) (v := .int .u8 (x % 256)) (by rw [Nat.add_assoc]; exact HCW.out) (by have := HX.out 0; rw [byteOf_zero, Nat.add_zero] at this; rw [this])
          rw [Nat.add_assoc] at this
          exact this
      case measure => simp [intOf]; omega
    · obtain rfl : j = size := by omega
      go_wp2
      go_ret
      exact ⟨rfl, hp⟩

theorem iput_no (a : Option Addr) (len cap : Nat) (at' : Int) (size : Int) (v : Int) (w : World) (hl : (len : Int) ≤ 9223372036854775807) (hs : 0 ≤ size) (h : ¬ (0 ≤ at' ∧ at' + size ≤ len)) :
    Calls Tryd.prog 127 #[.slice a len cap, .int .i64 at', .int .i64 size, .int .u32 v] w fun e w' => e = .returned (.bool false) ∧ w = w' := by
  have H := Lib.hid h
  clear h
  go_enter Tryd.func127, Tryd.ntmps127
  go_wp2_with (go_at_call 153; refine (within_no _ _ _ _ (by omega) (by omega) (by omega) H.out).mono ?_; rintro e w' ⟨rfl, rfl⟩)
  go_ret
  exact ⟨rfl, rfl⟩

theorem iput2_yes (b off len cap : Nat) (at' : Int) (v : Int) (z : Nat → Int) (w : World) (hl : (len : Int) ≤ 9223372036854775807) (h0 : 0 ≤ at') (h1 : at' + 2 ≤ len)
    (hv : 0 ≤ v) (hs : Seg w b off len z) (hf : Soft w b off len) :
    Calls Tryd.prog 127 #[.slice (some ⟨b, off, none⟩) len cap, .int .i64 at', .int .i64 2, .int .u32 v] w fun e w' => e = .returned (.bool true) ∧ Puts b (off + at'.toNat) 2 (byteOf v) w w' :=
  iput_yes b off len cap at' 2 v z w hl h0 h1 hv hs hf
theorem iput4_yes (b off len cap : Nat) (at' : Int) (v : Int) (z : Nat → Int) (w : World) (hl : (len : Int) ≤ 9223372036854775807) (h0 : 0 ≤ at') (h1 : at' + 4 ≤ len)
    (hv : 0 ≤ v) (hs : Seg w b off len z) (hf : Soft w b off len) :
    Calls Tryd.prog 127 #[.slice (some ⟨b, off, none⟩) len cap, .int .i64 at', .int .i64 4, .int .u32 v] w fun e w' => e = .returned (.bool true) ∧ Puts b (off + at'.toNat) 4 (byteOf v) w w' :=
  iput_yes b off len cap at' 4 v z w hl h0 h1 hv hs hf

theorem put16_yes (b off len cap : Nat) (at' : Int) (v : Int) (z : Nat → Int) (w : World) (hl : (len : Int) ≤ 9223372036854775807) (h0 : 0 ≤ at') (h1 : at' + 2 ≤ len)
    (hv : 0 ≤ v) (hv2 : v ≤ 65535) (hs : Seg w b off len z) (hf : Soft w b off len) :
    Calls Tryd.prog 86 #[.slice (some ⟨b, off, none⟩) len cap, .int .i64 at', .int .u32 v] w fun e w' => e = .returned (.bool true) ∧ Puts b (off + at'.toNat) 2 (byteOf v) w w' := by
  go_enter Tryd.func86, Tryd.ntmps86
  go_wp2_with (go_at_call 127; refine (iput2_yes _ _ _ _ _ _ z _ hl h0 h1 hv hs hf).mono ?_; rintro e w' ⟨rfl, hp⟩)
  go_ret
  exact ⟨rfl, hp⟩
theorem put16_no (a : Option Addr) (len cap : Nat) (at' : Int) (v : Int) (w : World) (hl : (len : Int) ≤ 9223372036854775807) (h : ¬ (0 ≤ at' ∧ at' + 2 ≤ len ∧ v ≤ 65535)) :
    Calls Tryd.prog 86 #[.slice a len cap, .int .i64 at', .int .u32 v] w fun e w' => e = .returned (.bool false) ∧ w = w' := by
  by_cases hv : 65535 < v
  · clear h
    go_enter Tryd.func86, Tryd.ntmps86
    go_wp2_with fail
    go_ret
    exact ⟨rfl, rfl⟩
  · have h' : ¬ (0 ≤ at' ∧ at' + 2 ≤ len) := by omega
    have H := Lib.hid h'
    clear h h'
    go_enter Tryd.func86, Tryd.ntmps86
    go_wp2_with (go_at_call 127; refine (iput_no _ _ _ _ _ _ _ hl (by omega) H.out).mono ?_; rintro e w' ⟨rfl, rfl⟩)
    go_ret
    exact ⟨rfl, rfl⟩
theorem put32_yes (b off len cap : Nat) (at' : Int) (v : Int) (z : Nat → Int) (w : World) (hl : (len : Int) ≤ 9223372036854775807) (h0 : 0 ≤ at') (h1 : at' + 4 ≤ len)
    (hv : 0 ≤ v) (hs : Seg w b off len z) (hf : Soft w b off len) :
    Calls Tryd.prog 88 #[.slice (some ⟨b, off, none⟩) len cap, .int .i64 at', .int .u32 v] w fun e w' => e = .returned (.bool true) ∧ Puts b (off + at'.toNat) 4 (byteOf v) w w' := by
  go_enter Tryd.func88, Tryd.ntmps88
  go_wp2_with (go_at_call 127; refine (iput4_yes _ _ _ _ _ _ z _ hl h0 h1 hv hs hf).mono ?_; rintro e w' ⟨rfl, hp⟩)
  go_ret
  exact ⟨rfl, hp⟩
theorem put32_no (a : Option Addr) (len cap : Nat) (at' : Int) (v : Int) (w : World) (hl : (len : Int) ≤ 9223372036854775807) (h : ¬ (0 ≤ at' ∧ at' + 4 ≤ len)) :
    Calls Tryd.prog 88 #[.slice a len cap, .int .i64 at', .int .u32 v] w fun e w' => e = .returned (.bool false) ∧ w = w' := by
  have H := Lib.hid h
  clear h
  go_enter Tryd.func88, Tryd.ntmps88
  go_wp2_with (go_at_call 127; refine (iput_no _ _ _ _ _ _ _ hl (by omega) H.out).mono ?_; rintro e w' ⟨rfl, rfl⟩)
  go_ret
  exact ⟨rfl, rfl⟩

theorem zero_any (a : Option Addr) (len cap : Nat) (z : Nat → Int) (w : World) (hl : (len : Int) ≤ 9223372036854775807) (hs : Row w a len z) :
    Calls Tryd.prog 99 #[.slice a len cap] w fun e w' => e = .returned (.bool (allZ z len)) ∧ w = w' := by
  have start : allZ z 0 = true := by simp [allZ]
  have START := Lib.hid start
  clear start
  go_enter Tryd.func99, Tryd.ntmps99
  go_wp2
  go_loop [7] (fun k => ∃ j : Nat, j ≤ len ∧ k = .int .i64 j ∧ Hid (allZ z j = true)) (fun k => len - (intOf k).toNat)
  case atStart => exact ⟨0, by omega, rfl, START⟩
  case round =>
    obtain ⟨j, hj, rfl, hall⟩ := hrel
    by_cases hlt : j < len
    · rcases hs with h0 | ⟨b, off, rfl, hs⟩
      · omega
      have hc := hs j hlt
      by_cases hz : z j = 0
      · have hz' : (z j != 0) = false := by simp [hz]
        have HZ := Lib.hid hz
        clear hz
        go_wp2
        go_round
        case rel => exact ⟨j + 1, by omega, by go_num, by show allZ z (j + 1) = true; rw [allZ_succ, hall.out, HZ.out]; rfl⟩
        case measure => simp [intOf]; omega
      · have hz' : (z j != 0) = true := by simp [hz]
        have HZ := Lib.hid (allZ_no hlt hz)
        clear hz
        go_wp2
        go_ret
        exact ⟨ret_bool (by rw [HZ.out]), rfl⟩
    · obtain rfl : j = len := by omega
      go_wp2
      go_ret
      exact ⟨ret_bool (by rw [hall.out]), rfl⟩
end Go.Proofs.YtnbmmhoofilmfaaDoor

/- Contracts of quernref01: what each function returns, and what it leaves in memory. -/
namespace Go.Proofs.YtnbmmhoofilmfaaDoor
open Go.RowKit
set_option linter.unusedVariables false

set_option maxHeartbeats 1000000 in
theorem rget16_yes (b off len cap : Nat) (at' : Int) (z : Nat → Int) (w : World) (hl : (len : Int) ≤ 9223372036854775807) (h0 : 0 ≤ at') (h1 : at' + 2 ≤ len)
    (hs : Seg w b off len z) (hz : Byt z) :
    Calls Tryd.prog 123 #[.slice (some ⟨b, off, none⟩) len cap, .int .i64 at'] w fun e w' => e = .returned (.tuple #[.int .u32 (g16 z at'.toNat), .bool true]) ∧ ∃ m, w' = w.drewN m := by
  obtain ⟨i, rfl⟩ := Int.eq_ofNat_of_zero_le h0
  have c0 := hs (i) (by omega)
  have z0 := hz (i)
  have c1 := hs (i + 1) (by omega)
  have z1 := hz (i + 1)
  have r : Hid (z i + 256 * z (i + 1) = g16 z ((i : Int)).toNat) := by show _ = _; unfold g16; rw [Int.toNat_natCast]
  have d1 : decide ((len : Int) < 2) = false := by simp; omega
  have d2 : decide ((len : Int) - 2 < (i : Int)) = false := by simp; omega
  go_enter Tryd.func123, Tryd.ntmps123
  go_wp2
  have e11 : IntKind.i64.wrap ((i : Int) + 1) = (i : Int) + 1 := IntWalk.i64_in _ (by omega)
  have e12 : (0 : Int) ≤ (i : Int) + 1 := by omega
  have e13 : ((i : Int) + 1).toNat = i + 1 := by omega
  go_quiet (fail)
  go_wp2
  go_ret2
  exact ⟨ret_ib r.out rfl, _, rfl⟩

theorem rget16_no (a : Option Addr) (len cap : Nat) (at' : Int) (w : World) (hl : (len : Int) ≤ 9223372036854775807) (h : ¬ (0 ≤ at' ∧ at' + 2 ≤ len)) :
    Calls Tryd.prog 123 #[.slice a len cap, .int .i64 at'] w fun e w' => e = .returned (.tuple #[.int .u32 0, .bool false]) ∧ ∃ m, w' = w.drewN m := by
  by_cases h0 : at' < 0
  · clear h
    go_enter Tryd.func123, Tryd.ntmps123
    go_wp2
    go_ret2
    exact ⟨rfl, 0, rfl⟩
  by_cases h1 : len < 2
  · have d1 : decide ((len : Int) < 2) = true := by simp; omega
    clear h
    go_enter Tryd.func123, Tryd.ntmps123
    go_wp2
    go_ret2
    exact ⟨rfl, 0, rfl⟩
  · have d1 : decide ((len : Int) < 2) = false := by simp; omega
    have d2 : decide ((len : Int) - 2 < at') = true := by simp; omega
    clear h
    go_enter Tryd.func123, Tryd.ntmps123
    go_wp2
    go_ret2
    exact ⟨rfl, 0, rfl⟩

set_option maxHeartbeats 1000000 in
theorem rget32_yes (b off len cap : Nat) (at' : Int) (z : Nat → Int) (w : World) (hl : (len : Int) ≤ 9223372036854775807) (h0 : 0 ≤ at') (h1 : at' + 4 ≤ len)
    (hs : Seg w b off len z) (hz : Byt z) :
    Calls Tryd.prog 122 #[.slice (some ⟨b, off, none⟩) len cap, .int .i64 at'] w fun e w' => e = .returned (.tuple #[.int .u32 (g32 z at'.toNat), .bool true]) ∧ ∃ m, w' = w.drewN m := by
  obtain ⟨i, rfl⟩ := Int.eq_ofNat_of_zero_le h0
  have c0 := hs (i) (by omega)
  have z0 := hz (i)
  have c1 := hs (i + 1) (by omega)
  have z1 := hz (i + 1)
  have c2 := hs (i + 2) (by omega)
  have z2 := hz (i + 2)
  have c3 := hs (i + 3) (by omega)
  have z3 := hz (i + 3)
  have r : Hid (z i + 256 * z (i + 1) + 65536 * z (i + 2) + 16777216 * z (i + 3) = g32 z ((i : Int)).toNat) := by show _ = _; unfold g32; rw [Int.toNat_natCast]
  have d1 : decide ((len : Int) < 4) = false := by simp; omega
  have d2 : decide ((len : Int) - 4 < (i : Int)) = false := by simp; omega
  go_enter Tryd.func122, Tryd.ntmps122
  go_wp2
  have e11 : IntKind.i64.wrap ((i : Int) + 1) = (i : Int) + 1 := IntWalk.i64_in _ (by omega)
  have e12 : (0 : Int) ≤ (i : Int) + 1 := by omega
  have e13 : ((i : Int) + 1).toNat = i + 1 := by omega
  have e21 : IntKind.i64.wrap ((i : Int) + 2) = (i : Int) + 2 := IntWalk.i64_in _ (by omega)
  have e22 : (0 : Int) ≤ (i : Int) + 2 := by omega
  have e23 : ((i : Int) + 2).toNat = i + 2 := by omega
  have e31 : IntKind.i64.wrap ((i : Int) + 3) = (i : Int) + 3 := IntWalk.i64_in _ (by omega)
  have e32 : (0 : Int) ≤ (i : Int) + 3 := by omega
  have e33 : ((i : Int) + 3).toNat = i + 3 := by omega
  go_quiet (fail)
  go_wp2
  go_ret2
  exact ⟨ret_ib r.out rfl, _, rfl⟩

theorem rget32_no (a : Option Addr) (len cap : Nat) (at' : Int) (w : World) (hl : (len : Int) ≤ 9223372036854775807) (h : ¬ (0 ≤ at' ∧ at' + 4 ≤ len)) :
    Calls Tryd.prog 122 #[.slice a len cap, .int .i64 at'] w fun e w' => e = .returned (.tuple #[.int .u32 0, .bool false]) ∧ ∃ m, w' = w.drewN m := by
  by_cases h0 : at' < 0
  · clear h
    go_enter Tryd.func122, Tryd.ntmps122
    go_wp2
    go_ret2
    exact ⟨rfl, 0, rfl⟩
  by_cases h1 : len < 4
  · have d1 : decide ((len : Int) < 4) = true := by simp; omega
    clear h
    go_enter Tryd.func122, Tryd.ntmps122
    go_wp2
    go_ret2
    exact ⟨rfl, 0, rfl⟩
  · have d1 : decide ((len : Int) < 4) = false := by simp; omega
    have d2 : decide ((len : Int) - 4 < at') = true := by simp; omega
    clear h
    go_enter Tryd.func122, Tryd.ntmps122
    go_wp2
    go_ret2
    exact ⟨rfl, 0, rfl⟩


set_option maxHeartbeats 1000000 in
theorem rput16_yes (b off len cap : Nat) (at' : Int) (v : Int) (z : Nat → Int) (w : World) (hl : (len : Int) ≤ 9223372036854775807) (h0 : 0 ≤ at') (h1 : at' + 2 ≤ len)
    (hv : 0 ≤ v) (hv2 : v ≤ 65535) (hs : Seg w b off len z) (hz : Byt z) (hf : Soft w b off len) :
    Calls Tryd.prog 68 #[.slice (some ⟨b, off, none⟩) len cap, .int .i64 at', .int .u32 v] w fun e w' => e = .returned (.bool true) ∧ Puts b (off + at'.toNat) 2 (byteOf v) w w' := by
  have HG : Hid (_) := Lib.hid (fun w' (hs : Seg w' b off len z) => rget16_yes b off len cap at' z w' hl h0 h1 hs hz)
  obtain ⟨i, rfl⟩ := Int.eq_ofNat_of_zero_le h0
  rw [Int.toNat_natCast]
  have c0 := hs i (by omega)
  have c1 := hs (i + 1) (by omega)
  have f0 := hf i (by omega)
  have f1 := hf (i + 1) (by omega)
  have HP : Hid (∀ w' : World, Puts b (off + i) 0 (byteOf v) w w' → Puts b (off + i) 2 (byteOf v) w ((w'.setCell ⟨b, off + i, none⟩ (.int .u8 (v % 256))).setCell ⟨b, off + (i + 1), none⟩ (.int .u8 (v / 256)))) := by
    intro w' hp
    have h1 := hp.snoc (u := .int .u8 (z i)) (v := .int .u8 (v % 256)) c0 (by rw [byteOf_zero])
    have h2 := h1.snoc (u := .int .u8 (z (i + 1))) (v := .int .u8 (v / 256)) (by rw [Nat.add_assoc]; exact c1) (by rw [byteOf_succ, byteOf_zero]; congr 1; omega)
    rw [Nat.add_assoc] at h2
    exact h2
  go_enter Tryd.func68, Tryd.ntmps68
  go_wp2_with (go_at_call 123; refine (HG.out _ hs).mono ?_; rintro e w' ⟨rfl, m, rfl⟩)
  go_ret
  exact ⟨rfl, HP.out _ ((Puts.nil _ _ _ _).drewN m)⟩
theorem rput16_no (b off len cap : Nat) (at' : Int) (v : Int) (z : Nat → Int) (w : World) (hl : (len : Int) ≤ 9223372036854775807) (hs : Seg w b off len z) (hz : Byt z) (h : ¬ (0 ≤ at' ∧ at' + 2 ≤ len ∧ v ≤ 65535)) :
    Calls Tryd.prog 68 #[.slice (some ⟨b, off, none⟩) len cap, .int .i64 at', .int .u32 v] w fun e w' => e = .returned (.bool false) ∧ ∃ m, w' = w.drewN m := by
  by_cases h0 : 0 ≤ at' ∧ at' + 2 ≤ len
  · have hv : 65535 < v := by omega
    have HG : Hid (_) := Lib.hid (fun w' (hs : Seg w' b off len z) => rget16_yes b off len cap at' z w' hl h0.1 h0.2 hs hz)
    clear h h0
    go_enter Tryd.func68, Tryd.ntmps68
    go_wp2_with (go_at_call 123; refine (HG.out _ hs).mono ?_; rintro e w' ⟨rfl, m, rfl⟩)
    go_ret
    exact ⟨rfl, m, rfl⟩
  · have HG : Hid (_) := Lib.hid (fun w' => rget16_no (some ⟨b, off, none⟩) len cap at' w' hl h0)
    clear h h0
    go_enter Tryd.func68, Tryd.ntmps68
    go_wp2_with (go_at_call 123; refine (HG.out _).mono ?_; rintro e w' ⟨rfl, m, rfl⟩)
    go_ret
    exact ⟨rfl, m, rfl⟩
theorem rput16_nil (a : Option Addr) (len cap : Nat) (at' : Int) (v : Int) (w : World) (hl : (len : Int) ≤ 9223372036854775807) (h0 : ¬ (0 ≤ at' ∧ at' + 2 ≤ len)) :
    Calls Tryd.prog 68 #[.slice a len cap, .int .i64 at', .int .u32 v] w fun e w' => e = .returned (.bool false) ∧ ∃ m, w' = w.drewN m := by
  have HG : Hid (_) := Lib.hid (fun w' => rget16_no a len cap at' w' hl h0)
  clear h0
  go_enter Tryd.func68, Tryd.ntmps68
  go_wp2_with (go_at_call 123; refine (HG.out _).mono ?_; rintro e w' ⟨rfl, m, rfl⟩)
  go_ret
  exact ⟨rfl, m, rfl⟩


set_option maxHeartbeats 1000000 in
theorem rput32_yes (b off len cap : Nat) (at' : Int) (v : Int) (z : Nat → Int) (w : World) (hl : (len : Int) ≤ 9223372036854775807) (h0 : 0 ≤ at') (h1 : at' + 4 ≤ len)
    (hv : 0 ≤ v) (hv2 : v < 4294967296) (hs : Seg w b off len z) (hz : Byt z) (hf : Soft w b off len) :
    Calls Tryd.prog 67 #[.slice (some ⟨b, off, none⟩) len cap, .int .i64 at', .int .u32 v] w fun e w' => e = .returned (.bool true) ∧ Puts b (off + at'.toNat) 4 (byteOf v) w w' := by
  have HG : Hid (_) := Lib.hid (fun w' (hs : Seg w' b off len z) => rget32_yes b off len cap at' z w' hl h0 h1 hs hz)
  obtain ⟨i, rfl⟩ := Int.eq_ofNat_of_zero_le h0
  rw [Int.toNat_natCast]
  go_enter Tryd.func67, Tryd.ntmps67
  go_wp2_with (go_at_call 122; refine (HG.out _ hs).mono ?_; rintro e w' ⟨rfl, m, rfl⟩)
  go_loopw [2, 9] (fun u k wr => ∃ j : Nat, j ≤ 4 ∧ k = .int .i64 j ∧ (∃ x : Int, 0 ≤ x ∧ x < 4294967296 ∧ (∀ m, byteOf x m = byteOf v (j + m)) ∧ u = .int .u32 x) ∧ Puts b (off + i) j (byteOf v) w wr) (fun _ k _ => 4 - (intOf k).toNat)
  case atStart => exact ⟨0, by omega, rfl, ⟨v, hv, hv2, fun m => by rw [Nat.zero_add], rfl⟩, (Puts.nil _ _ _ _).drewN m⟩
  case round =>
    obtain ⟨j, hj, rfl, ⟨x, hx0, hx1, hx, rfl⟩, hp⟩ := hrel
    by_cases hlt : j < 4
    · have hcw := hs (i + j) (by omega)
      have hc : wr.cell? ⟨b, off + (i + j), none⟩ = some (.int .u8 (z (i + j))) := by
        have := hp.cell (off + (i + j)); rw [if_neg (by omega)] at this; rw [this]; exact hcw
      have hfr : wr.frozen? ⟨b, off + (i + j), none⟩ = false := by rw [hp.only.frozen]; exact hf _ (by omega)
      have HCW := Lib.hid hcw
      have HX := Lib.hid hx
      clear hcw hx
      go_wp2
      go_roundw
      case rel =>
        refine ⟨j + 1, by omega, by go_num, ⟨x / 256, by omega, by omega, fun m => ?_, rfl⟩, ?_⟩
        · rw [← byteOf_succ, HX.out]; congr 1; omega
        · have := hp.snoc (u := .int .u8 (z (i + j))) (v := .int .u8 (x % 256)) (by rw [Nat.add_assoc]; exact HCW.out) (by have := HX.out 0; rw [byteOf_zero, Nat.add_zero] at this; rw [this])
          rw [Nat.add_assoc] at this
          exact this
      case measure => simp [intOf]; omega
    · obtain rfl : j = 4 := by omega
      go_wp2
      go_ret
      exact ⟨rfl, hp⟩
theorem rput32_no (a : Option Addr) (len cap : Nat) (at' : Int) (v : Int) (w : World) (hl : (len : Int) ≤ 9223372036854775807) (h0 : ¬ (0 ≤ at' ∧ at' + 4 ≤ len)) :
    Calls Tryd.prog 67 #[.slice a len cap, .int .i64 at', .int .u32 v] w fun e w' => e = .returned (.bool false) ∧ ∃ m, w' = w.drewN m := by
  have HG : Hid (_) := Lib.hid (fun w' => rget32_no a len cap at' w' hl h0)
  clear h0
  go_enter Tryd.func67, Tryd.ntmps67
  go_wp2_with (go_at_call 122; refine (HG.out _).mono ?_; rintro e w' ⟨rfl, m, rfl⟩)
  go_ret
  exact ⟨rfl, m, rfl⟩

end Go.Proofs.YtnbmmhoofilmfaaDoor

/- The contracts of nums and quernref01 at any slice of bytes and any place. -/
namespace Go.Proofs.YtnbmmhoofilmfaaDoor
open Go.RowKit
set_option linter.unusedVariables false

/-- do n bytes lie at a place of len? -/
def fits (n len : Nat) (at' : Int) : Bool := decide (0 ≤ at' ∧ at' + n ≤ len)
def o16 (z : Nat → Int) (len : Nat) (at' : Int) : Int := if fits 2 len at' then g16 z at'.toNat else 0
def o32 (z : Nat → Int) (len : Nat) (at' : Int) : Int := if fits 4 len at' then g32 z at'.toNat else 0
theorem fits_yes {n len : Nat} {at' : Int} (h : 0 ≤ at' ∧ at' + n ≤ len) : fits n len at' = true := by simp [fits, h]
theorem fits_no {n len : Nat} {at' : Int} (h : ¬ (0 ≤ at' ∧ at' + n ≤ len)) : fits n len at' = false := by simp [fits]; omega
theorem fits_iff {n len : Nat} {at' : Int} : fits n len at' = true ↔ 0 ≤ at' ∧ at' + n ≤ len := by simp [fits]

theorem Row.at {w : World} {a : Option Addr} {n : Nat} {z : Nat → Int} (h : Row w a n z) (h0 : 0 < n) : ∃ b off, a = some ⟨b, off, none⟩ ∧ Seg w b off n z := by
  rcases h with h | h
  · omega
  · exact h
theorem Row.below {w w' : World} {a : Option Addr} {n : Nat} {z : Nat → Int} (h : Row w a n z) {B : Nat} (hb : Below B w w') (hB : w.heap.size ≤ B) : Row w' a n z := by
  rcases h with h | ⟨b, off, rfl, hs⟩
  · exact .inl h
  · refine .inr ⟨b, off, rfl, fun i hi => ?_⟩
    have := World.block_lt_of_cell? w _ (hs i hi)
    rw [hb.cell (p := ⟨b, off + i, none⟩) (by simp at this ⊢; omega)]; exact hs i hi
theorem Row.drewN {w : World} {a : Option Addr} {n : Nat} {z : Nat → Int} (h : Row w a n z) (m : Nat) : Row (w.drewN m) a n z := h
theorem Row.grown {w w' : World} {a : Option Addr} {n : Nat} {z : Nat → Int} {row : Option Nat} (h : Row w a n z) (hb : w.grownBy w' row) (hr : ∀ x, a = some x → some x.block ≠ row) : Row w' a n z := by
  rcases h with h | ⟨b, off, rfl, hs⟩
  · exact .inl h
  · exact .inr ⟨b, off, rfl, fun i hi => hb.cell (hs i hi) (hr ⟨b, off, none⟩ rfl)⟩

theorem get16_any (a : Option Addr) (len cap : Nat) (at' : Int) (z : Nat → Int) (w : World) (hl : (len : Int) ≤ 9223372036854775807) (hs : Row w a len z) (hz : Byt z) :
    Calls Tryd.prog 164 #[.slice a len cap, .int .i64 at'] w fun e w' => e = .returned (.tuple #[.int .u32 (o16 z len at'), .bool (fits 2 len at')]) ∧ w = w' := by
  by_cases h : 0 ≤ at' ∧ at' + 2 ≤ len
  · obtain ⟨b, off, rfl, hs2⟩ := hs.at (by omega); clear hs; have hs := hs2; clear hs2
    rw [o16, fits_yes h, if_pos rfl]
    exact get16_yes b off len cap at' z w hl h.1 h.2 hs hz
  · rw [o16, fits_no h]
    exact get16_no a len cap at' w hl h
theorem get32_any (a : Option Addr) (len cap : Nat) (at' : Int) (z : Nat → Int) (w : World) (hl : (len : Int) ≤ 9223372036854775807) (hs : Row w a len z) (hz : Byt z) :
    Calls Tryd.prog 135 #[.slice a len cap, .int .i64 at'] w fun e w' => e = .returned (.tuple #[.int .u32 (o32 z len at'), .bool (fits 4 len at')]) ∧ w = w' := by
  by_cases h : 0 ≤ at' ∧ at' + 4 ≤ len
  · obtain ⟨b, off, rfl, hs2⟩ := hs.at (by omega); clear hs; have hs := hs2; clear hs2
    rw [o32, fits_yes h, if_pos rfl]
    exact get32_yes b off len cap at' z w hl h.1 h.2 hs hz
  · rw [o32, fits_no h]
    exact get32_no a len cap at' w hl h
theorem rget16_any (a : Option Addr) (len cap : Nat) (at' : Int) (z : Nat → Int) (w : World) (hl : (len : Int) ≤ 9223372036854775807) (hs : Row w a len z) (hz : Byt z) :
    Calls Tryd.prog 123 #[.slice a len cap, .int .i64 at'] w fun e w' => e = .returned (.tuple #[.int .u32 (o16 z len at'), .bool (fits 2 len at')]) ∧ ∃ m, w' = w.drewN m := by
  by_cases h : 0 ≤ at' ∧ at' + 2 ≤ len
  · obtain ⟨b, off, rfl, hs2⟩ := hs.at (by omega); clear hs; have hs := hs2; clear hs2
    rw [o16, fits_yes h, if_pos rfl]
    exact rget16_yes b off len cap at' z w hl h.1 h.2 hs hz
  · rw [o16, fits_no h]
    exact rget16_no a len cap at' w hl h
theorem rget32_any (a : Option Addr) (len cap : Nat) (at' : Int) (z : Nat → Int) (w : World) (hl : (len : Int) ≤ 9223372036854775807) (hs : Row w a len z) (hz : Byt z) :
    Calls Tryd.prog 122 #[.slice a len cap, .int .i64 at'] w fun e w' => e = .returned (.tuple #[.int .u32 (o32 z len at'), .bool (fits 4 len at')]) ∧ ∃ m, w' = w.drewN m := by
  by_cases h : 0 ≤ at' ∧ at' + 4 ≤ len
  · obtain ⟨b, off, rfl, hs2⟩ := hs.at (by omega); clear hs; have hs := hs2; clear hs2
    rw [o32, fits_yes h, if_pos rfl]
    exact rget32_yes b off len cap at' z w hl h.1 h.2 hs hz
  · rw [o32, fits_no h]
    exact rget32_no a len cap at' w hl h

/-- what a put leaves: the bytes, if they fit -/
def PutsIf (c : Bool) (a : Option Addr) (at' : Int) (n : Nat) (f : Nat → Int) (w w' : World) : Prop :=
  if c then ∃ b off, a = some ⟨b, off, none⟩ ∧ Puts b (off + at'.toNat) n f w w' else ∃ m, w' = w.drewN m
def SoftRow (w : World) (a : Option Addr) (n : Nat) : Prop := ∀ b off, a = some ⟨b, off, none⟩ → Soft w b off n

theorem PutsIf.only {c : Bool} {b off : Nat} {at' : Int} {n : Nat} {f : Nat → Int} {w w' : World} (h : PutsIf c (some ⟨b, off, none⟩) at' n f w w') : Only b w w' := by
  cases c with
  | true => obtain ⟨b', off', he, hp⟩ := h; cases he; exact hp.only
  | false => obtain ⟨m, rfl⟩ := h; exact (Only.refl b w).drewN m
theorem PutsIf.seg {c : Bool} {b off : Nat} {at' : Int} {n : Nat} {f : Nat → Int} {w w' : World} (h : PutsIf c (some ⟨b, off, none⟩) at' n f w w') {m : Nat} {z : Nat → Int} (hs : Seg w b off m z) :
    Seg w' b off m (if c then over z at'.toNat n f else z) := by
  cases c with
  | true => obtain ⟨b', off', he, hp⟩ := h; cases he; exact hp.seg hs rfl
  | false => obtain ⟨m', rfl⟩ := h; exact hs

theorem put16_any (a : Option Addr) (len cap : Nat) (at' v : Int) (z : Nat → Int) (w : World) (hl : (len : Int) ≤ 9223372036854775807) (hs : Row w a len z) (hf : SoftRow w a len) (hv : 0 ≤ v) :
    Calls Tryd.prog 86 #[.slice a len cap, .int .i64 at', .int .u32 v] w fun e w' =>
      e = .returned (.bool (fits 2 len at' && decide (v ≤ 65535))) ∧ PutsIf (fits 2 len at' && decide (v ≤ 65535)) a at' 2 (byteOf v) w w' := by
  by_cases h : (0 ≤ at' ∧ at' + 2 ≤ len) ∧ v ≤ 65535
  · obtain ⟨b, off, rfl, hs2⟩ := hs.at (by omega); clear hs; have hs := hs2; clear hs2
    have e1 : (fits 2 len at' && decide (v ≤ 65535)) = true := by rw [fits_yes h.1]; simp [h.2]
    rw [e1]
    exact (put16_yes b off len cap at' v z w hl h.1.1 h.1.2 hv h.2 hs (hf b off rfl)).mono fun e w' hh => ⟨hh.1, b, off, rfl, hh.2⟩
  · have e1 : (fits 2 len at' && decide (v ≤ 65535)) = false := by
      by_cases h1 : 0 ≤ at' ∧ at' + 2 ≤ len
      · rw [fits_yes h1]; simp; omega
      · rw [fits_no h1]; rfl
    rw [e1]
    exact (put16_no a len cap at' v w hl (by omega)).mono fun e w' hh => ⟨hh.1, 0, hh.2.symm⟩
theorem put32_any (a : Option Addr) (len cap : Nat) (at' v : Int) (z : Nat → Int) (w : World) (hl : (len : Int) ≤ 9223372036854775807) (hs : Row w a len z) (hf : SoftRow w a len) (hv : 0 ≤ v) :
    Calls Tryd.prog 88 #[.slice a len cap, .int .i64 at', .int .u32 v] w fun e w' =>
      e = .returned (.bool (fits 4 len at')) ∧ PutsIf (fits 4 len at') a at' 4 (byteOf v) w w' := by
  by_cases h : (0 ≤ at' ∧ at' + 4 ≤ len)
  · obtain ⟨b, off, rfl, hs2⟩ := hs.at (by omega); clear hs; have hs := hs2; clear hs2
    rw [fits_yes h]
    exact (put32_yes b off len cap at' v z w hl h.1 h.2 hv hs (hf b off rfl)).mono fun e w' hh => ⟨hh.1, b, off, rfl, hh.2⟩
  · rw [fits_no h]
    exact (put32_no a len cap at' v w hl h).mono fun e w' hh => ⟨hh.1, 0, hh.2.symm⟩
theorem rput16_any (a : Option Addr) (len cap : Nat) (at' v : Int) (z : Nat → Int) (w : World) (hl : (len : Int) ≤ 9223372036854775807) (hs : Row w a len z) (hz : Byt z) (hf : SoftRow w a len) (hv : 0 ≤ v) :
    Calls Tryd.prog 68 #[.slice a len cap, .int .i64 at', .int .u32 v] w fun e w' =>
      e = .returned (.bool (fits 2 len at' && decide (v ≤ 65535))) ∧ PutsIf (fits 2 len at' && decide (v ≤ 65535)) a at' 2 (byteOf v) w w' := by
  by_cases h1 : 0 ≤ at' ∧ at' + 2 ≤ len
  · obtain ⟨b, off, rfl, hs2⟩ := hs.at (by omega); clear hs; have hs := hs2; clear hs2
    by_cases h2 : v ≤ 65535
    · have e1 : (fits 2 len at' && decide (v ≤ 65535)) = true := by rw [fits_yes h1]; simp [h2]
      rw [e1]
      exact (rput16_yes b off len cap at' v z w hl h1.1 h1.2 hv h2 hs hz (hf b off rfl)).mono fun e w' hh => ⟨hh.1, b, off, rfl, hh.2⟩
    · have e1 : (fits 2 len at' && decide (v ≤ 65535)) = false := by simp; omega
      rw [e1]
      exact (rput16_no b off len cap at' v z w hl hs hz (by omega)).mono fun e w' hh => ⟨hh.1, hh.2⟩
  · have e1 : (fits 2 len at' && decide (v ≤ 65535)) = false := by rw [fits_no h1]; rfl
    rw [e1]
    exact (rput16_nil a len cap at' v w hl h1).mono fun e w' hh => ⟨hh.1, hh.2⟩
theorem rput32_any (a : Option Addr) (len cap : Nat) (at' v : Int) (z : Nat → Int) (w : World) (hl : (len : Int) ≤ 9223372036854775807) (hs : Row w a len z) (hz : Byt z) (hf : SoftRow w a len) (hv : 0 ≤ v) (hv2 : v < 4294967296) :
    Calls Tryd.prog 67 #[.slice a len cap, .int .i64 at', .int .u32 v] w fun e w' =>
      e = .returned (.bool (fits 4 len at')) ∧ PutsIf (fits 4 len at') a at' 4 (byteOf v) w w' := by
  by_cases h : (0 ≤ at' ∧ at' + 4 ≤ len)
  · obtain ⟨b, off, rfl, hs2⟩ := hs.at (by omega); clear hs; have hs := hs2; clear hs2
    rw [fits_yes h]
    exact (rput32_yes b off len cap at' v z w hl h.1 h.2 hv hv2 hs hz (hf b off rfl)).mono fun e w' hh => ⟨hh.1, b, off, rfl, hh.2⟩
  · rw [fits_no h]
    exact (rput32_no a len cap at' v w hl h).mono fun e w' hh => ⟨hh.1, hh.2⟩
end Go.Proofs.YtnbmmhoofilmfaaDoor
