/- Texts of this claim, merged by a program (a claim may have 60 files): Nums. -/
import Derived.Test.YtnbmmhoofilmfaaDoorRows
import Derived.Test.YtnbmmhoofilmfaaDoorK01
import Derived.WalkKit
import Derived.Outline
import Derived.Deep.QuietTactic
import Derived.BigQuiet
import Derived.IntWalk
/- Contracts of package nums and of quernref01: what each function returns, and what it leaves in memory. -/
namespace Go.Proofs.YtnbmmhoofilmfaaDoor
open Go.RowKit
set_option linter.unusedVariables false

theorem within_yes (n at' size : Int) (w : World) (hn : 0 ≤ n) (hl : n ≤ 9223372036854775807) (hs : 0 ≤ size) (h : 0 ≤ at' ∧ at' + size ≤ n) :
    Calls Tryd.prog 153 #[.int .i64 n, .int .i64 at', .int .i64 size] w fun e w' => e = .returned (.bool true) ∧ w = w' := by
  have h1 : at' ≤ n - size := by omega
  have h2 : size ≤ n := by omega
  obtain ⟨h, _⟩ := h
  go_enter Tryd.func153, Tryd.ntmps153
  go_wp2
  go_ret
  exact ⟨ret_bool (by simp), rfl⟩

theorem within_no (n at' size : Int) (w : World) (hn : 0 ≤ n) (hl : n ≤ 9223372036854775807) (hs : 0 ≤ size) (h : ¬ (0 ≤ at' ∧ at' + size ≤ n)) :
    Calls Tryd.prog 153 #[.int .i64 n, .int .i64 at', .int .i64 size] w fun e w' => e = .returned (.bool false) ∧ w = w' := by
  by_cases h0 : 0 ≤ at'
  · by_cases h2 : size ≤ n
    · have h1 : decide (at' ≤ n - size) = false := by simp; omega
      clear h
      go_enter Tryd.func153, Tryd.ntmps153
      go_wp2
      go_ret
      exact ⟨rfl, rfl⟩
    · clear h
      go_enter Tryd.func153, Tryd.ntmps153
      go_wp2
      go_ret
      exact ⟨rfl, rfl⟩
  · clear h
    go_enter Tryd.func153, Tryd.ntmps153
    go_wp2
    go_ret
    exact ⟨rfl, rfl⟩


set_option maxHeartbeats 1000000 in
theorem iget16_yes (b off len cap : Nat) (at' : Int) (z : Nat → Int) (w : World) (hl : (len : Int) ≤ 9223372036854775807) (h0 : 0 ≤ at') (h1 : at' + 2 ≤ len)
    (hs : Seg w b off len z) (hz : Byt z) :
    Calls Tryd.prog 174 #[.slice (some ⟨b, off, none⟩) len cap, .int .i64 at', .int .i64 2] w fun e w' => e = .returned (.tuple #[.int .u16 (g16 z at'.toNat), .bool true]) ∧ w = w' := by
  obtain ⟨i, rfl⟩ := Int.eq_ofNat_of_zero_le h0
  have c0 := hs (i) (by omega)
  have z0 := hz (i)
  have c1 := hs (i + 1) (by omega)
  have z1 := hz (i + 1)
  have e1 : bits BinOp.or IntKind.u16 0 (z (i + 1)) = z (i + 1) := by have := shl_or_u16 0 (z (i + 1)) (by omega) (by omega) (by omega) (by omega); simpa using this
  have e0 : bits BinOp.or IntKind.u16 ((z (i + 1)) * 256) (z i) = (z (i + 1)) * 256 + z i := shl_or_u16 _ _ (by omega) (by omega) (by omega) (by omega)
  have r : Hid ((z (i + 1)) * 256 + z i = g16 z ((i : Int)).toNat) := by show _ = _; unfold g16; rw [Int.toNat_natCast]; omega
  go_enter Tryd.func174, Tryd.ntmps174
  go_wp2_with (go_at_call 153; refine (within_yes _ _ _ _ (by omega) (by omega) (by omega) (by omega)).mono ?_; rintro e w' ⟨rfl, rfl⟩)
  refine wp_loop_rounds 3 ?_
  rw [rounds_succ]
  go_wp2
  rw [rounds_succ]
  go_wp2
  rw [rounds_succ]
  go_wp2
  go_ret2
  exact ⟨ret_ib r.out rfl, rfl⟩

theorem iget16_no (a : Option Addr) (len cap : Nat) (at' : Int) (w : World) (hl : (len : Int) ≤ 9223372036854775807) (h : ¬ (0 ≤ at' ∧ at' + 2 ≤ len)) :
    Calls Tryd.prog 174 #[.slice a len cap, .int .i64 at', .int .i64 2] w fun e w' => e = .returned (.tuple #[.int .u16 0, .bool false]) ∧ w = w' := by
  have H := Lib.hid h
  clear h
  go_enter Tryd.func174, Tryd.ntmps174
  go_wp2_with (go_at_call 153; refine (within_no _ _ _ _ (by omega) (by omega) (by omega) H.out).mono ?_; rintro e w' ⟨rfl, rfl⟩)
  go_ret2
  exact ⟨rfl, rfl⟩

theorem get16_yes (b off len cap : Nat) (at' : Int) (z : Nat → Int) (w : World) (hl : (len : Int) ≤ 9223372036854775807) (h0 : 0 ≤ at') (h1 : at' + 2 ≤ len)
    (hs : Seg w b off len z) (hz : Byt z) :
    Calls Tryd.prog 164 #[.slice (some ⟨b, off, none⟩) len cap, .int .i64 at'] w fun e w' => e = .returned (.tuple #[.int .u32 (g16 z at'.toNat), .bool true]) ∧ w = w' := by
  have hb := g16_bd hz at'.toNat
  go_enter Tryd.func164, Tryd.ntmps164
  go_wp2_with (go_at_call 174; refine (iget16_yes _ _ _ _ _ z _ hl h0 h1 hs hz).mono ?_; rintro e w' ⟨rfl, rfl⟩)
  go_ret2
  exact ⟨rfl, rfl⟩

theorem get16_no (a : Option Addr) (len cap : Nat) (at' : Int) (w : World) (hl : (len : Int) ≤ 9223372036854775807) (h : ¬ (0 ≤ at' ∧ at' + 2 ≤ len)) :
    Calls Tryd.prog 164 #[.slice a len cap, .int .i64 at'] w fun e w' => e = .returned (.tuple #[.int .u32 0, .bool false]) ∧ w = w' := by
  have H := Lib.hid h
  clear h
  go_enter Tryd.func164, Tryd.ntmps164
  go_wp2_with (go_at_call 174; refine (iget16_no _ _ _ _ _ hl H.out).mono ?_; rintro e w' ⟨rfl, rfl⟩)
  go_ret2
  exact ⟨rfl, rfl⟩


set_option maxHeartbeats 1000000 in
theorem iget32_yes (b off len cap : Nat) (at' : Int) (z : Nat → Int) (w : World) (hl : (len : Int) ≤ 9223372036854775807) (h0 : 0 ≤ at') (h1 : at' + 4 ≤ len)
    (hs : Seg w b off len z) (hz : Byt z) :
    Calls Tryd.prog 154 #[.slice (some ⟨b, off, none⟩) len cap, .int .i64 at', .int .i64 4] w fun e w' => e = .returned (.tuple #[.int .u32 (g32 z at'.toNat), .bool true]) ∧ w = w' := by
  obtain ⟨i, rfl⟩ := Int.eq_ofNat_of_zero_le h0
  have c0 := hs (i) (by omega)
  have z0 := hz (i)
  have c1 := hs (i + 1) (by omega)
  have z1 := hz (i + 1)
  have c2 := hs (i + 2) (by omega)
  have z2 := hz (i + 2)
  have c3 := hs (i + 3) (by omega)
  have z3 := hz (i + 3)
  have e3 : bits BinOp.or IntKind.u32 0 (z (i + 3)) = z (i + 3) := by have := shl_or_u32 0 (z (i + 3)) (by omega) (by omega) (by omega) (by omega); simpa using this
  have e2 : bits BinOp.or IntKind.u32 ((z (i + 3)) * 256) (z (i + 2)) = (z (i + 3)) * 256 + z (i + 2) := shl_or_u32 _ _ (by omega) (by omega) (by omega) (by omega)
  have e1 : bits BinOp.or IntKind.u32 (((z (i + 3)) * 256 + z (i + 2)) * 256) (z (i + 1)) = ((z (i + 3)) * 256 + z (i + 2)) * 256 + z (i + 1) := shl_or_u32 _ _ (by omega) (by omega) (by omega) (by omega)
  have e0 : bits BinOp.or IntKind.u32 ((((z (i + 3)) * 256 + z (i + 2)) * 256 + z (i + 1)) * 256) (z i) = (((z (i + 3)) * 256 + z (i + 2)) * 256 + z (i + 1)) * 256 + z i := shl_or_u32 _ _ (by omega) (by omega) (by omega) (by omega)
  have r : Hid ((((z (i + 3)) * 256 + z (i + 2)) * 256 + z (i + 1)) * 256 + z i = g32 z ((i : Int)).toNat) := by show _ = _; unfold g32; rw [Int.toNat_natCast]; omega
  go_enter Tryd.func154, Tryd.ntmps154
  go_wp2_with (go_at_call 153; refine (within_yes _ _ _ _ (by omega) (by omega) (by omega) (by omega)).mono ?_; rintro e w' ⟨rfl, rfl⟩)
  refine wp_loop_rounds 5 ?_
  rw [rounds_succ]
  go_wp2
  rw [rounds_succ]
  go_wp2
  rw [rounds_succ]
  go_wp2
  rw [rounds_succ]
  go_wp2
  rw [rounds_succ]
  go_wp2
  go_ret2
  exact ⟨ret_ib r.out rfl, rfl⟩

theorem iget32_no (a : Option Addr) (len cap : Nat) (at' : Int) (w : World) (hl : (len : Int) ≤ 9223372036854775807) (h : ¬ (0 ≤ at' ∧ at' + 4 ≤ len)) :
    Calls Tryd.prog 154 #[.slice a len cap, .int .i64 at', .int .i64 4] w fun e w' => e = .returned (.tuple #[.int .u32 0, .bool false]) ∧ w = w' := by
  have H := Lib.hid h
  clear h
  go_enter Tryd.func154, Tryd.ntmps154
  go_wp2_with (go_at_call 153; refine (within_no _ _ _ _ (by omega) (by omega) (by omega) H.out).mono ?_; rintro e w' ⟨rfl, rfl⟩)
  go_ret2
  exact ⟨rfl, rfl⟩

theorem get32_yes (b off len cap : Nat) (at' : Int) (z : Nat → Int) (w : World) (hl : (len : Int) ≤ 9223372036854775807) (h0 : 0 ≤ at') (h1 : at' + 4 ≤ len)
    (hs : Seg w b off len z) (hz : Byt z) :
    Calls Tryd.prog 135 #[.slice (some ⟨b, off, none⟩) len cap, .int .i64 at'] w fun e w' => e = .returned (.tuple #[.int .u32 (g32 z at'.toNat), .bool true]) ∧ w = w' := by
  have hb := g32_bd hz at'.toNat
  go_enter Tryd.func135, Tryd.ntmps135
  go_wp2_with (go_at_call 154; refine (iget32_yes _ _ _ _ _ z _ hl h0 h1 hs hz).mono ?_; rintro e w' ⟨rfl, rfl⟩)
  go_ret2
  exact ⟨rfl, rfl⟩

theorem get32_no (a : Option Addr) (len cap : Nat) (at' : Int) (w : World) (hl : (len : Int) ≤ 9223372036854775807) (h : ¬ (0 ≤ at' ∧ at' + 4 ≤ len)) :
    Calls Tryd.prog 135 #[.slice a len cap, .int .i64 at'] w fun e w' => e = .returned (.tuple #[.int .u32 0, .bool false]) ∧ w = w' := by
  have H := Lib.hid h
  clear h
  go_enter Tryd.func135, Tryd.ntmps135
  go_wp2_with (go_at_call 154; refine (iget32_no _ _ _ _ _ hl H.out).mono ?_; rintro e w' ⟨rfl, rfl⟩)
  go_ret2
  exact ⟨rfl, rfl⟩


set_option maxHeartbeats 1000000 in
theorem iput_yes (b off len cap : Nat) (at' : Int) (size : Nat) (v : Int) (z : Nat → Int) (w : World) (hl : (len : Int) ≤ 9223372036854775807) (h0 : 0 ≤ at') (h1 : at' + size ≤ len)
    (hv : 0 ≤ v) (hs : Seg w b off len z) (hf : Soft w b off len) :
    Calls Tryd.prog 127 #[.slice (some ⟨b, off, none⟩) len cap, .int .i64 at', .int .i64 size, .int .u32 v] w fun e w' => e = .returned (.bool true) ∧ Puts b (off + at'.toNat) size (byteOf v) w w' := by
  obtain ⟨i, rfl⟩ := Int.eq_ofNat_of_zero_le h0
  rw [Int.toNat_natCast]
  go_enter Tryd.func127, Tryd.ntmps127
  go_wp2_with (go_at_call 153; refine (within_yes _ _ _ _ (by omega) (by omega) (by omega) (by omega)).mono ?_; rintro e w' ⟨rfl, rfl⟩)
  go_loopw [3, 17] (fun u k wr => ∃ j : Nat, j ≤ size ∧ k = .int .i64 j ∧ (∃ x : Int, 0 ≤ x ∧ (∀ m, byteOf x m = byteOf v (j + m)) ∧ u = .int .u32 x) ∧ Puts b (off + i) j (byteOf v) w wr) (fun _ k _ => size - (intOf k).toNat)
  case atStart => exact ⟨0, by omega, rfl, ⟨v, hv, fun m => by rw [Nat.zero_add], rfl⟩, Puts.nil _ _ _ _⟩
  case round =>
    obtain ⟨j, hj, rfl, ⟨x, hx0, hx, rfl⟩, hp⟩ := hrel
    by_cases hlt : j < size
    · have hcw := hs (i + j) (by omega)
      have hc : wr.cell? ⟨b, off + (i + j), none⟩ = some (.int .u8 (z (i + j))) := by
        have := hp.cell (off + (i + j)); rw [if_neg (by omega)] at this; rw [this]; exact hcw
      have hfr : wr.frozen? ⟨b, off + (i + j), none⟩ = false := by rw [hp.only.frozen]; exact hf _ (by omega)
      have HCW := Lib.hid hcw
      have HX := Lib.hid hx
      clear hcw hx
      go_wp2
      go_roundw
      case rel =>
        refine ⟨j + 1, by omega, by go_num, ⟨x / 256, by omega, fun m => ?_, rfl⟩, ?_⟩
        · rw [← byteOf_succ, HX.out]; congr 1; omega
        · have := hp.snoc (u := .int .u8 (z (i + j))) (v := .int .u8 (x % 256)) (by rw [Nat.add_assoc]; exact HCW.out) (by have := HX.out 0; rw [byteOf_zero, Nat.add_zero] at this; rw [this])
          rw [Nat.add_assoc] at this
          exact this
      case measure => simp [intOf]; omega
    · obtain rfl : j = size := by omega
      go_wp2
      go_ret
      exact ⟨rfl, hp⟩

theorem iput_no (a : Option Addr) (len cap : Nat) (at' : Int) (size : Int) (v : Int) (w : World) (hl : (len : Int) ≤ 9223372036854775807) (hs : 0 ≤ size) (h : ¬ (0 ≤ at' ∧ at' + size ≤ len)) :
    Calls Tryd.prog 127 #[.slice a len cap, .int .i64 at', .int .i64 size, .int .u32 v] w fun e w' => e = .returned (.bool false) ∧ w = w' := by
  have H := Lib.hid h
  clear h
  go_enter Tryd.func127, Tryd.ntmps127
  go_wp2_with (go_at_call 153; refine (within_no _ _ _ _ (by omega) (by omega) (by omega) H.out).mono ?_; rintro e w' ⟨rfl, rfl⟩)
  go_ret
  exact ⟨rfl, rfl⟩

theorem iput2_yes (b off len cap : Nat) (at' : Int) (v : Int) (z : Nat → Int) (w : World) (hl : (len : Int) ≤ 9223372036854775807) (h0 : 0 ≤ at') (h1 : at' + 2 ≤ len)
    (hv : 0 ≤ v) (hs : Seg w b off len z) (hf : Soft w b off len) :
    Calls Tryd.prog 127 #[.slice (some ⟨b, off, none⟩) len cap, .int .i64 at', .int .i64 2, .int .u32 v] w fun e w' => e = .returned (.bool true) ∧ Puts b (off + at'.toNat) 2 (byteOf v) w w' :=
  iput_yes b off len cap at' 2 v z w hl h0 h1 hv hs hf
theorem iput4_yes (b off len cap : Nat) (at' : Int) (v : Int) (z : Nat → Int) (w : World) (hl : (len : Int) ≤ 9223372036854775807) (h0 : 0 ≤ at') (h1 : at' + 4 ≤ len)
    (hv : 0 ≤ v) (hs : Seg w b off len z) (hf : Soft w b off len) :
    Calls Tryd.prog 127 #[.slice (some ⟨b, off, none⟩) len cap, .int .i64 at', .int .i64 4, .int .u32 v] w fun e w' => e = .returned (.bool true) ∧ Puts b (off + at'.toNat) 4 (byteOf v) w w' :=
  iput_yes b off len cap at' 4 v z w hl h0 h1 hv hs hf

theorem put16_yes (b off len cap : Nat) (at' : Int) (v : Int) (z : Nat → Int) (w : World) (hl : (len : Int) ≤ 9223372036854775807) (h0 : 0 ≤ at') (h1 : at' + 2 ≤ len)
    (hv : 0 ≤ v) (hv2 : v ≤ 65535) (hs : Seg w b off len z) (hf : Soft w b off len) :
    Calls Tryd.prog 86 #[.slice (some ⟨b, off, none⟩) len cap, .int .i64 at', .int .u32 v] w fun e w' => e = .returned (.bool true) ∧ Puts b (off + at'.toNat) 2 (byteOf v) w w' := by
  go_enter Tryd.func86, Tryd.ntmps86
  go_wp2_with (go_at_call 127; refine (iput2_yes _ _ _ _ _ _ z _ hl h0 h1 hv hs hf).mono ?_; rintro e w' ⟨rfl, hp⟩)
  go_ret
  exact ⟨rfl, hp⟩
theorem put16_no (a : Option Addr) (len cap : Nat) (at' : Int) (v : Int) (w : World) (hl : (len : Int) ≤ 9223372036854775807) (h : ¬ (0 ≤ at' ∧ at' + 2 ≤ len ∧ v ≤ 65535)) :
    Calls Tryd.prog 86 #[.slice a len cap, .int .i64 at', .int .u32 v] w fun e w' => e = .returned (.bool false) ∧ w = w' := by
  by_cases hv : 65535 < v
  · clear h
    go_enter Tryd.func86, Tryd.ntmps86
    go_wp2_with fail
    go_ret
    exact ⟨rfl, rfl⟩
  · have h' : ¬ (0 ≤ at' ∧ at' + 2 ≤ len) := by omega
    have H := Lib.hid h'
    clear h h'
    go_enter Tryd.func86, Tryd.ntmps86
    go_wp2_with (go_at_call 127; refine (iput_no _ _ _ _ _ _ _ hl (by omega) H.out).mono ?_; rintro e w' ⟨rfl, rfl⟩)
    go_ret
    exact ⟨rfl, rfl⟩
theorem put32_yes (b off len cap : Nat) (at' : Int) (v : Int) (z : Nat → Int) (w : World) (hl : (len : Int) ≤ 9223372036854775807) (h0 : 0 ≤ at') (h1 : at' + 4 ≤ len)
    (hv : 0 ≤ v) (hs : Seg w b off len z) (hf : Soft w b off len) :
    Calls Tryd.prog 88 #[.slice (some ⟨b, off, none⟩) len cap, .int .i64 at', .int .u32 v] w fun e w' => e = .returned (.bool true) ∧ Puts b (off + at'.toNat) 4 (byteOf v) w w' := by
  go_enter Tryd.func88, Tryd.ntmps88
  go_wp2_with (go_at_call 127; refine (iput4_yes _ _ _ _ _ _ z _ hl h0 h1 hv hs hf).mono ?_; rintro e w' ⟨rfl, hp⟩)
  go_ret
  exact ⟨rfl, hp⟩
theorem put32_no (a : Option Addr) (len cap : Nat) (at' : Int) (v : Int) (w : World) (hl : (len : Int) ≤ 9223372036854775807) (h : ¬ (0 ≤ at' ∧ at' + 4 ≤ len)) :
    Calls Tryd.prog 88 #[.slice a len cap, .int .i64 at', .int .u32 v] w fun e w' => e = .returned (.bool false) ∧ w = w' := by
  have H := Lib.hid h
  clear h
  go_enter Tryd.func88, Tryd.ntmps88
  go_wp2_with (go_at_call 127; refine (iput_no _ _ _ _ _ _ _ hl (by omega) H.out).mono ?_; rintro e w' ⟨rfl, rfl⟩)
  go_ret
  exact ⟨rfl, rfl⟩

theorem zero_any (a : Option Addr) (len cap : Nat) (z : Nat → Int) (w : World) (hl : (len : Int) ≤ 9223372036854775807) (hs : Row w a len z) :
    Calls Tryd.prog 99 #[.slice a len cap] w fun e w' => e = .returned (.bool (allZ z len)) ∧ w = w' := by
  have start : allZ z 0 = true := by simp [allZ]
  have START := Lib.hid start
  clear start
  go_enter Tryd.func99, Tryd.ntmps99
  go_wp2
  go_loop [7] (fun k => ∃ j : Nat, j ≤ len ∧ k = .int .i64 j ∧ Hid (allZ z j = true)) (fun k => len - (intOf k).toNat)
  case atStart => exact ⟨0, by omega, rfl, START⟩
  case round =>
    obtain ⟨j, hj, rfl, hall⟩ := hrel
    by_cases hlt : j < len
    · rcases hs with h0 | ⟨b, off, rfl, hs⟩
      · omega
      have hc := hs j hlt
      by_cases hz : z j = 0
      · have hz' : (z j != 0) = false := by simp [hz]
        have HZ := Lib.hid hz
        clear hz
        go_wp2
        go_round
        case rel => exact ⟨j + 1, by omega, by go_num, by show allZ z (j + 1) = true; rw [allZ_succ, hall.out, HZ.out]; rfl⟩
        case measure => simp [intOf]; omega
      · have hz' : (z j != 0) = true := by simp [hz]
        have HZ := Lib.hid (allZ_no hlt hz)
        clear hz
        go_wp2
        go_ret
        exact ⟨ret_bool (by rw [HZ.out]), rfl⟩
    · obtain rfl : j = len := by omega
      go_wp2
      go_ret
      exact ⟨ret_bool (by rw [hall.out]), rfl⟩
end Go.Proofs.YtnbmmhoofilmfaaDoor
