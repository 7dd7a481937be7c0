/- Texts of this claim, merged by a program (a claim may have 60 files): Mg1. -/
import Derived.Test.YtopakpmepioomaaDoorRows
import Derived.Test.YtopakpmepioomaaDoorK01
import Derived.WalkKit
import Derived.Outline
import Derived.Deep.QuietTactic
import Derived.BigQuiet
import Derived.IntWalk
import Derived.Laws.Tables
import Derived.Laws.CopyOwn
import Derived.Deep.MidRow
import Derived.Deep.OwnRows
import Derived.OwnWalkIn
import Derived.TacticsInMore
import Derived.OrdersIn
/- Texts merged: Nums, Ref1, NumsAny, AppendB, PutsIf, Slice, SliceA, BlkWp, At, Rw, Crc, Inv, Bar, Bar2, Store, RwA, AtIn, Range4, MoveIn, Wz, U6p. -/
/- Contracts of package nums and of quernref01: what each function returns, and what it leaves in memory. -/
namespace Go.Proofs.YtopakpmepioomaaDoor
open Go.RowKit
set_option linter.unusedVariables false

theorem within_yes (n at' size : Int) (w : World) (hn : 0 ≤ n) (hl : n ≤ 9223372036854775807) (hs : 0 ≤ size) (h : 0 ≤ at' ∧ at' + size ≤ n) :
    Calls Tryd.prog 110 #[.int .i64 n, .int .i64 at', .int .i64 size] w fun e w' => e = .returned (.bool true) ∧ w = w' := by
  have h1 : at' ≤ n - size := by omega
  have h2 : size ≤ n := by omega
  obtain ⟨h, _⟩ := h
  go_enter Tryd.func110, Tryd.ntmps110
  go_wp2
  go_ret
  exact ⟨ret_bool (by simp), rfl⟩

theorem within_no (n at' size : Int) (w : World) (hn : 0 ≤ n) (hl : n ≤ 9223372036854775807) (hs : 0 ≤ size) (h : ¬ (0 ≤ at' ∧ at' + size ≤ n)) :
    Calls Tryd.prog 110 #[.int .i64 n, .int .i64 at', .int .i64 size] w fun e w' => e = .returned (.bool false) ∧ w = w' := by
  by_cases h0 : 0 ≤ at'
  · by_cases h2 : size ≤ n
    · have h1 : decide (at' ≤ n - size) = false := by simp; omega
      clear h
      go_enter Tryd.func110, Tryd.ntmps110
      go_wp2
      go_ret
      exact ⟨rfl, rfl⟩
    · clear h
      go_enter Tryd.func110, Tryd.ntmps110
      go_wp2
      go_ret
      exact ⟨rfl, rfl⟩
  · clear h
    go_enter Tryd.func110, Tryd.ntmps110
    go_wp2
    go_ret
    exact ⟨rfl, rfl⟩


set_option maxHeartbeats 1000000 in
theorem iget16_yes (b off len cap : Nat) (at' : Int) (z : Nat → Int) (w : World) (hl : (len : Int) ≤ 9223372036854775807) (h0 : 0 ≤ at') (h1 : at' + 2 ≤ len)
    (hs : Seg w b off len z) (hz : Byt z) :
    Calls Tryd.prog 96 #[.slice (some ⟨b, off, none⟩) len cap, .int .i64 at', .int .i64 2] w fun e w' => e = .returned (.tuple #[.int .u16 (g16 z at'.toNat), .bool true]) ∧ w = w' := by
  obtain ⟨i, rfl⟩ := Int.eq_ofNat_of_zero_le h0
  have c0 := hs (i) (by omega)
  have z0 := hz (i)
  have c1 := hs (i + 1) (by omega)
  have z1 := hz (i + 1)
  have e1 : bits BinOp.or IntKind.u16 0 (z (i + 1)) = z (i + 1) := by have := shl_or_u16 0 (z (i + 1)) (by omega) (by omega) (by omega) (by omega); simpa using this
  have e0 : bits BinOp.or IntKind.u16 ((z (i + 1)) * 256) (z i) = (z (i + 1)) * 256 + z i := shl_or_u16 _ _ (by omega) (by omega) (by omega) (by omega)
  have r : Hid ((z (i + 1)) * 256 + z i = g16 z ((i : Int)).toNat) := by show _ = _; unfold g16; rw [Int.toNat_natCast]; omega
  go_enter Tryd.func96, Tryd.ntmps96
  go_wp2_with (go_at_call 110; refine (within_yes _ _ _ _ (by omega) (by omega) (by omega) (by omega)).mono ?_; rintro e w' ⟨rfl, rfl⟩)
  refine wp_loop_rounds 3 ?_
  rw [rounds_succ]
  go_wp2
  rw [rounds_succ]
  go_wp2
  rw [rounds_succ]
  go_wp2
  go_ret2
  exact ⟨ret_ib r.out rfl, rfl⟩

theorem iget16_no (a : Option Addr) (len cap : Nat) (at' : Int) (w : World) (hl : (len : Int) ≤ 9223372036854775807) (h : ¬ (0 ≤ at' ∧ at' + 2 ≤ len)) :
    Calls Tryd.prog 96 #[.slice a len cap, .int .i64 at', .int .i64 2] w fun e w' => e = .returned (.tuple #[.int .u16 0, .bool false]) ∧ w = w' := by
  have H := Lib.hid h
  clear h
  go_enter Tryd.func96, Tryd.ntmps96
  go_wp2_with (go_at_call 110; refine (within_no _ _ _ _ (by omega) (by omega) (by omega) H.out).mono ?_; rintro e w' ⟨rfl, rfl⟩)
  go_ret2
  exact ⟨rfl, rfl⟩

theorem get16_yes (b off len cap : Nat) (at' : Int) (z : Nat → Int) (w : World) (hl : (len : Int) ≤ 9223372036854775807) (h0 : 0 ≤ at') (h1 : at' + 2 ≤ len)
    (hs : Seg w b off len z) (hz : Byt z) :
    Calls Tryd.prog 73 #[.slice (some ⟨b, off, none⟩) len cap, .int .i64 at'] w fun e w' => e = .returned (.tuple #[.int .u32 (g16 z at'.toNat), .bool true]) ∧ w = w' := by
  have hb := g16_bd hz at'.toNat
  go_enter Tryd.func73, Tryd.ntmps73
  go_wp2_with (go_at_call 96; refine (iget16_yes _ _ _ _ _ z _ hl h0 h1 hs hz).mono ?_; rintro e w' ⟨rfl, rfl⟩)
  go_ret2
  exact ⟨rfl, rfl⟩

theorem get16_no (a : Option Addr) (len cap : Nat) (at' : Int) (w : World) (hl : (len : Int) ≤ 9223372036854775807) (h : ¬ (0 ≤ at' ∧ at' + 2 ≤ len)) :
    Calls Tryd.prog 73 #[.slice a len cap, .int .i64 at'] w fun e w' => e = .returned (.tuple #[.int .u32 0, .bool false]) ∧ w = w' := by
  have H := Lib.hid h
  clear h
  go_enter Tryd.func73, Tryd.ntmps73
  go_wp2_with (go_at_call 96; refine (iget16_no _ _ _ _ _ hl H.out).mono ?_; rintro e w' ⟨rfl, rfl⟩)
  go_ret2
  exact ⟨rfl, rfl⟩


set_option maxHeartbeats 1000000 in
theorem iget32_yes (b off len cap : Nat) (at' : Int) (z : Nat → Int) (w : World) (hl : (len : Int) ≤ 9223372036854775807) (h0 : 0 ≤ at') (h1 : at' + 4 ≤ len)
    (hs : Seg w b off len z) (hz : Byt z) :
    Calls Tryd.prog 95 #[.slice (some ⟨b, off, none⟩) len cap, .int .i64 at', .int .i64 4] w fun e w' => e = .returned (.tuple #[.int .u32 (g32 z at'.toNat), .bool true]) ∧ w = w' := by
  obtain ⟨i, rfl⟩ := Int.eq_ofNat_of_zero_le h0
  have c0 := hs (i) (by omega)
  have z0 := hz (i)
  have c1 := hs (i + 1) (by omega)
  have z1 := hz (i + 1)
  have c2 := hs (i + 2) (by omega)
  have z2 := hz (i + 2)
  have c3 := hs (i + 3) (by omega)
  have z3 := hz (i + 3)
  have e3 : bits BinOp.or IntKind.u32 0 (z (i + 3)) = z (i + 3) := by have := shl_or_u32 0 (z (i + 3)) (by omega) (by omega) (by omega) (by omega); simpa using this
  have e2 : bits BinOp.or IntKind.u32 ((z (i + 3)) * 256) (z (i + 2)) = (z (i + 3)) * 256 + z (i + 2) := shl_or_u32 _ _ (by omega) (by omega) (by omega) (by omega)
  have e1 : bits BinOp.or IntKind.u32 (((z (i + 3)) * 256 + z (i + 2)) * 256) (z (i + 1)) = ((z (i + 3)) * 256 + z (i + 2)) * 256 + z (i + 1) := shl_or_u32 _ _ (by omega) (by omega) (by omega) (by omega)
  have e0 : bits BinOp.or IntKind.u32 ((((z (i + 3)) * 256 + z (i + 2)) * 256 + z (i + 1)) * 256) (z i) = (((z (i + 3)) * 256 + z (i + 2)) * 256 + z (i + 1)) * 256 + z i := shl_or_u32 _ _ (by omega) (by omega) (by omega) (by omega)
  have r : Hid ((((z (i + 3)) * 256 + z (i + 2)) * 256 + z (i + 1)) * 256 + z i = g32 z ((i : Int)).toNat) := by show _ = _; unfold g32; rw [Int.toNat_natCast]; omega
  go_enter Tryd.func95, Tryd.ntmps95
  go_wp2_with (go_at_call 110; refine (within_yes _ _ _ _ (by omega) (by omega) (by omega) (by omega)).mono ?_; rintro e w' ⟨rfl, rfl⟩)
  refine wp_loop_rounds 5 ?_
  rw [rounds_succ]
  go_wp2
  rw [rounds_succ]
  go_wp2
  rw [rounds_succ]
  go_wp2
  rw [rounds_succ]
  go_wp2
  rw [rounds_succ]
  go_wp2
  go_ret2
  exact ⟨ret_ib r.out rfl, rfl⟩

theorem iget32_no (a : Option Addr) (len cap : Nat) (at' : Int) (w : World) (hl : (len : Int) ≤ 9223372036854775807) (h : ¬ (0 ≤ at' ∧ at' + 4 ≤ len)) :
    Calls Tryd.prog 95 #[.slice a len cap, .int .i64 at', .int .i64 4] w fun e w' => e = .returned (.tuple #[.int .u32 0, .bool false]) ∧ w = w' := by
  have H := Lib.hid h
  clear h
  go_enter Tryd.func95, Tryd.ntmps95
  go_wp2_with (go_at_call 110; refine (within_no _ _ _ _ (by omega) (by omega) (by omega) H.out).mono ?_; rintro e w' ⟨rfl, rfl⟩)
  go_ret2
  exact ⟨rfl, rfl⟩

theorem get32_yes (b off len cap : Nat) (at' : Int) (z : Nat → Int) (w : World) (hl : (len : Int) ≤ 9223372036854775807) (h0 : 0 ≤ at') (h1 : at' + 4 ≤ len)
    (hs : Seg w b off len z) (hz : Byt z) :
    Calls Tryd.prog 72 #[.slice (some ⟨b, off, none⟩) len cap, .int .i64 at'] w fun e w' => e = .returned (.tuple #[.int .u32 (g32 z at'.toNat), .bool true]) ∧ w = w' := by
  have hb := g32_bd hz at'.toNat
  go_enter Tryd.func72, Tryd.ntmps72
  go_wp2_with (go_at_call 95; refine (iget32_yes _ _ _ _ _ z _ hl h0 h1 hs hz).mono ?_; rintro e w' ⟨rfl, rfl⟩)
  go_ret2
  exact ⟨rfl, rfl⟩

theorem get32_no (a : Option Addr) (len cap : Nat) (at' : Int) (w : World) (hl : (len : Int) ≤ 9223372036854775807) (h : ¬ (0 ≤ at' ∧ at' + 4 ≤ len)) :
    Calls Tryd.prog 72 #[.slice a len cap, .int .i64 at'] w fun e w' => e = .returned (.tuple #[.int .u32 0, .bool false]) ∧ w = w' := by
  have H := Lib.hid h
  clear h
  go_enter Tryd.func72, Tryd.ntmps72
  go_wp2_with (go_at_call 95; refine (iget32_no _ _ _ _ _ hl H.out).mono ?_; rintro e w' ⟨rfl, rfl⟩)
  go_ret2
  exact ⟨rfl, rfl⟩


set_option maxHeartbeats 1000000 in
theorem iput_yes (b off len cap : Nat) (at' : Int) (size : Nat) (v : Int) (z : Nat → Int) (w : World) (hl : (len : Int) ≤ 9223372036854775807) (h0 : 0 ≤ at') (h1 : at' + size ≤ len)
    (hv : 0 ≤ v) (hs : Seg w b off len z) (hf : Soft w b off len) :
    Calls Tryd.prog 93 #[.slice (some ⟨b, off, none⟩) len cap, .int .i64 at', .int .i64 size, .int .u32 v] w fun e w' => e = .returned (.bool true) ∧ Puts b (off + at'.toNat) size (byteOf v) w w' := by
  obtain ⟨i, rfl⟩ := Int.eq_ofNat_of_zero_le h0
  rw [Int.toNat_natCast]
  go_enter Tryd.func93, Tryd.ntmps93
  go_wp2_with (go_at_call 110; refine (within_yes _ _ _ _ (by omega) (by omega) (by omega) (by omega)).mono ?_; rintro e w' ⟨rfl, rfl⟩)
  go_loopw [3, 17] (fun u k wr => ∃ j : Nat, j ≤ size ∧ k = .int .i64 j ∧ (∃ x : Int, 0 ≤ x ∧ (∀ m, byteOf x m = byteOf v (j + m)) ∧ u = .int .u32 x) ∧ Puts b (off + i) j (byteOf v) w wr) (fun _ k _ => size - (intOf k).toNat)
  case atStart => exact ⟨0, by omega, rfl, ⟨v, hv, fun m => by rw [Nat.zero_add], rfl⟩, Puts.nil _ _ _ _⟩
  case round =>
    obtain ⟨j, hj, rfl, ⟨x, hx0, hx, rfl⟩, hp⟩ := hrel
    by_cases hlt : j < size
    · have hcw := hs (i + j) (by omega)
      have hc : wr.cell? ⟨b, off + (i + j), none⟩ = some (.int .u8 (z (i + j))) := by
        have := hp.cell (off + (i + j)); rw [if_neg (by omega)] at this; rw [this]; exact hcw
      have hfr : wr.frozen? ⟨b, off + (i + j), none⟩ = false := by rw [hp.only.frozen]; exact hf _ (by omega)
      have HCW := Lib.hid hcw
      have HX := Lib.hid hx
      clear hcw hx
      go_wp2
      go_roundw
      case rel =>
        refine ⟨j + 1, by omega, by go_num, ⟨x / 256, by omega, fun m => ?_, rfl⟩, ?_⟩
        · rw [← byteOf_succ, HX.out]; congr 1; omega
        · have := hp.snoc (u := .int .u8 (z (i + j))) (v := .int .u8 (x % 256)) (by rw [Nat.add_assoc]; exact HCW.out) (by have := HX.out 0; rw [byteOf_zero, Nat.add_zero] at this; rw [this])
          rw [Nat.add_assoc] at this
          exact this
      case measure => simp [intOf]; omega
    · obtain rfl : j = size := by omega
      go_wp2
      go_ret
      exact ⟨rfl, hp⟩

theorem iput_no (a : Option Addr) (len cap : Nat) (at' : Int) (size : Int) (v : Int) (w : World) (hl : (len : Int) ≤ 9223372036854775807) (hs : 0 ≤ size) (h : ¬ (0 ≤ at' ∧ at' + size ≤ len)) :
    Calls Tryd.prog 93 #[.slice a len cap, .int .i64 at', .int .i64 size, .int .u32 v] w fun e w' => e = .returned (.bool false) ∧ w = w' := by
  have H := Lib.hid h
  clear h
  go_enter Tryd.func93, Tryd.ntmps93
  go_wp2_with (go_at_call 110; refine (within_no _ _ _ _ (by omega) (by omega) (by omega) H.out).mono ?_; rintro e w' ⟨rfl, rfl⟩)
  go_ret
  exact ⟨rfl, rfl⟩

theorem iput2_yes (b off len cap : Nat) (at' : Int) (v : Int) (z : Nat → Int) (w : World) (hl : (len : Int) ≤ 9223372036854775807) (h0 : 0 ≤ at') (h1 : at' + 2 ≤ len)
    (hv : 0 ≤ v) (hs : Seg w b off len z) (hf : Soft w b off len) :
    Calls Tryd.prog 93 #[.slice (some ⟨b, off, none⟩) len cap, .int .i64 at', .int .i64 2, .int .u32 v] w fun e w' => e = .returned (.bool true) ∧ Puts b (off + at'.toNat) 2 (byteOf v) w w' :=
  iput_yes b off len cap at' 2 v z w hl h0 h1 hv hs hf
theorem iput4_yes (b off len cap : Nat) (at' : Int) (v : Int) (z : Nat → Int) (w : World) (hl : (len : Int) ≤ 9223372036854775807) (h0 : 0 ≤ at') (h1 : at' + 4 ≤ len)
    (hv : 0 ≤ v) (hs : Seg w b off len z) (hf : Soft w b off len) :
    Calls Tryd.prog 93 #[.slice (some ⟨b, off, none⟩) len cap, .int .i64 at', .int .i64 4, .int .u32 v] w fun e w' => e = .returned (.bool true) ∧ Puts b (off + at'.toNat) 4 (byteOf v) w w' :=
  iput_yes b off len cap at' 4 v z w hl h0 h1 hv hs hf

theorem put16_yes (b off len cap : Nat) (at' : Int) (v : Int) (z : Nat → Int) (w : World) (hl : (len : Int) ≤ 9223372036854775807) (h0 : 0 ≤ at') (h1 : at' + 2 ≤ len)
    (hv : 0 ≤ v) (hv2 : v ≤ 65535) (hs : Seg w b off len z) (hf : Soft w b off len) :
    Calls Tryd.prog 68 #[.slice (some ⟨b, off, none⟩) len cap, .int .i64 at', .int .u32 v] w fun e w' => e = .returned (.bool true) ∧ Puts b (off + at'.toNat) 2 (byteOf v) w w' := by
  go_enter Tryd.func68, Tryd.ntmps68
  go_wp2_with (go_at_call 93; refine (iput2_yes _ _ _ _ _ _ z _ hl h0 h1 hv hs hf).mono ?_; rintro e w' ⟨rfl, hp⟩)
  go_ret
  exact ⟨rfl, hp⟩
theorem put16_no (a : Option Addr) (len cap : Nat) (at' : Int) (v : Int) (w : World) (hl : (len : Int) ≤ 9223372036854775807) (h : ¬ (0 ≤ at' ∧ at' + 2 ≤ len ∧ v ≤ 65535)) :
    Calls Tryd.prog 68 #[.slice a len cap, .int .i64 at', .int .u32 v] w fun e w' => e = .returned (.bool false) ∧ w = w' := by
  by_cases hv : 65535 < v
  · clear h
    go_enter Tryd.func68, Tryd.ntmps68
    go_wp2_with fail
    go_ret
    exact ⟨rfl, rfl⟩
  · have h' : ¬ (0 ≤ at' ∧ at' + 2 ≤ len) := by omega
    have H := Lib.hid h'
    clear h h'
    go_enter Tryd.func68, Tryd.ntmps68
    go_wp2_with (go_at_call 93; refine (iput_no _ _ _ _ _ _ _ hl (by omega) H.out).mono ?_; rintro e w' ⟨rfl, rfl⟩)
    go_ret
    exact ⟨rfl, rfl⟩
theorem put32_yes (b off len cap : Nat) (at' : Int) (v : Int) (z : Nat → Int) (w : World) (hl : (len : Int) ≤ 9223372036854775807) (h0 : 0 ≤ at') (h1 : at' + 4 ≤ len)
    (hv : 0 ≤ v) (hs : Seg w b off len z) (hf : Soft w b off len) :
    Calls Tryd.prog 70 #[.slice (some ⟨b, off, none⟩) len cap, .int .i64 at', .int .u32 v] w fun e w' => e = .returned (.bool true) ∧ Puts b (off + at'.toNat) 4 (byteOf v) w w' := by
  go_enter Tryd.func70, Tryd.ntmps70
  go_wp2_with (go_at_call 93; refine (iput4_yes _ _ _ _ _ _ z _ hl h0 h1 hv hs hf).mono ?_; rintro e w' ⟨rfl, hp⟩)
  go_ret
  exact ⟨rfl, hp⟩
theorem put32_no (a : Option Addr) (len cap : Nat) (at' : Int) (v : Int) (w : World) (hl : (len : Int) ≤ 9223372036854775807) (h : ¬ (0 ≤ at' ∧ at' + 4 ≤ len)) :
    Calls Tryd.prog 70 #[.slice a len cap, .int .i64 at', .int .u32 v] w fun e w' => e = .returned (.bool false) ∧ w = w' := by
  have H := Lib.hid h
  clear h
  go_enter Tryd.func70, Tryd.ntmps70
  go_wp2_with (go_at_call 93; refine (iput_no _ _ _ _ _ _ _ hl (by omega) H.out).mono ?_; rintro e w' ⟨rfl, rfl⟩)
  go_ret
  exact ⟨rfl, rfl⟩

theorem zero_any (a : Option Addr) (len cap : Nat) (z : Nat → Int) (w : World) (hl : (len : Int) ≤ 9223372036854775807) (hs : Row w a len z) :
    Calls Tryd.prog 75 #[.slice a len cap] w fun e w' => e = .returned (.bool (allZ z len)) ∧ w = w' := by
  have start : allZ z 0 = true := by simp [allZ]
  have START := Lib.hid start
  clear start
  go_enter Tryd.func75, Tryd.ntmps75
  go_wp2
  go_loop [7] (fun k => ∃ j : Nat, j ≤ len ∧ k = .int .i64 j ∧ Hid (allZ z j = true)) (fun k => len - (intOf k).toNat)
  case atStart => exact ⟨0, by omega, rfl, START⟩
  case round =>
    obtain ⟨j, hj, rfl, hall⟩ := hrel
    by_cases hlt : j < len
    · rcases hs with h0 | ⟨b, off, rfl, hs⟩
      · omega
      have hc := hs j hlt
      by_cases hz : z j = 0
      · have hz' : (z j != 0) = false := by simp [hz]
        have HZ := Lib.hid hz
        clear hz
        go_wp2
        go_round
        case rel => exact ⟨j + 1, by omega, by go_num, by show allZ z (j + 1) = true; rw [allZ_succ, hall.out, HZ.out]; rfl⟩
        case measure => simp [intOf]; omega
      · have hz' : (z j != 0) = true := by simp [hz]
        have HZ := Lib.hid (allZ_no hlt hz)
        clear hz
        go_wp2
        go_ret
        exact ⟨ret_bool (by rw [HZ.out]), rfl⟩
    · obtain rfl : j = len := by omega
      go_wp2
      go_ret
      exact ⟨ret_bool (by rw [hall.out]), rfl⟩
end Go.Proofs.YtopakpmepioomaaDoor

/- Contracts of quernref01: what each function returns, and what it leaves in memory. -/
namespace Go.Proofs.YtopakpmepioomaaDoor
open Go.RowKit
set_option linter.unusedVariables false

set_option maxHeartbeats 1000000 in
theorem rget16_yes (b off len cap : Nat) (at' : Int) (z : Nat → Int) (w : World) (hl : (len : Int) ≤ 9223372036854775807) (h0 : 0 ≤ at') (h1 : at' + 2 ≤ len)
    (hs : Seg w b off len z) (hz : Byt z) :
    Calls Tryd.prog 90 #[.slice (some ⟨b, off, none⟩) len cap, .int .i64 at'] w fun e w' => e = .returned (.tuple #[.int .u32 (g16 z at'.toNat), .bool true]) ∧ ∃ m, w' = w.drewN m := by
  obtain ⟨i, rfl⟩ := Int.eq_ofNat_of_zero_le h0
  have c0 := hs (i) (by omega)
  have z0 := hz (i)
  have c1 := hs (i + 1) (by omega)
  have z1 := hz (i + 1)
  have r : Hid (z i + 256 * z (i + 1) = g16 z ((i : Int)).toNat) := by show _ = _; unfold g16; rw [Int.toNat_natCast]
  have d1 : decide ((len : Int) < 2) = false := by simp; omega
  have d2 : decide ((len : Int) - 2 < (i : Int)) = false := by simp; omega
  go_enter Tryd.func90, Tryd.ntmps90
  go_wp2
  have e11 : IntKind.i64.wrap ((i : Int) + 1) = (i : Int) + 1 := IntWalk.i64_in _ (by omega)
  have e12 : (0 : Int) ≤ (i : Int) + 1 := by omega
  have e13 : ((i : Int) + 1).toNat = i + 1 := by omega
  go_quiet (fail)
  go_wp2
  go_ret2
  exact ⟨ret_ib r.out rfl, _, rfl⟩

theorem rget16_no (a : Option Addr) (len cap : Nat) (at' : Int) (w : World) (hl : (len : Int) ≤ 9223372036854775807) (h : ¬ (0 ≤ at' ∧ at' + 2 ≤ len)) :
    Calls Tryd.prog 90 #[.slice a len cap, .int .i64 at'] w fun e w' => e = .returned (.tuple #[.int .u32 0, .bool false]) ∧ ∃ m, w' = w.drewN m := by
  by_cases h0 : at' < 0
  · clear h
    go_enter Tryd.func90, Tryd.ntmps90
    go_wp2
    go_ret2
    exact ⟨rfl, 0, rfl⟩
  by_cases h1 : len < 2
  · have d1 : decide ((len : Int) < 2) = true := by simp; omega
    clear h
    go_enter Tryd.func90, Tryd.ntmps90
    go_wp2
    go_ret2
    exact ⟨rfl, 0, rfl⟩
  · have d1 : decide ((len : Int) < 2) = false := by simp; omega
    have d2 : decide ((len : Int) - 2 < at') = true := by simp; omega
    clear h
    go_enter Tryd.func90, Tryd.ntmps90
    go_wp2
    go_ret2
    exact ⟨rfl, 0, rfl⟩

set_option maxHeartbeats 1000000 in
theorem rget32_yes (b off len cap : Nat) (at' : Int) (z : Nat → Int) (w : World) (hl : (len : Int) ≤ 9223372036854775807) (h0 : 0 ≤ at') (h1 : at' + 4 ≤ len)
    (hs : Seg w b off len z) (hz : Byt z) :
    Calls Tryd.prog 89 #[.slice (some ⟨b, off, none⟩) len cap, .int .i64 at'] w fun e w' => e = .returned (.tuple #[.int .u32 (g32 z at'.toNat), .bool true]) ∧ ∃ m, w' = w.drewN m := by
  obtain ⟨i, rfl⟩ := Int.eq_ofNat_of_zero_le h0
  have c0 := hs (i) (by omega)
  have z0 := hz (i)
  have c1 := hs (i + 1) (by omega)
  have z1 := hz (i + 1)
  have c2 := hs (i + 2) (by omega)
  have z2 := hz (i + 2)
  have c3 := hs (i + 3) (by omega)
  have z3 := hz (i + 3)
  have r : Hid (z i + 256 * z (i + 1) + 65536 * z (i + 2) + 16777216 * z (i + 3) = g32 z ((i : Int)).toNat) := by show _ = _; unfold g32; rw [Int.toNat_natCast]
  have d1 : decide ((len : Int) < 4) = false := by simp; omega
  have d2 : decide ((len : Int) - 4 < (i : Int)) = false := by simp; omega
  go_enter Tryd.func89, Tryd.ntmps89
  go_wp2
  have e11 : IntKind.i64.wrap ((i : Int) + 1) = (i : Int) + 1 := IntWalk.i64_in _ (by omega)
  have e12 : (0 : Int) ≤ (i : Int) + 1 := by omega
  have e13 : ((i : Int) + 1).toNat = i + 1 := by omega
  have e21 : IntKind.i64.wrap ((i : Int) + 2) = (i : Int) + 2 := IntWalk.i64_in _ (by omega)
  have e22 : (0 : Int) ≤ (i : Int) + 2 := by omega
  have e23 : ((i : Int) + 2).toNat = i + 2 := by omega
  have e31 : IntKind.i64.wrap ((i : Int) + 3) = (i : Int) + 3 := IntWalk.i64_in _ (by omega)
  have e32 : (0 : Int) ≤ (i : Int) + 3 := by omega
  have e33 : ((i : Int) + 3).toNat = i + 3 := by omega
  go_quiet (fail)
  go_wp2
  go_ret2
  exact ⟨ret_ib r.out rfl, _, rfl⟩

theorem rget32_no (a : Option Addr) (len cap : Nat) (at' : Int) (w : World) (hl : (len : Int) ≤ 9223372036854775807) (h : ¬ (0 ≤ at' ∧ at' + 4 ≤ len)) :
    Calls Tryd.prog 89 #[.slice a len cap, .int .i64 at'] w fun e w' => e = .returned (.tuple #[.int .u32 0, .bool false]) ∧ ∃ m, w' = w.drewN m := by
  by_cases h0 : at' < 0
  · clear h
    go_enter Tryd.func89, Tryd.ntmps89
    go_wp2
    go_ret2
    exact ⟨rfl, 0, rfl⟩
  by_cases h1 : len < 4
  · have d1 : decide ((len : Int) < 4) = true := by simp; omega
    clear h
    go_enter Tryd.func89, Tryd.ntmps89
    go_wp2
    go_ret2
    exact ⟨rfl, 0, rfl⟩
  · have d1 : decide ((len : Int) < 4) = false := by simp; omega
    have d2 : decide ((len : Int) - 4 < at') = true := by simp; omega
    clear h
    go_enter Tryd.func89, Tryd.ntmps89
    go_wp2
    go_ret2
    exact ⟨rfl, 0, rfl⟩


set_option maxHeartbeats 1000000 in
theorem rput16_yes (b off len cap : Nat) (at' : Int) (v : Int) (z : Nat → Int) (w : World) (hl : (len : Int) ≤ 9223372036854775807) (h0 : 0 ≤ at') (h1 : at' + 2 ≤ len)
    (hv : 0 ≤ v) (hv2 : v ≤ 65535) (hs : Seg w b off len z) (hz : Byt z) (hf : Soft w b off len) :
    Calls Tryd.prog 50 #[.slice (some ⟨b, off, none⟩) len cap, .int .i64 at', .int .u32 v] w fun e w' => e = .returned (.bool true) ∧ Puts b (off + at'.toNat) 2 (byteOf v) w w' := by
  have HG : Hid (_) := Lib.hid (fun w' (hs : Seg w' b off len z) => rget16_yes b off len cap at' z w' hl h0 h1 hs hz)
  obtain ⟨i, rfl⟩ := Int.eq_ofNat_of_zero_le h0
  rw [Int.toNat_natCast]
  have c0 := hs i (by omega)
  have c1 := hs (i + 1) (by omega)
  have f0 := hf i (by omega)
  have f1 := hf (i + 1) (by omega)
  have HP : Hid (∀ w' : World, Puts b (off + i) 0 (byteOf v) w w' → Puts b (off + i) 2 (byteOf v) w ((w'.setCell ⟨b, off + i, none⟩ (.int .u8 (v % 256))).setCell ⟨b, off + (i + 1), none⟩ (.int .u8 (v / 256)))) := by
    intro w' hp
    have h1 := hp.snoc (u := .int .u8 (z i)) (v := .int .u8 (v % 256)) c0 (by rw [byteOf_zero])
    have h2 := h1.snoc (u := .int .u8 (z (i + 1))) (v := .int .u8 (v / 256)) (by rw [Nat.add_assoc]; exact c1) (by rw [byteOf_succ, byteOf_zero]; congr 1; omega)
    rw [Nat.add_assoc] at h2
    exact h2
  go_enter Tryd.func50, Tryd.ntmps50
  go_wp2_with (go_at_call 90; refine (HG.out _ hs).mono ?_; rintro e w' ⟨rfl, m, rfl⟩)
  go_ret
  exact ⟨rfl, HP.out _ ((Puts.nil _ _ _ _).drewN m)⟩
theorem rput16_no (b off len cap : Nat) (at' : Int) (v : Int) (z : Nat → Int) (w : World) (hl : (len : Int) ≤ 9223372036854775807) (hs : Seg w b off len z) (hz : Byt z) (h : ¬ (0 ≤ at' ∧ at' + 2 ≤ len ∧ v ≤ 65535)) :
    Calls Tryd.prog 50 #[.slice (some ⟨b, off, none⟩) len cap, .int .i64 at', .int .u32 v] w fun e w' => e = .returned (.bool false) ∧ ∃ m, w' = w.drewN m := by
  by_cases h0 : 0 ≤ at' ∧ at' + 2 ≤ len
  · have hv : 65535 < v := by omega
    have HG : Hid (_) := Lib.hid (fun w' (hs : Seg w' b off len z) => rget16_yes b off len cap at' z w' hl h0.1 h0.2 hs hz)
    clear h h0
    go_enter Tryd.func50, Tryd.ntmps50
    go_wp2_with (go_at_call 90; refine (HG.out _ hs).mono ?_; rintro e w' ⟨rfl, m, rfl⟩)
    go_ret
    exact ⟨rfl, m, rfl⟩
  · have HG : Hid (_) := Lib.hid (fun w' => rget16_no (some ⟨b, off, none⟩) len cap at' w' hl h0)
    clear h h0
    go_enter Tryd.func50, Tryd.ntmps50
    go_wp2_with (go_at_call 90; refine (HG.out _).mono ?_; rintro e w' ⟨rfl, m, rfl⟩)
    go_ret
    exact ⟨rfl, m, rfl⟩
theorem rput16_nil (a : Option Addr) (len cap : Nat) (at' : Int) (v : Int) (w : World) (hl : (len : Int) ≤ 9223372036854775807) (h0 : ¬ (0 ≤ at' ∧ at' + 2 ≤ len)) :
    Calls Tryd.prog 50 #[.slice a len cap, .int .i64 at', .int .u32 v] w fun e w' => e = .returned (.bool false) ∧ ∃ m, w' = w.drewN m := by
  have HG : Hid (_) := Lib.hid (fun w' => rget16_no a len cap at' w' hl h0)
  clear h0
  go_enter Tryd.func50, Tryd.ntmps50
  go_wp2_with (go_at_call 90; refine (HG.out _).mono ?_; rintro e w' ⟨rfl, m, rfl⟩)
  go_ret
  exact ⟨rfl, m, rfl⟩


set_option maxHeartbeats 1000000 in
theorem rput32_yes (b off len cap : Nat) (at' : Int) (v : Int) (z : Nat → Int) (w : World) (hl : (len : Int) ≤ 9223372036854775807) (h0 : 0 ≤ at') (h1 : at' + 4 ≤ len)
    (hv : 0 ≤ v) (hv2 : v < 4294967296) (hs : Seg w b off len z) (hz : Byt z) (hf : Soft w b off len) :
    Calls Tryd.prog 49 #[.slice (some ⟨b, off, none⟩) len cap, .int .i64 at', .int .u32 v] w fun e w' => e = .returned (.bool true) ∧ Puts b (off + at'.toNat) 4 (byteOf v) w w' := by
  have HG : Hid (_) := Lib.hid (fun w' (hs : Seg w' b off len z) => rget32_yes b off len cap at' z w' hl h0 h1 hs hz)
  obtain ⟨i, rfl⟩ := Int.eq_ofNat_of_zero_le h0
  rw [Int.toNat_natCast]
  go_enter Tryd.func49, Tryd.ntmps49
  go_wp2_with (go_at_call 89; refine (HG.out _ hs).mono ?_; rintro e w' ⟨rfl, m, rfl⟩)
  go_loopw [2, 9] (fun u k wr => ∃ j : Nat, j ≤ 4 ∧ k = .int .i64 j ∧ (∃ x : Int, 0 ≤ x ∧ x < 4294967296 ∧ (∀ m, byteOf x m = byteOf v (j + m)) ∧ u = .int .u32 x) ∧ Puts b (off + i) j (byteOf v) w wr) (fun _ k _ => 4 - (intOf k).toNat)
  case atStart => exact ⟨0, by omega, rfl, ⟨v, hv, hv2, fun m => by rw [Nat.zero_add], rfl⟩, (Puts.nil _ _ _ _).drewN m⟩
  case round =>
    obtain ⟨j, hj, rfl, ⟨x, hx0, hx1, hx, rfl⟩, hp⟩ := hrel
    by_cases hlt : j < 4
    · have hcw := hs (i + j) (by omega)
      have hc : wr.cell? ⟨b, off + (i + j), none⟩ = some (.int .u8 (z (i + j))) := by
        have := hp.cell (off + (i + j)); rw [if_neg (by omega)] at this; rw [this]; exact hcw
      have hfr : wr.frozen? ⟨b, off + (i + j), none⟩ = false := by rw [hp.only.frozen]; exact hf _ (by omega)
      have HCW := Lib.hid hcw
      have HX := Lib.hid hx
      clear hcw hx
      go_wp2
      go_roundw
      case rel =>
        refine ⟨j + 1, by omega, by go_num, ⟨x / 256, by omega, by omega, fun m => ?_, rfl⟩, ?_⟩
        · rw [← byteOf_succ, HX.out]; congr 1; omega
        · have := hp.snoc (u := .int .u8 (z (i + j))) (v := .int .u8 (x % 256)) (by rw [Nat.add_assoc]; exact HCW.out) (by have := HX.out 0; rw [byteOf_zero, Nat.add_zero] at this; rw [this])
          rw [Nat.add_assoc] at this
          exact this
      case measure => simp [intOf]; omega
    · obtain rfl : j = 4 := by omega
      go_wp2
      go_ret
      exact ⟨rfl, hp⟩
theorem rput32_no (a : Option Addr) (len cap : Nat) (at' : Int) (v : Int) (w : World) (hl : (len : Int) ≤ 9223372036854775807) (h0 : ¬ (0 ≤ at' ∧ at' + 4 ≤ len)) :
    Calls Tryd.prog 49 #[.slice a len cap, .int .i64 at', .int .u32 v] w fun e w' => e = .returned (.bool false) ∧ ∃ m, w' = w.drewN m := by
  have HG : Hid (_) := Lib.hid (fun w' => rget32_no a len cap at' w' hl h0)
  clear h0
  go_enter Tryd.func49, Tryd.ntmps49
  go_wp2_with (go_at_call 89; refine (HG.out _).mono ?_; rintro e w' ⟨rfl, m, rfl⟩)
  go_ret
  exact ⟨rfl, m, rfl⟩

end Go.Proofs.YtopakpmepioomaaDoor

/- The contracts of nums and quernref01 at any slice of bytes and any place. -/
namespace Go.Proofs.YtopakpmepioomaaDoor
open Go.RowKit
set_option linter.unusedVariables false

/-- do n bytes lie at a place of len? -/
def fits (n len : Nat) (at' : Int) : Bool := decide (0 ≤ at' ∧ at' + n ≤ len)
def o16 (z : Nat → Int) (len : Nat) (at' : Int) : Int := if fits 2 len at' then g16 z at'.toNat else 0
def o32 (z : Nat → Int) (len : Nat) (at' : Int) : Int := if fits 4 len at' then g32 z at'.toNat else 0
theorem fits_yes {n len : Nat} {at' : Int} (h : 0 ≤ at' ∧ at' + n ≤ len) : fits n len at' = true := by simp [fits, h]
theorem fits_no {n len : Nat} {at' : Int} (h : ¬ (0 ≤ at' ∧ at' + n ≤ len)) : fits n len at' = false := by simp [fits]; omega
theorem fits_iff {n len : Nat} {at' : Int} : fits n len at' = true ↔ 0 ≤ at' ∧ at' + n ≤ len := by simp [fits]

theorem Row.at {w : World} {a : Option Addr} {n : Nat} {z : Nat → Int} (h : Row w a n z) (h0 : 0 < n) : ∃ b off, a = some ⟨b, off, none⟩ ∧ Seg w b off n z := by
  rcases h with h | h
  · omega
  · exact h
theorem Row.below {w w' : World} {a : Option Addr} {n : Nat} {z : Nat → Int} (h : Row w a n z) {B : Nat} (hb : Below B w w') (hB : w.heap.size ≤ B) : Row w' a n z := by
  rcases h with h | ⟨b, off, rfl, hs⟩
  · exact .inl h
  · refine .inr ⟨b, off, rfl, fun i hi => ?_⟩
    have := World.block_lt_of_cell? w _ (hs i hi)
    rw [hb.cell (p := ⟨b, off + i, none⟩) (by simp at this ⊢; omega)]; exact hs i hi
theorem Row.drewN {w : World} {a : Option Addr} {n : Nat} {z : Nat → Int} (h : Row w a n z) (m : Nat) : Row (w.drewN m) a n z := h
theorem Row.grown {w w' : World} {a : Option Addr} {n : Nat} {z : Nat → Int} {row : Option Nat} (h : Row w a n z) (hb : w.grownBy w' row) (hr : ∀ x, a = some x → some x.block ≠ row) : Row w' a n z := by
  rcases h with h | ⟨b, off, rfl, hs⟩
  · exact .inl h
  · exact .inr ⟨b, off, rfl, fun i hi => hb.cell (hs i hi) (hr ⟨b, off, none⟩ rfl)⟩

theorem get16_any (a : Option Addr) (len cap : Nat) (at' : Int) (z : Nat → Int) (w : World) (hl : (len : Int) ≤ 9223372036854775807) (hs : Row w a len z) (hz : Byt z) :
    Calls Tryd.prog 73 #[.slice a len cap, .int .i64 at'] w fun e w' => e = .returned (.tuple #[.int .u32 (o16 z len at'), .bool (fits 2 len at')]) ∧ w = w' := by
  by_cases h : 0 ≤ at' ∧ at' + 2 ≤ len
  · obtain ⟨b, off, rfl, hs2⟩ := hs.at (by omega); clear hs; have hs := hs2; clear hs2
    rw [o16, fits_yes h, if_pos rfl]
    exact get16_yes b off len cap at' z w hl h.1 h.2 hs hz
  · rw [o16, fits_no h]
    exact get16_no a len cap at' w hl h
theorem get32_any (a : Option Addr) (len cap : Nat) (at' : Int) (z : Nat → Int) (w : World) (hl : (len : Int) ≤ 9223372036854775807) (hs : Row w a len z) (hz : Byt z) :
    Calls Tryd.prog 72 #[.slice a len cap, .int .i64 at'] w fun e w' => e = .returned (.tuple #[.int .u32 (o32 z len at'), .bool (fits 4 len at')]) ∧ w = w' := by
  by_cases h : 0 ≤ at' ∧ at' + 4 ≤ len
  · obtain ⟨b, off, rfl, hs2⟩ := hs.at (by omega); clear hs; have hs := hs2; clear hs2
    rw [o32, fits_yes h, if_pos rfl]
    exact get32_yes b off len cap at' z w hl h.1 h.2 hs hz
  · rw [o32, fits_no h]
    exact get32_no a len cap at' w hl h
theorem rget16_any (a : Option Addr) (len cap : Nat) (at' : Int) (z : Nat → Int) (w : World) (hl : (len : Int) ≤ 9223372036854775807) (hs : Row w a len z) (hz : Byt z) :
    Calls Tryd.prog 90 #[.slice a len cap, .int .i64 at'] w fun e w' => e = .returned (.tuple #[.int .u32 (o16 z len at'), .bool (fits 2 len at')]) ∧ ∃ m, w' = w.drewN m := by
  by_cases h : 0 ≤ at' ∧ at' + 2 ≤ len
  · obtain ⟨b, off, rfl, hs2⟩ := hs.at (by omega); clear hs; have hs := hs2; clear hs2
    rw [o16, fits_yes h, if_pos rfl]
    exact rget16_yes b off len cap at' z w hl h.1 h.2 hs hz
  · rw [o16, fits_no h]
    exact rget16_no a len cap at' w hl h
theorem rget32_any (a : Option Addr) (len cap : Nat) (at' : Int) (z : Nat → Int) (w : World) (hl : (len : Int) ≤ 9223372036854775807) (hs : Row w a len z) (hz : Byt z) :
    Calls Tryd.prog 89 #[.slice a len cap, .int .i64 at'] w fun e w' => e = .returned (.tuple #[.int .u32 (o32 z len at'), .bool (fits 4 len at')]) ∧ ∃ m, w' = w.drewN m := by
  by_cases h : 0 ≤ at' ∧ at' + 4 ≤ len
  · obtain ⟨b, off, rfl, hs2⟩ := hs.at (by omega); clear hs; have hs := hs2; clear hs2
    rw [o32, fits_yes h, if_pos rfl]
    exact rget32_yes b off len cap at' z w hl h.1 h.2 hs hz
  · rw [o32, fits_no h]
    exact rget32_no a len cap at' w hl h

/-- what a put leaves: the bytes, if they fit -/
def PutsIf (c : Bool) (a : Option Addr) (at' : Int) (n : Nat) (f : Nat → Int) (w w' : World) : Prop :=
  if c then ∃ b off, a = some ⟨b, off, none⟩ ∧ Puts b (off + at'.toNat) n f w w' else ∃ m, w' = w.drewN m
def SoftRow (w : World) (a : Option Addr) (n : Nat) : Prop := ∀ b off, a = some ⟨b, off, none⟩ → Soft w b off n

theorem PutsIf.only {c : Bool} {b off : Nat} {at' : Int} {n : Nat} {f : Nat → Int} {w w' : World} (h : PutsIf c (some ⟨b, off, none⟩) at' n f w w') : Only b w w' := by
  cases c with
  | true => obtain ⟨b', off', he, hp⟩ := h; cases he; exact hp.only
  | false => obtain ⟨m, rfl⟩ := h; exact (Only.refl b w).drewN m
theorem PutsIf.seg {c : Bool} {b off : Nat} {at' : Int} {n : Nat} {f : Nat → Int} {w w' : World} (h : PutsIf c (some ⟨b, off, none⟩) at' n f w w') {m : Nat} {z : Nat → Int} (hs : Seg w b off m z) :
    Seg w' b off m (if c then over z at'.toNat n f else z) := by
  cases c with
  | true => obtain ⟨b', off', he, hp⟩ := h; cases he; exact hp.seg hs rfl
  | false => obtain ⟨m', rfl⟩ := h; exact hs

theorem put16_any (a : Option Addr) (len cap : Nat) (at' v : Int) (z : Nat → Int) (w : World) (hl : (len : Int) ≤ 9223372036854775807) (hs : Row w a len z) (hf : SoftRow w a len) (hv : 0 ≤ v) :
    Calls Tryd.prog 68 #[.slice a len cap, .int .i64 at', .int .u32 v] w fun e w' =>
      e = .returned (.bool (fits 2 len at' && decide (v ≤ 65535))) ∧ PutsIf (fits 2 len at' && decide (v ≤ 65535)) a at' 2 (byteOf v) w w' := by
  by_cases h : (0 ≤ at' ∧ at' + 2 ≤ len) ∧ v ≤ 65535
  · obtain ⟨b, off, rfl, hs2⟩ := hs.at (by omega); clear hs; have hs := hs2; clear hs2
    have e1 : (fits 2 len at' && decide (v ≤ 65535)) = true := by rw [fits_yes h.1]; simp [h.2]
    rw [e1]
    exact (put16_yes b off len cap at' v z w hl h.1.1 h.1.2 hv h.2 hs (hf b off rfl)).mono fun e w' hh => ⟨hh.1, b, off, rfl, hh.2⟩
  · have e1 : (fits 2 len at' && decide (v ≤ 65535)) = false := by
      by_cases h1 : 0 ≤ at' ∧ at' + 2 ≤ len
      · rw [fits_yes h1]; simp; omega
      · rw [fits_no h1]; rfl
    rw [e1]
    exact (put16_no a len cap at' v w hl (by omega)).mono fun e w' hh => ⟨hh.1, 0, hh.2.symm⟩
theorem put32_any (a : Option Addr) (len cap : Nat) (at' v : Int) (z : Nat → Int) (w : World) (hl : (len : Int) ≤ 9223372036854775807) (hs : Row w a len z) (hf : SoftRow w a len) (hv : 0 ≤ v) :
    Calls Tryd.prog 70 #[.slice a len cap, .int .i64 at', .int .u32 v] w fun e w' =>
      e = .returned (.bool (fits 4 len at')) ∧ PutsIf (fits 4 len at') a at' 4 (byteOf v) w w' := by
  by_cases h : (0 ≤ at' ∧ at' + 4 ≤ len)
  · obtain ⟨b, off, rfl, hs2⟩ := hs.at (by omega); clear hs; have hs := hs2; clear hs2
    rw [fits_yes h]
    exact (put32_yes b off len cap at' v z w hl h.1 h.2 hv hs (hf b off rfl)).mono fun e w' hh => ⟨hh.1, b, off, rfl, hh.2⟩
  · rw [fits_no h]
    exact (put32_no a len cap at' v w hl h).mono fun e w' hh => ⟨hh.1, 0, hh.2.symm⟩
theorem rput16_any (a : Option Addr) (len cap : Nat) (at' v : Int) (z : Nat → Int) (w : World) (hl : (len : Int) ≤ 9223372036854775807) (hs : Row w a len z) (hz : Byt z) (hf : SoftRow w a len) (hv : 0 ≤ v) :
    Calls Tryd.prog 50 #[.slice a len cap, .int .i64 at', .int .u32 v] w fun e w' =>
      e = .returned (.bool (fits 2 len at' && decide (v ≤ 65535))) ∧ PutsIf (fits 2 len at' && decide (v ≤ 65535)) a at' 2 (byteOf v) w w' := by
  by_cases h1 : 0 ≤ at' ∧ at' + 2 ≤ len
  · obtain ⟨b, off, rfl, hs2⟩ := hs.at (by omega); clear hs; have hs := hs2; clear hs2
    by_cases h2 : v ≤ 65535
    · have e1 : (fits 2 len at' && decide (v ≤ 65535)) = true := by rw [fits_yes h1]; simp [h2]
      rw [e1]
      exact (rput16_yes b off len cap at' v z w hl h1.1 h1.2 hv h2 hs hz (hf b off rfl)).mono fun e w' hh => ⟨hh.1, b, off, rfl, hh.2⟩
    · have e1 : (fits 2 len at' && decide (v ≤ 65535)) = false := by simp; omega
      rw [e1]
      exact (rput16_no b off len cap at' v z w hl hs hz (by omega)).mono fun e w' hh => ⟨hh.1, hh.2⟩
  · have e1 : (fits 2 len at' && decide (v ≤ 65535)) = false := by rw [fits_no h1]; rfl
    rw [e1]
    exact (rput16_nil a len cap at' v w hl h1).mono fun e w' hh => ⟨hh.1, hh.2⟩
theorem rput32_any (a : Option Addr) (len cap : Nat) (at' v : Int) (z : Nat → Int) (w : World) (hl : (len : Int) ≤ 9223372036854775807) (hs : Row w a len z) (hz : Byt z) (hf : SoftRow w a len) (hv : 0 ≤ v) (hv2 : v < 4294967296) :
    Calls Tryd.prog 49 #[.slice a len cap, .int .i64 at', .int .u32 v] w fun e w' =>
      e = .returned (.bool (fits 4 len at')) ∧ PutsIf (fits 4 len at') a at' 4 (byteOf v) w w' := by
  by_cases h : (0 ≤ at' ∧ at' + 4 ≤ len)
  · obtain ⟨b, off, rfl, hs2⟩ := hs.at (by omega); clear hs; have hs := hs2; clear hs2
    rw [fits_yes h]
    exact (rput32_yes b off len cap at' v z w hl h.1 h.2 hv hv2 hs hz (hf b off rfl)).mono fun e w' hh => ⟨hh.1, b, off, rfl, hh.2⟩
  · rw [fits_no h]
    exact (rput32_no a len cap at' v w hl h).mono fun e w' hh => ⟨hh.1, hh.2⟩
end Go.Proofs.YtopakpmepioomaaDoor

/- append of bytes onto a row of bytes of one's own, in this program's own numbers. -/
namespace Go.Proofs.YtopakpmepioomaaDoor
open Go.RowKit
theorem info8 : (Tryd.prog.info? 5).map (fun i => (i.zero, i.size, i.bytes)) = some (some (.int .u8 0), 1, 1) := by kernel_rfl
theorem wp_appendB {w : World} {ops : Array Oper} {rest : List Oper} {o : Oper} {a : Act} {Q : Exit → Act → World → Prop} (hgd : o.guard = none) (s x : Operand)
    (ho : o.op = .call { callee := .builtin .append, args := #[s, x], argTypes := #[102, 102] }) (base : Nat)
    (sa : Option Addr) (n cap : Nat) (z : Nat → Int) (hs : a.eval s = .slice sa n cap) (hown : Mine w base 5 sa n cap z)
    (xa : Option Addr) (m c : Nat) (y : Nat → Int) (hx : a.eval x = .slice xa m c) (hc : xa = none → c = 0) (hr : Row w xa m y)
    (hm : n + m ≤ 140737488355328) (hbase : base ≤ w.heap.size)
    (h : ∀ sa' cap' w', Mine w' base 5 sa' (n + m) cap' (cat z n y) → w.grownBy w' (Value.slice sa n cap).ownBlock → (sa' = none → n + m = 0) → wpList Tryd.prog ops Q rest (a.put o.dst (.slice sa' (n + m) cap')) w') :
    wpList Tryd.prog ops Q (o :: rest) a w := by
  obtain ⟨i0, hi, hz0, hz1, hz2⟩ := info_parts info8
  exact wpList_append_bytes hgd s x _ ho base _ i0 Tryd.underlying102 hi hz0 hz1 hz2 sa n cap z hs hown xa m c y hx hc hr hm hbase h
end Go.Proofs.YtopakpmepioomaaDoor

/- What a put leaves, of any rows. -/
namespace Go.Proofs.YtopakpmepioomaaDoor
open Go.RowKit
theorem PutsIf.row {c : Bool} {a : Option Addr} {at' : Int} {n : Nat} {f : Nat → Int} {w w' : World} (h : PutsIf c a at' n f w w') {m : Nat} {z : Nat → Int} (hs : Row w a m z) :
    Row w' a m (if c then over z at'.toNat n f else z) := by
  rcases hs with h0 | ⟨b, off, rfl, hs⟩
  · exact .inl h0
  · exact .inr ⟨b, off, rfl, h.seg hs⟩
theorem PutsIf.soft {c : Bool} {a : Option Addr} {at' : Int} {n : Nat} {f : Nat → Int} {w w' : World} (h : PutsIf c a at' n f w w') {x : Option Addr} {m : Nat} (hs : SoftRow w x m) : SoftRow w' x m := by
  intro b off he
  cases c with
  | true => obtain ⟨b', off', _, hp⟩ := h; exact hp.soft (hs b off he)
  | false => obtain ⟨m', rfl⟩ := h; exact hs b off he
theorem PutsIf.below {c : Bool} {a : Option Addr} {at' : Int} {n : Nat} {f : Nat → Int} {w w' : World} (h : PutsIf c a at' n f w w') {B : Nat} (hB : ∀ x, a = some x → B ≤ x.block) : Below B w w' := by
  cases c with
  | true => obtain ⟨b', off', he, hp⟩ := h; exact hp.only.below (hB _ he)
  | false => obtain ⟨m', rfl⟩ := h; exact bel_drewN (Below.refl _ _) _
theorem PutsIf.other {c : Bool} {a : Option Addr} {at' : Int} {n : Nat} {f : Nat → Int} {w w' : World} (h : PutsIf c a at' n f w w') {x : Option Addr} {m : Nat} {z : Nat → Int} (hs : Row w x m z)
    (hne : ∀ p q, a = some p → x = some q → q.block ≠ p.block) : Row w' x m z := by
  cases c with
  | true =>
    obtain ⟨b', off', he, hp⟩ := h
    exact hp.only.row (fun q hq => hne _ q he hq) hs
  | false => obtain ⟨m', rfl⟩ := h; exact hs
theorem Mine.soft {w : World} {base : Nat} {e : TypeId} {sa : Option Addr} {n cap : Nat} {z : Nat → Int} (hm : Mine w base e sa n cap z) : SoftRow w sa n := by
  intro b off he
  rcases hm.parts with ⟨h0, _⟩ | ⟨g, rfl, hg1, hgl, hc1, hs2, hf2⟩
  · rw [h0] at he; cases he
  · cases he; exact fun i hi => hf2 i (by omega)
end Go.Proofs.YtopakpmepioomaaDoor

/- Slices of slices of bytes: what 's[k:]' is, in this program's own numbers. -/
namespace Go.Proofs.YtopakpmepioomaaDoor
open Go.RowKit
/-- where 's[k:]' begins -/
def slAt (a : Option Addr) (k cap : Nat) : Option Addr := if cap = k then a else a.map (·.add k)
theorem Row.slice {w : World} {a : Option Addr} {len cap k : Nat} {z : Nat → Int} (h : Row w a len z) (hk : k ≤ len) (hc : len ≤ cap) : Row w (slAt a k cap) (len - k) (fun i => z (k + i)) := by
  by_cases h0 : len - k = 0
  · exact .inl h0
  · rcases h with h | ⟨b, off, rfl, hs⟩
    · omega
    · unfold slAt
      rw [if_neg (by omega)]
      refine .inr ⟨b, off + k, ?_, hs.sub k _ (by omega)⟩
      simp only [Option.map_some, Addr.add]
      by_cases hk0 : k = 0
      · subst hk0; rw [if_pos rfl, Nat.add_zero]
      · rw [if_neg hk0]
theorem run_sl_low (a : Option Addr) (len cap k : Nat) (K : Int) (hK : K = (k : Int)) (hk : k ≤ len) (w : World) :
    (Instr.slice 102 (.slice a len cap) (some (.int .i64 K)) none none).run Tryd.prog w = .ok (.slice (slAt a k cap) (len - k) (cap - k)) w := by
  subst hK
  have hsz : (sizeOf 5).run Tryd.prog w = .ok 1 w := by kernel_rfl
  rw [run_slice_l w 102 a len cap (by kernel_rfl) .i64 (k : Int) (by omega) (by omega), show Tryd.prog.elem 102 = 5 from by kernel_rfl, hsz]
  simp only [Result.andThen, sliced, slAt, Int.toNat_natCast, Nat.mul_one]
end Go.Proofs.YtopakpmepioomaaDoor

/- Slices of a block of 256 bytes, by a pointer to it, in this program's own numbers. -/
namespace Go.Proofs.YtopakpmepioomaaDoor
open Go.RowKit
set_option linter.unusedVariables false
theorem addr_add (g o k : Nat) : (⟨g, o, none⟩ : Addr).add k = ⟨g, o + k, none⟩ := by
  unfold Addr.add; split
  · next h => subst h; rfl
  · rfl
theorem run_sliceBlk (g o lo hi : Nat) (L H : Int) (hL : L = (lo : Int)) (hH : H = (hi : Int)) (h1 : lo ≤ hi) (h2 : hi ≤ 256) (h3 : lo < 256) (W : World) :
    (Instr.sliceAt 32 (.pointer (some ⟨g, o, none⟩)) (some (.int .i64 L)) (some (.int .i64 H)) none).run Tryd.prog W = .ok (.slice (some ⟨g, o + lo, none⟩) (hi - lo) (256 - lo)) W := by
  subst hL hH
  have hal : Tryd.prog.arrayLen 32 = 256 := by kernel_rfl
  have hsz : ∀ W, (sizeOf (Tryd.prog.elem 32)).run Tryd.prog W = .ok 1 W := fun W => by kernel_rfl
  rw [run_sliceAt_array_lh W 32 _ (by kernel_rfl) .i64 .i64 (lo : Int) (hi : Int) (by omega) (by omega) (by rw [hal]; omega), hsz, hal]
  simp only [Result.andThen, slicedAt, Int.toNat_natCast, Nat.mul_one]
  rw [if_neg (by omega), addr_add]
theorem run_sliceBlkAll (g o : Nat) (W : World) :
    (Instr.sliceAt 32 (.pointer (some ⟨g, o, none⟩)) none none none).run Tryd.prog W = .ok (.slice (some ⟨g, o, none⟩) 256 256) W := by
  have hal : Tryd.prog.arrayLen 32 = 256 := by kernel_rfl
  have hsz : ∀ W, (sizeOf (Tryd.prog.elem 32)).run Tryd.prog W = .ok 1 W := fun W => by kernel_rfl
  rw [run_sliceAt_array_all W 32 _ (by kernel_rfl), hsz, hal]
  simp only [Result.andThen, slicedAt]
  rfl
end Go.Proofs.YtopakpmepioomaaDoor

/- Whole blocks loaded and stored, as laws for the walk, in this program's own numbers. -/
namespace Go.Proofs.YtopakpmepioomaaDoor
open Go.RowKit
set_option linter.unusedVariables false
abbrev bval (z : Nat → Int) : Value := .agg (Ks .u8 256 z).toArray
theorem zero_block (W : World) : (zeroValue 32).run Tryd.prog W = .ok (.agg (Ks .u8 256 (fun _ => 0)).toArray) W := by kernel_rfl
theorem info_block : (Tryd.prog.info? 32).map (·.size) = some 256 := by kernel_rfl
theorem info_block' (z : Nat → Int) : (Tryd.prog.info? 32).map (·.size) = some (Ks .u8 256 z).toArray.size := by rw [Ks_size]; exact info_block
theorem run_eql_block (z y : Nat → Int) (w : World) : (binOp .eql 32 (.agg (Ks .u8 256 z).toArray) (.agg (Ks .u8 256 y).toArray)).run Tryd.prog w = .ok (.bool (eqB z y 256)) w := by
  obtain ⟨i, hi, _⟩ := info_parts info8
  exact run_eql_ints w Tryd.underlying32 hi Tryd.underlying5 (by kernel_rfl) z y
theorem run_neq_block (z y : Nat → Int) (w : World) : (binOp .neq 32 (.agg (Ks .u8 256 z).toArray) (.agg (Ks .u8 256 y).toArray)).run Tryd.prog w = .ok (.bool (!eqB z y 256)) w := by
  obtain ⟨i, hi, _⟩ := info_parts info8
  exact run_neq_ints w Tryd.underlying32 hi Tryd.underlying5 (by kernel_rfl) z y
theorem Blk.range {w : World} {g : Nat} {T : TypeId} {n : Nat} {z : Nat → Int} (h : Blk w g T n z) : w.rangeAt g 0 (Ks .u8 n z) := by
  intro j v hj
  rw [Nat.zero_add]
  exact cell_of_heap h (by simpa using hj)
theorem rangeAt_below {w w' : World} {b o : Nat} {cs : List Value} (h : w.rangeAt b o cs) {B : Nat} (hb : Below B w w') (hB : b < B) : w'.rangeAt b o cs := fun j v hv => (hb.cell (p := ⟨b, o + j, none⟩) hB).trans (h j v hv)
theorem Blk.setRow {w : World} {g : Nat} {T : TypeId} {n : Nat} {z : Nat → Int} (h : Blk w g T n z) (y : Nat → Int) : Blk (w.setRow g (Ks .u8 n y).toArray) g T n y := setRow_heap w g _ _ T (0, 0) h
theorem only_setRow (w : World) (g : Nat) (cs : Array Value) {old : Array Value} {t : TypeId} (h : w.heap[g]? = some (.cells old t (0, 0))) (hs : cs.size = old.size) : Only g w (w.setRow g cs) := by
  refine ⟨rfl, rfl, rfl, size_setRow _ _ _, fun k hk => setRow_other _ _ _ _ hk, fun a => ?_, fun c e fr hc => ?_⟩
  · by_cases ha : a.block = g
    · unfold World.frozen?
      rw [ha, h, setRow_heap w g _ cs t (0, 0) h]
    · exact World.frozen?_of_block (w := w) (setRow_other _ _ _ _ ha)
  · rw [h] at hc
    injection hc with hc
    injection hc with h1 h2 h3
    subst h1 h2 h3
    exact ⟨cs, hs, setRow_heap w g _ cs _ _ h⟩
theorem results_row_tmp {P : Program} {fn : Func} {p u : Tmp} {ty : TypeId} (h : fn.results = #[.cell p ty, .tmp u]) (tmps : Array Value) (w : World) (g : Nat) (t : TypeId) (cs : Array Value) (fr : Nat × Nat) (d : TypeDesc)
    (hp : tmps.getD p undef = .pointer (some ⟨g, 0, none⟩)) (hg : w.heap[g]? = some (.cells cs t fr))
    (hu : P.underlying ty = some d) (hd : (match d with | .struct _ | .array _ _ => true | _ => false) = true) (hi : (P.info? ty).map (·.size) = some cs.size) :
    (results fn tmps).run P w = .ok (.tuple #[.agg cs, tmps.getD u undef]) w := by
  have hp' : tmps[p]?.getD undef = .pointer (some ⟨g, 0, none⟩) := by simpa using hp
  simp [results, h, hp', asAddr, run_loadVar_row w g t ty cs fr d hg hu hd hi]

theorem wp_loadBlk {w : World} {ops : Array Oper} {rest : List Oper} {o : Oper} {a : Act} {Q : Exit → Act → World → Prop} (hgd : o.guard = none) (x : Operand) (ho : o.op = .load 32 x)
    (g : Nat) (z : Nat → Int) (hx : a.eval x = .pointer (some ⟨g, 0, none⟩)) (hB : Blk w g 32 256 z)
    (h : wpList Tryd.prog ops Q rest (a.put o.dst (bval z)) w) : wpList Tryd.prog ops Q (o :: rest) a w :=
  wpList_load_row hgd 32 x ho g hx 32 (Ks .u8 256 z).toArray (0, 0) _ hB Tryd.underlying32 rfl (info_block' _) h
theorem wp_storeBlk {w : World} {ops : Array Oper} {rest : List Oper} {o : Oper} {a : Act} {Q : Exit → Act → World → Prop} (hgd : o.guard = none) (x y : Operand) (ho : o.op = .store 32 x y)
    (g : Nat) (z old : Nat → Int) (hx : a.eval x = .pointer (some ⟨g, 0, none⟩)) (hy : a.eval y = bval z) (hB : Blk w g 32 256 old)
    (h : ∀ w', Blk w' g 32 256 z → Only g w w' → wpList Tryd.prog ops Q rest (a.put o.dst undef) w') : wpList Tryd.prog ops Q (o :: rest) a w :=
  wpList_store_row hgd 32 x y ho g (Ks .u8 256 z).toArray hx hy 32 _ hB (info_block' _) (by rw [Ks_size, Ks_size]) (Ks_one _ _ _) (h _ (hB.setRow z) (only_setRow w g _ hB (by rw [Ks_size, Ks_size])))
end Go.Proofs.YtopakpmepioomaaDoor

/- A struct in a heap block: read, stored. -/
namespace Go.Proofs.YtopakpmepioomaaDoor
open Go.RowKit
set_option linter.unusedVariables false

/-- heap block g is this row of cells -/
def At (w : World) (g : Nat) (T : TypeId) (cs : Array Value) : Prop := w.heap[g]? = some (.cells cs T (0, 0))
theorem At.lt {w : World} {g : Nat} {T : TypeId} {cs : Array Value} (h : At w g T cs) : g < w.heap.size := (Array.getElem?_eq_some_iff.1 h).1
theorem At.new (w : World) (T : TypeId) (cs : Array Value) : At (w.alloc (.cells cs T)) w.heap.size T cs := heap_alloc_new w _
theorem At.alloc {w : World} {g : Nat} {T : TypeId} {cs : Array Value} (h : At w g T cs) (o : Obj) : At (w.alloc o) g T cs := heap_alloc_keep h o
theorem At.below {w w' : World} {g : Nat} {T : TypeId} {cs : Array Value} (h : At w g T cs) {B : Nat} (hb : Below B w w') (hg : g < B) : At w' g T cs := (hb.block g hg).trans h
theorem At.only {w w' : World} {g : Nat} {T : TypeId} {cs : Array Value} (h : At w g T cs) {b : Nat} (hb : Only b w w') (hg : g ≠ b) : At w' g T cs := (hb.block g hg).trans h
theorem At.cell {w : World} {g : Nat} {T : TypeId} {cs : Array Value} (h : At w g T cs) {i : Nat} {v : Value} (hi : cs[i]? = some v) : w.cell? ⟨g, i, none⟩ = some v := cell_of_heap h hi
theorem At.range {w : World} {g : Nat} {T : TypeId} {cs : Array Value} (h : At w g T cs) : w.rangeAt g 0 cs.toList := by
  intro j v hj
  rw [Nat.zero_add]
  exact cell_of_heap h (by simpa using hj)
/-- a struct stored whole -/
theorem wp_storeAt {P : Program} {w : World} {ops : Array Oper} {rest : List Oper} {o : Oper} {a : Act} {Q : Exit → Act → World → Prop} (hgd : o.guard = none) (T : TypeId) (p q : Operand) (ho : o.op = .store T p q)
    (g : Nat) (cs old : Array Value) (hx : a.eval p = .pointer (some ⟨g, 0, none⟩)) (hy : a.eval q = .agg cs) (hI : At w g T old) (hi : (P.info? T).map (·.size) = some cs.size) (hs : old.size = cs.size) (h1 : cs.all (·.oneCell') = true)
    (h : ∀ w', At w' g T cs → Only g w w' → wpList P ops Q rest (a.put o.dst undef) w') : wpList P ops Q (o :: rest) a w :=
  wpList_store_row hgd T p q ho g cs hx hy T _ hI hi hs h1 (h _ (setRow_heap w g _ cs _ _ hI) (only_setRow w g _ hI hs.symm))
theorem wp_loadAtG {P : Program} {w : World} {ops : Array Oper} {rest : List Oper} {o : Oper} {a : Act} {Q : Exit → Act → World → Prop} (hw : Region.wanted o (yielded ops a.tmps) = true) (T : TypeId) (p : Operand) (ho : o.op = .load T p)
    (g : Nat) (cs : Array Value) (d : TypeDesc) (hx : a.eval p = .pointer (some ⟨g, 0, none⟩)) (hI : At w g T cs) (hu : P.underlying T = some d) (hd : (match d with | .struct _ | .array _ _ => true | _ => false) = true) (hi : (P.info? T).map (·.size) = some cs.size)
    (h : wpList P ops Q rest (a.put o.dst (.agg cs)) w) : wpList P ops Q (o :: rest) a w :=
  BigFrame.wpList_want hw fun _ hK => wp_load_row T p ho g hx T cs (0, 0) d hI hu hd hi (hK _ _ h)
theorem wp_loadBlkG {w : World} {ops : Array Oper} {rest : List Oper} {o : Oper} {a : Act} {Q : Exit → Act → World → Prop} (hw : Region.wanted o (yielded ops a.tmps) = true) (p : Operand) (ho : o.op = .load 32 p)
    (g : Nat) (z : Nat → Int) (hx : a.eval p = .pointer (some ⟨g, 0, none⟩)) (hB : Blk w g 32 256 z)
    (h : wpList Tryd.prog ops Q rest (a.put o.dst (bval z)) w) : wpList Tryd.prog ops Q (o :: rest) a w :=
  BigFrame.wpList_want hw fun _ hK => wp_load_row 32 p ho g hx 32 (Ks .u8 256 z).toArray (0, 0) _ hB Tryd.underlying32 rfl (info_block' _) (hK _ _ h)
end Go.Proofs.YtopakpmepioomaaDoor

/- Rows of structs in memory of one's own: the cells of n elements f 0, f 1, .., each of m cells. No program in sight. -/
namespace Go.Proofs.YtopakpmepioomaaDoor
open Go.RowKit
set_option linter.unusedVariables false

/-- the cells of n elements -/
def Cs (f : Nat → List Value) : Nat → List Value
  | 0 => []
  | k + 1 => Cs f k ++ f k
theorem Cs_succ (f : Nat → List Value) (n : Nat) : Cs f (n + 1) = Cs f n ++ f n := rfl
theorem Cs_length {f : Nat → List Value} {m : Nat} (hf : ∀ i, (f i).length = m) (n : Nat) : (Cs f n).length = n * m := by
  induction n with
  | zero => simp [Cs]
  | succ n ih => rw [Cs, List.length_append, ih, hf, Nat.succ_mul]
theorem Cs_get {f : Nat → List Value} {m : Nat} (hf : ∀ i, (f i).length = m) {n i j : Nat} (hi : i < n) (hj : j < m) : (Cs f n)[i * m + j]? = (f i)[j]? := by
  induction n with
  | zero => omega
  | succ n ih =>
    rw [Cs]
    by_cases h : i < n
    · rw [List.getElem?_append_left, ih h]
      rw [Cs_length hf]
      have : (i + 1) * m ≤ n * m := Nat.mul_le_mul_right m h
      rw [Nat.succ_mul] at this
      omega
    · obtain rfl : i = n := by omega
      rw [List.getElem?_append_right (by rw [Cs_length hf]; omega), Cs_length hf]
      congr 1; omega
theorem Cs_congr {f g : Nat → List Value} {n : Nat} (h : ∀ i, i < n → f i = g i) : Cs f n = Cs g n := by
  induction n with
  | zero => rfl
  | succ n ih => rw [Cs, Cs, ih fun i hi => h i (by omega), h n (by omega)]
theorem Cs_one {f : Nat → List Value} (hf : ∀ i, ∀ v ∈ f i, v.oneCell' = true) (n : Nat) : ∀ v ∈ Cs f n, v.oneCell' = true := by
  induction n with
  | zero => intro v hv; cases hv
  | succ n ih =>
    intro v hv
    rw [Cs] at hv
    rcases List.mem_append.1 hv with h | h
    · exact ih v h
    · exact hf n v h
theorem Cs_cat (f : Nat → List Value) (k m : Nat) : Cs f k ++ Cs (fun i => f (k + i)) m = Cs f (k + m) := by
  induction m with
  | zero => simp [Cs]
  | succ m ih => show _ ++ (_ ++ _) = Cs f (k + m) ++ _; rw [← List.append_assoc, ih]; rfl
theorem Cs_two (f : Nat → List Value) (k : Nat) : Cs f k ++ (f k ++ f (k + 1)) = Cs f (k + 2) := by rw [← List.append_assoc]; rfl

/-- n elements stand at a place -/
def RSeg (w : World) (b off m n : Nat) (f : Nat → List Value) : Prop := ∀ i, i < n → ∀ j v, (f i)[j]? = some v → w.cell? ⟨b, off + i * m + j, none⟩ = some v
def RRow (w : World) (a : Option Addr) (m n : Nat) (f : Nat → List Value) : Prop := n = 0 ∨ ∃ b off, a = some ⟨b, off, none⟩ ∧ RSeg w b off m n f
theorem RSeg.range {w : World} {b off m n : Nat} {f : Nat → List Value} (h : RSeg w b off m n f) (i : Nat) (hi : i < n) : w.rangeAt b (off + i * m) (f i) := fun j v hv => h i hi j v hv
theorem RSeg.below {w w' : World} {b off m n : Nat} {f : Nat → List Value} (h : RSeg w b off m n f) {B : Nat} (hb : Below B w w') (hB : b < B) : RSeg w' b off m n f :=
  fun i hi j v hv => (hb.cell (p := ⟨b, off + i * m + j, none⟩) hB).trans (h i hi j v hv)
theorem RSeg.lt {w : World} {b off m n : Nat} {f : Nat → List Value} (h : RSeg w b off m n f) (hn : 0 < n) (hf : f 0 ≠ []) : b < w.heap.size := by
  cases e : f 0 with
  | nil => exact absurd e hf
  | cons x xs => exact World.block_lt_of_cell? w _ (h 0 hn 0 x (by rw [e]; rfl))
theorem RRow.below {w w' : World} {a : Option Addr} {m n : Nat} {f : Nat → List Value} (h : RRow w a m n f) (hf : f 0 ≠ []) (hb : Below w.heap.size w w') : RRow w' a m n f := by
  by_cases h0 : n = 0
  · exact .inl h0
  rcases h with h | ⟨b, off, rfl, h⟩
  · exact .inl h
  · exact .inr ⟨b, off, rfl, h.below hb (h.lt (by omega) hf)⟩
/-- a slice of n elements in memory of one's own -/
def RMine (w : World) (base : Nat) (e : TypeId) (m : Nat) (v : Value) (n : Nat) (f : Nat → List Value) : Prop := w.ownsRow base e m v n (Cs f n)
section
variable {w w' : World} {base : Nat} {e : TypeId} {m : Nat} {v : Value} {n : Nat} {f : Nat → List Value}
theorem RMine.nil (w : World) (base : Nat) (e : TypeId) (m : Nat) (f : Nat → List Value) : RMine w base e m (.slice none 0 0) 0 f := World.ownsRow_nil w base e m
theorem RMine.below (h : RMine w base e m v n f) (hb : Below w.heap.size w w') : RMine w' base e m v n f := World.ownsRow.kept h (grown_below (row := none) hb) (Classical.em _)
theorem RMine.drew (h : RMine w base e m v n f) : RMine w.drew base e m v n f := h
theorem RMine.alloc (h : RMine w base e m v n f) (o : Obj) : RMine (w.alloc o) base e m v n f := World.ownsRow.alloc h o
theorem RMine.kept {row : Option Nat} (h : RMine w base e m v n f) (hg : w.grownBy w' row) (hne : v.ownBlock = none ∨ v.ownBlock ≠ row) : RMine w' base e m v n f := World.ownsRow.kept h hg hne
theorem RMine.low {base' : Nat} (h : RMine w base e m v n f) (hb : base' ≤ base) : RMine w base' e m v n f := by
  refine ⟨h.1, ?_⟩
  rcases h.2 with h' | ⟨g', cap', cur, hv, hbb, hr⟩
  · exact .inl h'
  · exact .inr ⟨g', cap', cur, hv, by omega, hr⟩
theorem RMine.form (h : RMine w base e m v n f) : ∃ a cap, v = .slice a n cap := by
  rcases h.2 with ⟨rfl, rfl⟩ | ⟨g, cap, cur, rfl, _⟩
  · exact ⟨none, 0, rfl⟩
  · exact ⟨_, cap, rfl⟩
theorem RMine.form' (h : RMine w base e m v n f) (hn : 0 < n) : ∃ g cap, v = .slice (some ⟨g, 0, none⟩) n cap ∧ base ≤ g ∧ g < w.heap.size ∧ n ≤ cap ∧ cap ≤ maxLen := by
  rcases h.2 with ⟨_, h0⟩ | ⟨g, cap, cur, hv, hb, hg, hn, hc, _⟩
  · omega
  · exact ⟨g, cap, hv, hb, (Array.getElem?_eq_some_iff.1 hg).1, hn, hc⟩
theorem RMine.congr {g : Nat → List Value} (h : RMine w base e m v n f) (he : ∀ i, i < n → f i = g i) : RMine w base e m v n g := by
  unfold RMine; rw [← Cs_congr he]; exact h
theorem RMine.row {a : Option Addr} {cap : Nat} (h : RMine w base e m (.slice a n cap) n f) (hf : ∀ i, (f i).length = m) : RRow w a m n f := by
  rcases h.2 with ⟨hv, h0⟩ | ⟨g, cap', cur, hv, hb, hg, hn, hc, hs, ht⟩
  · exact .inl h0
  · injection hv with h1 h2 h3
    subst h1
    refine .inr ⟨g, 0, rfl, fun i hi j v hj => ?_⟩
    have hjm : j < m := by have := (List.getElem?_eq_some_iff.1 hj).1; rwa [hf] at this
    rw [← Cs_get hf hi hjm, ← ht] at hj
    have hlt := (List.getElem?_eq_some_iff.1 hj).1
    rw [List.getElem?_take_of_lt (by rw [List.length_take] at hlt; omega)] at hj
    rw [Nat.zero_add]
    exact cell_of_heap hg (by simpa using hj)
theorem RMine.seg {g cap : Nat} (h : RMine w base e m (.slice (some ⟨g, 0, none⟩) n cap) n f) (hf : ∀ i, (f i).length = m) : RSeg w g 0 m n f := by
  rcases h.row hf with h0 | ⟨b, off, he, hs⟩
  · intro i hi; omega
  · injection he with he; injection he with h1 h2; subst h1 h2; exact hs
/-- an element, or some, are appended -/
theorem RMine.append {k : Nat} {news : List Value} (h : w.ownsRow base e m v (n + k) (Cs f n ++ news)) (hk : news = Cs (fun i => f (n + i)) k) : RMine w base e m v (n + k) f := by
  unfold RMine; rw [← Cs_cat, ← hk]; exact h
end
/-- cells of a new block, as append wants them -/
theorem cells_news (w : World) (vs : List Value) (T : TypeId) : ∀ (j : Nat) (u : Value), vs[j]? = some u → (w.alloc (.cells vs.toArray T)).cell? ((⟨w.heap.size, 0, none⟩ : Addr).add j) = some u := by
  intro j u hj
  rw [addr_add, Nat.zero_add]
  exact cell_of_heap (heap_alloc_new w _) (by simpa using hj)
end Go.Proofs.YtopakpmepioomaaDoor

/- Contracts of crc.Sum and of quernref02.Sum. -/
namespace Go.Proofs.YtopakpmepioomaaDoor
open Go.RowKit
set_option linter.unusedVariables false

/-- the table of four shifts lies in its variable -/
def Tab (w : World) : Prop := ∀ i, i < 16 → w.cell? ⟨0, i, none⟩ = some (.int .u32 ((tabN.getD i 0 : Nat) : Int))
theorem Tab.lt {w : World} (h : Tab w) : 0 < w.heap.size := World.block_lt_of_cell? w _ (h 0 (by omega))
theorem Tab.below {w w' : World} (h : Tab w) {B : Nat} (hb : Below B w w') (hB : w.heap.size ≤ B) : Tab w' := fun i hi => (hb.cell (p := ⟨0, i, none⟩) (by have := h.lt; show 0 < B; omega)).trans (h i hi)
theorem Tab.below' {w w' : World} (h : Tab w) {B : Nat} (hb : Below B w w') (hB : 0 < B) : Tab w' := fun i hi => (hb.cell (p := ⟨0, i, none⟩) hB).trans (h i hi)
theorem Tab.alloc {w : World} (h : Tab w) (o : Obj) : Tab (w.alloc o) := h.below ((Below.refl _ _).alloc (Nat.le_refl _) o) (Nat.le_refl _)
theorem Tab.only {w w' : World} (h : Tab w) {b : Nat} (hb : Only b w w') (hg : b ≠ 0) : Tab w' := fun i hi => (hb.cell (p := ⟨0, i, none⟩) (fun e => hg e.symm)).trans (h i hi)

theorem xor_max {v : Nat} (hv : v < 4294967296) : bits .xor .u32 4294967295 (v : Int) = ((4294967295 - v : Nat) : Int) := by
  have h := u32_xor_nat 4294967295 v (by omega) hv
  rw [show ((4294967295 : Nat) : Int) = 4294967295 from rfl] at h
  rw [h]
  congr 1
  refine Nat.eq_of_testBit_eq fun j => ?_
  have h1 := Nat.testBit_two_pow_sub_succ (x := v) (n := 32) hv j
  have h2 := Nat.testBit_two_pow_sub_succ (x := 0) (n := 32) (by omega) j
  rw [show (2 : Nat) ^ 32 - (v + 1) = 4294967295 - v by omega] at h1
  rw [show (2 : Nat) ^ 32 - (0 + 1) = 4294967295 by omega] at h2
  rw [Nat.testBit_xor, h1, h2, Nat.zero_testBit]
  by_cases hj : j < 32
  · simp [hj]
  · rw [Nat.testBit_lt_two_pow (x := v) (i := j) (Nat.lt_of_lt_of_le hv (by rw [show (4294967296 : Nat) = 2 ^ 32 from rfl]; exact Nat.pow_le_pow_right (by omega) (by omega)))]
    simp [hj]
theorem nib_facts (v : Nat) (hv : v < 4294967296) {w : World} (hT : Tab w) : ∃ q r t u : Nat, r < 16 ∧ u < 4294967296 ∧ bits .and .u32 (v : Int) 15 = (r : Int) ∧ (v : Int) / 16 = (q : Int) ∧ bits .xor .u32 (q : Int) (t : Int) = (u : Int) ∧
    w.cell? ⟨0, r, none⟩ = some (.int .u32 (t : Int)) ∧ Hid (nibN v = u) := by
  have ht : tabN.getD (v % 16) 0 < 4294967296 := by
    have : ∀ r, r < 16 → tabN.getD r 0 < 4294967296 := by decide
    exact this _ (Nat.mod_lt _ (by omega))
  refine ⟨v / 16, v % 16, tabN.getD (v % 16) 0, nibN v, Nat.mod_lt _ (by omega), xor_lt 32 (by omega) ht, ?_, by omega, ?_, hT _ (Nat.mod_lt _ (by omega)), rfl⟩
  · have := u32_and_nat v 15 (by omega) (by omega)
    rw [show ((15 : Nat) : Int) = 15 from rfl] at this
    rw [this, show (15 : Nat) = 2 ^ 4 - 1 from rfl, Nat.and_two_pow_sub_one_eq_mod]
  · exact u32_xor_nat _ _ (by omega) ht
/-- m rows of bytes stand in a row of slices -/
structure Pieces (w : World) (a : Option Addr) (m : Nat) (pl : Nat → Nat) (pz : Nat → Nat → Int) : Prop where
  at' : ∀ k, k < m → ∃ b off, a = some ⟨b, off, none⟩ ∧ ∃ s cap, w.cell? ⟨b, off + k, none⟩ = some (.slice s (pl k) cap) ∧ Row w s (pl k) (pz k) ∧ (pl k : Int) ≤ 9223372036854775807

set_option maxRecDepth 100000 in
set_option maxHeartbeats 2000000 in
theorem crcSum_any (a : Option Addr) (m cap : Nat) (pl : Nat → Nat) (pz : Nat → Nat → Int) (w : World) (hl : (m : Int) ≤ 9223372036854775807) (hp : Pieces w a m pl pz) (hz : ∀ k, Byt (pz k)) (hT : Tab w) :
    Calls Tryd.prog 97 #[.slice a m cap] w fun e w' => e = .returned (.int .u32 ((4294967295 - foldP 4294967295 pl pz m : Nat) : Int)) ∧ w = w' := by
  have HT := Lib.hid hT
  have HP := Lib.hid hp
  clear hT hp
  go_enter Tryd.func97, Tryd.ntmps97
  go_wp2
  go_loop [3, 10] (fun v k => ∃ j : Nat, j ≤ m ∧ k = .int .i64 j ∧ v = .int .u32 ((foldP 4294967295 pl pz j : Nat) : Int)) (fun _ k => m - (intOf k).toNat)
  case atStart => exact ⟨0, by omega, rfl, rfl⟩
  case round =>
    obtain ⟨j, hj, rfl, rfl⟩ := hrel
    by_cases hlt : j < m
    · obtain ⟨b, off, rfl, s, cap', hc, hr, hlen⟩ := HP.out.at' j hlt
      have HR := Lib.hid hr
      have HV : Hid (foldP 4294967295 pl pz j < 4294967296) := foldP_lt (by omega) hz j
      have HS : Hid (foldN (foldP 4294967295 pl pz j) (pz j) 0 = foldP 4294967295 pl pz j ∧ foldP 4294967295 pl pz (j + 1) = foldN (foldP 4294967295 pl pz j) (pz j) (pl j)) := ⟨rfl, rfl⟩
      have hzj := hz j
      generalize foldP 4294967295 pl pz j = V at *
      clear hr
      go_wp2
      go_loop [3, 16] (fun v k => ∃ i : Nat, i ≤ pl j ∧ k = .int .i64 i ∧ v = .int .u32 ((foldN V (pz j) i : Nat) : Int)) (fun _ k => pl j - (intOf k).toNat)
      case atStart => exact ⟨0, by omega, rfl, rfl⟩
      case round =>
        obtain ⟨i, hi, rfl, rfl⟩ := hrel
        by_cases hlt2 : i < pl j
        · rcases HR.out with h0 | ⟨b', off', rfl, hseg⟩
          · omega
          have hc' := hseg i hlt2
          have hb := hzj i
          have HF : Hid (foldN V (pz j) i < 4294967296) := foldN_lt HV.out hzj i
          have HE : Hid (foldN V (pz j) (i + 1) = nibN (nibN (foldN V (pz j) i ^^^ (pz j i).toNat))) := by
            show stepN _ _ = _
            rw [nib_sh4, nib_sh4]; rfl
          generalize foldN V (pz j) i = v at *
          obtain ⟨v1, ev1⟩ : ∃ v1, v ^^^ (pz j i).toNat = v1 := ⟨_, rfl⟩
          have hv1 : v1 < 4294967296 := by rw [← ev1]; exact xor_lt 32 HF.out (by omega)
          have e1 : bits .xor .u32 (v : Int) (pz j i) = (v1 : Int) := by rw [u32_xor _ _ (by omega) (by have := HF.out; omega) hb.1 (by omega), Int.toNat_natCast, ev1]
          obtain ⟨q1, r1, t1, v2, hr1, hv2, e2, e3, e4, hct1, HN1⟩ := nib_facts v1 hv1 HT.out
          obtain ⟨q2, r2, t2, v3, hr2, hv3, e5, e6, e7, hct2, HN2⟩ := nib_facts v2 hv2 HT.out
          have HE2 : Hid (foldN V (pz j) (i + 1) = v3) := by show _ = _; rw [HE.out, ev1, HN1.out, HN2.out]
          clear HE HN1 HN2 ev1
          go_wp2
          go_round
          case rel => exact ⟨i + 1, by omega, by go_num, by rw [HE2.out]⟩
          case measure => simp [intOf]; omega
        · obtain rfl : i = pl j := by omega
          go_wp2
          go_round
          case rel => exact ⟨j + 1, by omega, by go_num, by rw [HS.out.2]⟩
          case measure => simp [intOf]; omega
    · obtain rfl : j = m := by omega
      have HN : Hid (bits .xor .u32 4294967295 ((foldP 4294967295 pl pz j : Nat) : Int) = ((4294967295 - foldP 4294967295 pl pz j : Nat) : Int)) := xor_max (foldP_lt (by omega) hz j)
      go_wp2
      go_ret
      exact ⟨by rw [show IntKind.u32.max = 4294967295 from by decide, HN.out]; rfl, rfl⟩

def iter (f : Nat → Nat) : Nat → Nat → Nat
  | 0, v => v
  | k + 1, v => f (iter f k v)
theorem rshift_any (v : Nat) (hv : v < 4294967296) (w : World) : Calls Tryd.prog 109 #[.int .u32 (v : Int)] w fun e w' => e = .returned (.int .u32 ((shN v : Nat) : Int)) ∧ w = w' := by
  go_enter Tryd.func109, Tryd.ntmps109
  have e2 : (v : Int).tdiv 2 = (v : Int) / 2 := Int.tdiv_eq_ediv_of_nonneg (by omega)
  have e3 : (v : Int).tmod 2 = (v : Int) % 2 := Int.tmod_eq_emod_of_nonneg (by omega)
  by_cases h : v % 2 = 1
  · have HS : Hid (shN v = (v / 2) ^^^ 3988292384) := by show _ = _; unfold shN; rw [if_pos h]
    have e1 : ((v : Int) % 2 == 1) = true := by simp; omega
    have e4 : (v : Int) / 2 = ((v / 2 : Nat) : Int) := by omega
    have e5 : bits .xor .u32 ((v / 2 : Nat) : Int) 3988292384 = (((v / 2) ^^^ 3988292384 : Nat) : Int) := u32_xor_nat (v / 2) 3988292384 (by omega) (by omega)
    generalize (v / 2) ^^^ 3988292384 = u at *
    generalize v / 2 = q at *
    go_wp2
    go_ret
    exact ⟨by rw [HS.out]; rfl, rfl⟩
  · have HS : Hid (shN v = v / 2) := by show _ = _; unfold shN; rw [if_neg h]
    have e1 : ((v : Int) % 2 == 1) = false := by simp; omega
    have e4 : (v : Int) / 2 = ((v / 2 : Nat) : Int) := by omega
    generalize v / 2 = q at *
    go_wp2
    go_ret
    exact ⟨by rw [HS.out]; rfl, rfl⟩
set_option maxRecDepth 100000 in
set_option maxHeartbeats 2000000 in
theorem rSum_any (a : Option Addr) (m cap : Nat) (z : Nat → Int) (w : World) (hl : (m : Int) ≤ 9223372036854775807) (hr : Row w a m z) (hz : Byt z) :
    Calls Tryd.prog 91 #[.slice a m cap] w fun e w' => e = .returned (.int .u32 (crcZ z m)) ∧ w = w' := by
  have HR := Lib.hid hr
  clear hr
  go_enter Tryd.func91, Tryd.ntmps91
  go_wp2
  go_loop [3, 4] (fun v k => ∃ j : Nat, j ≤ m ∧ k = .int .i64 j ∧ v = .int .u32 ((foldN 4294967295 z j : Nat) : Int)) (fun _ k => m - (intOf k).toNat)
  case atStart => exact ⟨0, by omega, rfl, rfl⟩
  case round =>
    obtain ⟨j, hj, rfl, rfl⟩ := hrel
    by_cases hlt : j < m
    · rcases HR.out with h0 | ⟨b', off', rfl, hseg⟩
      · omega
      have hc' := hseg j hlt
      have hb := hz j
      have HF : Hid (foldN 4294967295 z j < 4294967296) := foldN_lt (by omega) hz j
      have HE : Hid (foldN 4294967295 z (j + 1) = sh8 (foldN 4294967295 z j ^^^ (z j).toNat)) := rfl
      generalize foldN 4294967295 z j = v at *
      obtain ⟨v1, ev1⟩ : ∃ v1, v ^^^ (z j).toNat = v1 := ⟨_, rfl⟩
      have hv1 : v1 < 4294967296 := by rw [← ev1]; exact xor_lt 32 HF.out (by omega)
      have e1 : bits .xor .u32 (v : Int) (z j) = (v1 : Int) := by rw [u32_xor _ _ (by omega) (by have := HF.out; omega) hb.1 (by omega), Int.toNat_natCast, ev1]
      have HE2 : Hid (foldN 4294967295 z (j + 1) = iter shN 8 v1) := by show _ = _; rw [HE.out, ev1]; rfl
      clear HE ev1
      go_wp2
      go_loop [3, 5] (fun v k => ∃ i : Nat, i ≤ 8 ∧ k = .int .i64 i ∧ v = .int .u32 ((iter shN i v1 : Nat) : Int)) (fun _ k => 8 - (intOf k).toNat)
      case atStart => exact ⟨0, by omega, rfl, rfl⟩
      case round =>
        obtain ⟨i, hi, rfl, rfl⟩ := hrel
        by_cases hlt2 : i < 8
        · have HI : Hid (iter shN i v1 < 4294967296) := by
            show _ < _
            clear hlt2 hi HE2
            induction i with
            | zero => exact hv1
            | succ i ih => exact shN_lt ih
          have HS : Hid (shN (iter shN i v1) = iter shN (i + 1) v1) := rfl
          generalize iter shN i v1 = u at *
          have l1 : (i : Int) < 8 := by omega
          go_wp2_with fail
          refine (rshift_any u HI.out _).mono ?_
          rintro e wx ⟨rfl, rfl⟩
          go_wp2
          go_round
          case rel => exact ⟨i + 1, by omega, by go_num, by rw [HS.out]⟩
          case measure => simp [intOf]; omega
        · obtain rfl : i = 8 := by omega
          go_wp2
          go_round
          case rel => exact ⟨j + 1, by omega, by go_num, by rw [HE2.out]⟩
          case measure => simp [intOf]; omega
    · obtain rfl : j = m := by omega
      have HX : Hid (foldN 4294967295 z j < 4294967296) := foldN_lt (by omega) hz j
      have HC : Hid (crcZ z j = ((4294967295 - foldN 4294967295 z j : Nat) : Int)) := rfl
      generalize foldN 4294967295 z j = v at *
      have e9 : (4294967295 : Int) - (v : Int) = ((4294967295 - v : Nat) : Int) := by have := HX.out; omega
      go_wp2
      go_ret
      exact ⟨by rw [HC.out]; rfl, rfl⟩
end Go.Proofs.YtopakpmepioomaaDoor

/- A region that draws its order, walked by what holds between its operations, whichever have come up. And 'c, d := b, b' for blocks. -/
namespace Go.Proofs.YtopakpmepioomaaDoor
open Go.RowKit
set_option linter.unusedVariables false

/-- each operation waits for earlier ones alone -/
def downB (md : Region.Mode) (ops : Array Oper) : Bool :=
  (List.range ops.size).all fun i => ((ops[i]?).map fun o => o.after.all fun e => !Region.binds md e || decide (e.on < i)).getD true
/-- all that it waits for has come up -/
def upB (md : Region.Mode) (o : Oper) (l : Nat → Bool) : Bool := o.after.all fun e => !Region.binds md e || l e.on

section
variable {P : Program} {md : Region.Mode} {ops : Array Oper}
theorem downB_spec (h : downB md ops = true) {i : Nat} {o : Oper} (hi : ops[i]? = some o) {e : Edge} (he : e ∈ o.after) (hb : Region.binds md e = true) : e.on < i := by
  unfold downB at h
  rw [List.all_eq_true] at h
  have h1 := h i (List.mem_range.2 (Array.getElem?_eq_some_iff.1 hi).1)
  rw [hi] at h1
  simp only [Option.map_some, Option.getD_some] at h1
  rw [Array.all_eq_true'] at h1
  have h2 := h1 e he
  rw [hb] at h2
  simpa using h2
theorem ready_nil (h : downB md ops = true) {listed : Array Bool} (hs : listed.size = ops.size) (hr : Region.ready md ops listed = []) : ∀ i, i < ops.size → listed.getD i false = true := by
  intro i
  induction i using Nat.strongRecOn with
  | _ i ih =>
    intro hi
    cases hl : listed.getD i false with
    | true => rfl
    | false =>
      exfalso
      have : i ∈ Region.ready md ops listed := by
        refine mem_ready.2 ⟨?_, ops[i], Array.getElem?_eq_getElem hi, fun e he hb => ?_⟩
        · rw [Array.getD_eq_getD_getElem?, Array.getElem?_eq_getElem (by omega)] at hl ⊢; simpa using hl
        · have := downB_spec h (Array.getElem?_eq_getElem hi) he hb
          exact ih _ this (by omega)
      rw [hr] at this
      cases this

/-- what is to be shown of each operation -/
def StepsI (P : Program) (md : Region.Mode) (ops : Array Oper) (Q : Exit → Act → World → Prop) (I : (Nat → Bool) → Act → World → Prop) : Nat → List Oper → Prop
  | _, [] => True
  | n, o :: rest => (∀ l a w, l n = false → upB md o l = true → I l a w → wpOp P ops Q n (I (fun j => j == n || l j)) a w) ∧ StepsI P md ops Q I (n + 1) rest
theorem StepsI.get {Q : Exit → Act → World → Prop} {I : (Nat → Bool) → Act → World → Prop} : ∀ (L : List Oper) (n i : Nat) (o : Oper), StepsI P md ops Q I n L → L[i]? = some o →
    ∀ l a w, l (n + i) = false → upB md o l = true → I l a w → wpOp P ops Q (n + i) (I (fun j => j == (n + i) || l j)) a w
  | [], _, _, _, _, h => by cases h
  | o' :: L, n, 0, o, h, hi => by cases hi; exact h.1
  | o' :: L, n, i + 1, o, h, hi => by
    have := StepsI.get L (n + 1) i o h.2 (by simpa using hi)
    rw [show n + 1 + i = n + (i + 1) by omega] at this
    exact this

theorem wpAny_inv {Q : Exit → Act → World → Prop} {I : (Nat → Bool) → Act → World → Prop} (hd : downB md ops = true) (hst : StepsI P md ops Q I 0 ops.toList)
    (hI : ∀ l l' a w, (∀ i, i < ops.size → l i = l' i) → I l a w → I l' a w)
    (hend : ∀ a w, I (fun _ => true) a w → Q .normal a w) : ∀ (fuel : Nat) (listed : Array Bool) (a : Act) (w : World), listed.size = ops.size → (listed.toList.filter (fun b => !b)).length = fuel →
      I (fun j => listed.getD j false) a w → wpAny P md ops Q fuel listed a w := by
  have fin : ∀ (listed : Array Bool) (a : Act) (w : World), listed.size = ops.size → Region.ready md ops listed = [] → I (fun j => listed.getD j false) a w → Q .normal a w := fun listed a w hs hr h =>
    hend a w (hI _ _ a w (fun i hi => ready_nil hd hs hr i hi) h)
  intro fuel
  induction fuel with
  | zero =>
    intro listed a w hs hc h
    have hall : ∀ b ∈ listed.toList, b = true := by
      intro b hb
      cases b with
      | true => rfl
      | false =>
        have : false ∈ listed.toList.filter (fun b => !b) := List.mem_filter.2 ⟨hb, rfl⟩
        rw [List.length_eq_zero_iff.1 hc] at this
        cases this
    have hr : Region.ready md ops listed = [] := by
      cases hr : Region.ready md ops listed with
      | nil => rfl
      | cons i r =>
        have hi : i ∈ Region.ready md ops listed := by rw [hr]; simp
        obtain ⟨h1, o, ho, _⟩ := mem_ready.1 hi
        have hlt : i < listed.size := by rw [hs]; exact (Array.getElem?_eq_some_iff.1 ho).1
        rw [Array.getD_eq_getD_getElem?, Array.getElem?_eq_getElem hlt] at h1
        have := hall listed[i] (by simp)
        simp [this] at h1
    exact ⟨hr, fin listed a w hs hr h⟩
  | succ fuel ih =>
    intro listed a w hs hc h
    refine ⟨fun hr => fin listed a w hs hr h, fun i hi => ?_⟩
    obtain ⟨h1, o, ho, hall⟩ := mem_ready.1 hi
    have hlt : i < listed.size := by rw [hs]; exact (Array.getElem?_eq_some_iff.1 ho).1
    have hli : listed[i] = false := by rw [Array.getD_eq_getD_getElem?, Array.getElem?_eq_getElem hlt] at h1; simpa using h1
    have hstep := StepsI.get ops.toList 0 i o hst (by simpa using ho) (fun j => listed.getD j false) a w (by rw [Nat.zero_add, Array.getD_eq_getD_getElem?, Array.getElem?_eq_getElem hlt]; simpa using hli)
      (by
        unfold upB
        rw [Array.all_eq_true']
        intro e he
        cases hb : Region.binds md e with
        | false => rfl
        | true => simpa using hall e he hb) h
    rw [Nat.zero_add] at hstep
    refine wpOp_mono (fun a' w' h' => ?_) hstep
    refine ih _ a' w' (by simpa using hs) ?_ (hI _ _ a' w' (fun j hj => ?_) h')
    · have key : ∀ (L : List Bool) (i : Nat) (hi : i < L.length), L[i] = false → ((L.set i true).filter (fun b => !b)).length + 1 = (L.filter (fun b => !b)).length := by
        intro L
        induction L with
        | nil => intro i hi; simp at hi
        | cons b L ihL =>
          intro i hi hb
          cases i with
          | zero => simp at hb; subst hb; simp
          | succ i =>
            have := ihL i (by simpa using hi) (by simpa using hb)
            cases b <;> simp <;> omega
      have := key listed.toList i (by simpa using hlt) (by simpa using hli)
      rw [hc] at this
      have e : (listed.setIfInBounds i true).toList = listed.toList.set i true := by simp
      rw [e]
      omega
    · by_cases hji : j = i
      · subst hji
        simp [Array.getD_eq_getD_getElem?, hlt]
      · simp only [Array.getD_eq_getD_getElem?, Array.getElem?_setIfInBounds_ne (Ne.symm hji), show (j == i) = false by simpa using hji, Bool.false_or]

/-- **A drawn region by what holds between its operations.** I says what holds of the frame and the world by which operations have come up. -/
theorem wp_region_inv (I : (Nat → Bool) → Act → World → Prop) {id : Nat} {Q : Exit → Act → World → Prop} {a : Act} {w : World} {L : List Oper} (hm : P.follows .mixedOrders = true) (hd : downB .any L.toArray = true)
    (hI : ∀ l l' a w, (∀ i, i < L.length → l i = l' i) → I l a w → I l' a w) (h0 : I (fun _ => false) a { w with drawn := w.drawn + 1 }) (hst : StepsI P .any L.toArray Q I 0 L)
    (hend : ∀ a w, I (fun _ => true) a w → Q .normal a w) : (Code.region id L.toArray true).wp P Q a w := by
  refine wp_region_any hm (wpAny_inv (I := I) hd (by simpa using hst) (by simpa using hI) hend _ _ a _ (by simp) (by simp) (hI _ _ _ _ (fun i hi => ?_) h0))
  simp [Array.getD_eq_getD_getElem?, hi]
end
end Go.Proofs.YtopakpmepioomaaDoor

/- A drawn region in two phases: the first n operations in whatever order, each quiet in a class of worlds; the others wait for all that stand ahead of them, so they come one behind the other. No program in sight. -/
namespace Go.Proofs.YtopakpmepioomaaDoor
open Go.RowKit
set_option linter.unusedVariables false

/-- from n on each operation waits for all ahead of it; ahead of n the guards stand ahead of n -/
def barB (md : Region.Mode) (n : Nat) (ops : Array Oper) : Bool :=
  (List.range ops.size).all fun j => match ops[j]? with
    | none => true
    | some o => if j < n then (match o.guard with | none => true | some (g, _) => decide (g < n)) else (List.range j).all fun i => o.after.any fun e => Region.binds md e && e.on == i

section
variable {P : Program} {md : Region.Mode} {ops : Array Oper}
theorem barB_wait {n : Nat} (h : barB md n ops = true) {j : Nat} {o : Oper} (hj : ops[j]? = some o) (hn : n ≤ j) {i : Nat} (hi : i < j) : ∃ e ∈ o.after, Region.binds md e = true ∧ e.on = i := by
  unfold barB at h
  rw [List.all_eq_true] at h
  have h1 := h j (List.mem_range.2 (Array.getElem?_eq_some_iff.1 hj).1)
  simp only [hj, if_neg (show ¬ j < n by omega), List.all_eq_true] at h1
  have h2 := h1 i (List.mem_range.2 hi)
  rw [Array.any_eq_true'] at h2
  obtain ⟨e, he, hb⟩ := h2
  rw [Bool.and_eq_true, beq_iff_eq] at hb
  exact ⟨e, he, hb.1, hb.2⟩
theorem barB_guard {n : Nat} (h : barB md n ops = true) {j : Nat} {o : Oper} (hj : ops[j]? = some o) (hn : j < n) {g : Nat} {b : Bool} (hg : o.guard = some (g, b)) : g < n := by
  unfold barB at h
  rw [List.all_eq_true] at h
  have h1 := h j (List.mem_range.2 (Array.getElem?_eq_some_iff.1 hj).1)
  simp only [hj, if_pos hn, hg, decide_eq_true_eq] at h1
  exact h1

theorem bar_tail {n : Nat} (hb : barB md n ops = true) (hd : downB md ops = true) {Q : Exit → Act → World → Prop} : ∀ (l : List Oper) (k x : Nat) (listed : Array Bool) (a : Act) (w : World), n ≤ k → (∀ j, l[j]? = ops[k + j]?) → listed.size = ops.size →
    (∀ i, i < k → listed.getD i false = true) → (∀ i, k ≤ i → i < ops.size → listed.getD i true = false) → wpList P ops Q l a w → wpAny P md ops Q (l.length + x) listed a w
  | [], k, x, listed, a, w, hk, hl, hs, h1, h0, h => by
    have hsz : ops.size ≤ k := by have := (hl 0).symm; simp at this; omega
    have hr : Region.ready md ops listed = [] := by
      cases hr : Region.ready md ops listed with
      | nil => rfl
      | cons i r =>
        have hi : i ∈ Region.ready md ops listed := by rw [hr]; simp
        obtain ⟨hu, o, ho, _⟩ := mem_ready.1 hi
        have hlt := (Array.getElem?_eq_some_iff.1 ho).1
        have := h1 i (by omega)
        rw [Array.getD_eq_getD_getElem?, Array.getElem?_eq_getElem (by omega)] at hu this
        simp at hu this
        rw [this] at hu; cases hu
    cases x with
    | zero => exact ⟨hr, h⟩
    | succ x =>
      rw [show ([] : List Oper).length + (x + 1) = x + 1 by simp]
      exact ⟨fun _ => h, fun i hi => by rw [hr] at hi; cases hi⟩
  | o :: l, k, x, listed, a, w, hk, hl, hs, h1, h0, h => by
    have ho : ops[k]? = some o := by simpa using (hl 0).symm
    have hlt := (Array.getElem?_eq_some_iff.1 ho).1
    have hin : k ∈ Region.ready md ops listed := mem_ready.2 ⟨h0 k (Nat.le_refl _) hlt, o, ho, fun e he hbe => h1 _ (downB_spec hd ho he hbe)⟩
    rw [show (o :: l).length + x = (l.length + x) + 1 by simp; omega]
    refine ⟨fun hr => (by rw [hr] at hin; cases hin), fun i hi => ?_⟩
    obtain ⟨hu, oi, hoi, hall⟩ := mem_ready.1 hi
    have hilt := (Array.getElem?_eq_some_iff.1 hoi).1
    have hik : i = k := by
      rcases Nat.lt_trichotomy i k with hh | hh | hh
      · have := h1 i hh
        rw [Array.getD_eq_getD_getElem?, Array.getElem?_eq_getElem (by omega)] at hu this
        simp at hu this
        rw [this] at hu; cases hu
      · exact hh
      · obtain ⟨e, he, hbe, hon⟩ := barB_wait hb hoi (by omega) hh
        have hx := hall e he hbe
        rw [hon] at hx
        have h2 := h0 k (Nat.le_refl _) hlt
        rw [Array.getD_eq_getD_getElem?, Array.getElem?_eq_getElem (by omega)] at hx h2
        simp at hx h2
        rw [hx] at h2; cases h2
    subst hik
    have key : wpOp P ops Q i (wpList P ops Q l) a w := by
      unfold wpOp
      simp only [ho]
      exact h
    refine wpOp_mono (fun a' w' h' => bar_tail hb hd l (i + 1) x _ a' w' (by omega) (fun j => by have := hl (j + 1); simpa [Nat.add_assoc, Nat.add_comm 1 j] using this) (by simpa using hs) (fun j hj => ?_) (fun j hj hjs => ?_) h') key
    · by_cases hji : j = i
      · subst hji; simp [Array.getD_eq_getD_getElem?, hs, hlt]
      · rw [Array.getD_eq_getD_getElem?, Array.getElem?_setIfInBounds_ne (Ne.symm hji), ← Array.getD_eq_getD_getElem?]; exact h1 j (by omega)
    · rw [Array.getD_eq_getD_getElem?, Array.getElem?_setIfInBounds_ne (by omega), ← Array.getD_eq_getD_getElem?]; exact h0 j (by omega) hjs

theorem bar_head {n : Nat} {ops1 : Array Oper} {l2 : List Oper} {C : World → Prop} (hb : barB md n ops = true) (hd : downB md ops = true) (hd1 : downB md ops1 = true) (hn1 : ops1.size = n) (h1 : ∀ i, i < n → ops1[i]? = ops[i]?) (hl : ∀ j, l2[j]? = ops[n + j]?)
    {Q : Exit → Act → World → Prop} {Q1 : Act → Prop} (hQ : ∀ a w, C w → Q1 a → wpList P ops Q l2 a w) : ∀ (fuel : Nat) (listed1 listed : Array Bool) (a : Act) (w : World), C w → listed1.size = n → listed.size = ops.size →
      (∀ i, i < n → listed1[i]? = listed[i]?) → (∀ i, n ≤ i → i < ops.size → listed.getD i true = false) → wpAnyQ P md ops1 C Q1 fuel listed1 a → wpAny P md ops Q (l2.length + fuel) listed a w := by
  have hnn : n ≤ ops.size := by
    rcases Nat.lt_or_ge ops.size n with h | h
    · have := h1 ops.size h
      rw [Array.getElem?_eq_none (Nat.le_refl _), Array.getElem?_eq_none_iff] at this
      omega
    · exact h
  have done : ∀ (fuel : Nat) (listed1 listed : Array Bool) (a : Act) (w : World), C w → listed1.size = n → listed.size = ops.size → (∀ i, i < n → listed1[i]? = listed[i]?) → (∀ i, n ≤ i → i < ops.size → listed.getD i true = false) →
      Region.ready md ops1 listed1 = [] → Q1 a → wpAny P md ops Q (l2.length + fuel) listed a w := fun fuel listed1 listed a w hw hs1 hs hll h0 hr hq => by
    refine bar_tail hb hd l2 n fuel listed a w (Nat.le_refl _) hl hs (fun i hi => ?_) h0 (hQ a w hw hq)
    have := ready_nil hd1 (by omega) hr i (by omega)
    rw [Array.getD_eq_getD_getElem?, hll i hi, ← Array.getD_eq_getD_getElem?] at this
    exact this
  intro fuel
  induction fuel with
  | zero => intro listed1 listed a w hw hs1 hs hll h0 h; exact done 0 listed1 listed a w hw hs1 hs hll h0 h.1 h.2
  | succ fuel ih =>
    intro listed1 listed a w hw hs1 hs hll h0 h
    by_cases hr : Region.ready md ops1 listed1 = []
    · exact done _ listed1 listed a w hw hs1 hs hll h0 hr (h.1 hr)
    · obtain ⟨i0, hi0⟩ := List.exists_mem_of_ne_nil _ hr
      obtain ⟨hu0, o0, ho0, hall0⟩ := mem_ready.1 hi0
      have hi0n : i0 < n := by rw [← hn1]; exact (Array.getElem?_eq_some_iff.1 ho0).1
      have get : ∀ i, i < n → ∀ d, listed1.getD i d = listed.getD i d := fun i hi d => by rw [Array.getD_eq_getD_getElem?, Array.getD_eq_getD_getElem?, hll i hi]
      have up : i0 ∈ Region.ready md ops listed := mem_ready.2 ⟨by rw [← get i0 hi0n]; exact hu0, o0, by rw [← h1 i0 hi0n]; exact ho0, fun e he hbe => by
        have hlt := downB_spec hd1 ho0 he hbe
        rw [← get e.on (by omega)]; exact hall0 e he hbe⟩
      rw [show l2.length + (fuel + 1) = (l2.length + fuel) + 1 by omega]
      refine ⟨fun hrr => (by rw [hrr] at up; cases up), fun i hi => ?_⟩
      obtain ⟨hu, o, ho, hall⟩ := mem_ready.1 hi
      have hin : i < n := by
        rcases Nat.lt_or_ge i n with hh | hh
        · exact hh
        · obtain ⟨e, he, hbe, hon⟩ := barB_wait hb ho hh (i := i0) (by omega)
          have hx := hall e he hbe
          rw [hon, ← get i0 hi0n] at hx
          rw [Array.getD_eq_getD_getElem?, Array.getElem?_eq_getElem (by omega)] at hx hu0
          simp at hx hu0
          rw [hx] at hu0; cases hu0
      have ho1 : ops1[i]? = some o := by rw [h1 i hin]; exact ho
      have hi1 : i ∈ Region.ready md ops1 listed1 := mem_ready.2 ⟨by rw [get i hin]; exact hu, o, ho1, fun e he hbe => by
        have hlt := downB_spec hd1 ho1 he hbe
        rw [get e.on (by omega)]; exact hall e he hbe⟩
      have hq := h.2 i hi1
      have hwant : ∀ a : Act, Region.wanted o (yielded ops1 a.tmps) = Region.wanted o (yielded ops a.tmps) := fun a => by
        unfold Region.wanted
        cases hg : o.guard with
        | none => rfl
        | some p =>
          obtain ⟨g, b⟩ := p
          have := barB_guard hb ho hin hg
          simp only [yielded, h1 g this]
      have hq' : qOp P ops C i (wpAnyQ P md ops1 C Q1 fuel (listed1.setIfInBounds i true)) a := by
        unfold qOp at hq ⊢
        simp only [ho1] at hq
        simp only [ho]
        rw [← hwant]
        exact hq
      refine wpOp_of_qOp hw (fun a' w' hw' h' => ih (listed1.setIfInBounds i true) (listed.setIfInBounds i true) a' w' hw' (by simpa using hs1) (by simpa using hs) (fun j hj => ?_) (fun j hj hjs => ?_) h') hq'
      · by_cases hji : i = j
        · subst hji; simp [hs1, hs, hj, show i < ops.size by omega]
        · rw [Array.getElem?_setIfInBounds_ne hji, Array.getElem?_setIfInBounds_ne hji]; exact hll j hj
      · rw [Array.getD_eq_getD_getElem?, Array.getElem?_setIfInBounds_ne (by omega), ← Array.getD_eq_getD_getElem?]; exact h0 j hj hjs

/-- **A drawn region in two phases.** -/
theorem wp_region_bar (S : World → Prop) (n : Nat) {id : Nat} {Q : Exit → Act → World → Prop} {a : Act} {w : World} {L : List Oper} (hm : P.follows .mixedOrders = true) (hB : Region.lexB .any (L.take n).toArray = true)
    (hb : barB .any n L.toArray = true) (hd : downB .any L.toArray = true) (hd1 : downB .any (L.take n).toArray = true) (hn : n ≤ L.length) (hS : S { w with drawn := w.drawn + 1 })
    (h : Nonempty (InW S) → wpQuiet P (L.take n).toArray (fun w' => ∃ s : InW S, w' = s.W) (fun a' => ∀ w', InS S w' → wpList P L.toArray Q (L.drop n) a' w') (L.take n) a) : (Code.region id L.toArray true).wp P Q a w := by
  have hC : ∃ s : InW S, { w with drawn := w.drawn + 1 } = s.W := ⟨⟨_, hS⟩, rfl⟩
  simp only [Region.lexB, Bool.and_eq_true] at hB
  have hq := wpAnyQ_lex (C := fun w' => ∃ s : InW S, w' = s.W) (md := .any) hB.1 (L.take n) 0 (Array.replicate n false) a (by simp) (by have := hB.2; simpa [Nat.min_eq_left hn] using this) (h ⟨⟨_, hS⟩⟩)
  have hlen : (L.take n).length = n := by simp [Nat.min_eq_left hn]
  rw [hlen] at hq
  have := bar_head (P := P) (md := .any) (ops := L.toArray) (ops1 := (L.take n).toArray) (l2 := L.drop n) (n := n) (C := fun w' => ∃ s : InW S, w' = s.W) hb hd hd1 (by simp [Nat.min_eq_left hn]) (fun i hi => by simp [hi]) (fun j => by simp)
    (Q := Q) (Q1 := fun a' => ∀ w', InS S w' → wpList P L.toArray Q (L.drop n) a' w') (fun a w hw h => h w hw) n (Array.replicate n false) (Array.replicate L.length false) a { w with drawn := w.drawn + 1 } hC (by simp) (by simp)
    (fun i hi => by simp [hi, show i < L.length by omega]) (fun i hi hs => by simp at hs; simp [hs]) hq
  rw [show (L.drop n).length + n = L.length by simp; omega] at this
  refine wp_region_any hm ?_
  simpa using this
end
end Go.Proofs.YtopakpmepioomaaDoor

/- As XBar, but an operation behind the bar may wait for those ahead of it through others. A drawn region in two phases: the first n operations in whatever order, each quiet in a class of worlds; the others wait for all that stand ahead of them, so they come one behind the other. No program in sight. -/
namespace Go.Proofs.YtopakpmepioomaaDoor
open Go.RowKit
set_option linter.unusedVariables false

/-- from n on each operation waits for all ahead of it; ahead of n the guards stand ahead of n -/
def barB2 (md : Region.Mode) (n : Nat) (ops : Array Oper) : Bool :=
  (List.range ops.size).all fun j => match ops[j]? with
    | none => true
    | some o => if j < n then (match o.guard with | none => true | some (g, _) => decide (g < n)) else (List.range j).all fun i => Mv.reachB md ops ops.size j i

section
variable {P : Program} {md : Region.Mode} {ops : Array Oper}
theorem barB_wait2 {n : Nat} (h : barB2 md n ops = true) {j : Nat} {o : Oper} (hj : ops[j]? = some o) (hn : n ≤ j) {i : Nat} (hi : i < j) : Mv.reachB md ops ops.size j i = true := by
  unfold barB2 at h
  rw [List.all_eq_true] at h
  have h1 := h j (List.mem_range.2 (Array.getElem?_eq_some_iff.1 hj).1)
  simp only [hj, if_neg (show ¬ j < n by omega), List.all_eq_true] at h1
  exact h1 i (List.mem_range.2 hi)
theorem barB_guard2 {n : Nat} (h : barB2 md n ops = true) {j : Nat} {o : Oper} (hj : ops[j]? = some o) (hn : j < n) {g : Nat} {b : Bool} (hg : o.guard = some (g, b)) : g < n := by
  unfold barB2 at h
  rw [List.all_eq_true] at h
  have h1 := h j (List.mem_range.2 (Array.getElem?_eq_some_iff.1 hj).1)
  simp only [hj, if_pos hn, hg, decide_eq_true_eq] at h1
  exact h1

theorem bar_tail2 {n : Nat} (hb : barB2 md n ops = true) (hd : downB md ops = true) {Q : Exit → Act → World → Prop} : ∀ (l : List Oper) (k x : Nat) (listed : Array Bool) (a : Act) (w : World), n ≤ k → (∀ j, l[j]? = ops[k + j]?) → listed.size = ops.size →
    (∀ i, i < k → listed.getD i false = true) → (∀ i, k ≤ i → i < ops.size → listed.getD i true = false) → wpList P ops Q l a w → wpAny P md ops Q (l.length + x) listed a w
  | [], k, x, listed, a, w, hk, hl, hs, h1, h0, h => by
    have hsz : ops.size ≤ k := by have := (hl 0).symm; simp at this; omega
    have hr : Region.ready md ops listed = [] := by
      cases hr : Region.ready md ops listed with
      | nil => rfl
      | cons i r =>
        have hi : i ∈ Region.ready md ops listed := by rw [hr]; simp
        obtain ⟨hu, o, ho, _⟩ := mem_ready.1 hi
        have hlt := (Array.getElem?_eq_some_iff.1 ho).1
        have := h1 i (by omega)
        rw [Array.getD_eq_getD_getElem?, Array.getElem?_eq_getElem (by omega)] at hu this
        simp at hu this
        rw [this] at hu; cases hu
    cases x with
    | zero => exact ⟨hr, h⟩
    | succ x =>
      rw [show ([] : List Oper).length + (x + 1) = x + 1 by simp]
      exact ⟨fun _ => h, fun i hi => by rw [hr] at hi; cases hi⟩
  | o :: l, k, x, listed, a, w, hk, hl, hs, h1, h0, h => by
    have ho : ops[k]? = some o := by simpa using (hl 0).symm
    have hlt := (Array.getElem?_eq_some_iff.1 ho).1
    have hin : k ∈ Region.ready md ops listed := mem_ready.2 ⟨h0 k (Nat.le_refl _) hlt, o, ho, fun e he hbe => h1 _ (downB_spec hd ho he hbe)⟩
    rw [show (o :: l).length + x = (l.length + x) + 1 by simp; omega]
    refine ⟨fun hr => (by rw [hr] at hin; cases hin), fun i hi => ?_⟩
    obtain ⟨hu, oi, hoi, hall⟩ := mem_ready.1 hi
    have hilt := (Array.getElem?_eq_some_iff.1 hoi).1
    have hik : i = k := by
      rcases Nat.lt_trichotomy i k with hh | hh | hh
      · have := h1 i hh
        rw [Array.getD_eq_getD_getElem?, Array.getElem?_eq_getElem (by omega)] at hu this
        simp at hu this
        rw [this] at hu; cases hu
      · exact hh
      · have hcl : Mv.Cl md ops listed := fun j oj hj hlj e he hbe => by
          have hjk : j < k := by
            rcases Nat.lt_or_ge j k with h' | h'
            · exact h'
            · have h2 := h0 j h' (Array.getElem?_eq_some_iff.1 hj).1
              rw [Array.getD_eq_getD_getElem?, Array.getElem?_eq_getElem (by have := (Array.getElem?_eq_some_iff.1 hj).1; omega)] at h2 hlj
              simp at h2 hlj
              rw [h2] at hlj; cases hlj
          have := downB_spec hd hj he hbe
          exact h1 _ (by omega)
        have hx := hcl.reach hall hoi (barB_wait2 hb hoi (by omega) hh)
        have h2 := h0 k (Nat.le_refl _) hlt
        rw [Array.getD_eq_getD_getElem?, Array.getElem?_eq_getElem (by omega)] at hx h2
        simp at hx h2
        rw [hx] at h2; cases h2
    subst hik
    have key : wpOp P ops Q i (wpList P ops Q l) a w := by
      unfold wpOp
      simp only [ho]
      exact h
    refine wpOp_mono (fun a' w' h' => bar_tail2 hb hd l (i + 1) x _ a' w' (by omega) (fun j => by have := hl (j + 1); simpa [Nat.add_assoc, Nat.add_comm 1 j] using this) (by simpa using hs) (fun j hj => ?_) (fun j hj hjs => ?_) h') key
    · by_cases hji : j = i
      · subst hji; simp [Array.getD_eq_getD_getElem?, hs, hlt]
      · rw [Array.getD_eq_getD_getElem?, Array.getElem?_setIfInBounds_ne (Ne.symm hji), ← Array.getD_eq_getD_getElem?]; exact h1 j (by omega)
    · rw [Array.getD_eq_getD_getElem?, Array.getElem?_setIfInBounds_ne (by omega), ← Array.getD_eq_getD_getElem?]; exact h0 j (by omega) hjs

theorem bar_head2 {n : Nat} {ops1 : Array Oper} {l2 : List Oper} {C : World → Prop} (hb : barB2 md n ops = true) (hd : downB md ops = true) (hd1 : downB md ops1 = true) (hn1 : ops1.size = n) (h1 : ∀ i, i < n → ops1[i]? = ops[i]?) (hl : ∀ j, l2[j]? = ops[n + j]?)
    {Q : Exit → Act → World → Prop} {Q1 : Act → Prop} (hQ : ∀ a w, C w → Q1 a → wpList P ops Q l2 a w) : ∀ (fuel : Nat) (listed1 listed : Array Bool) (a : Act) (w : World), C w → Mv.Cl md ops listed → listed1.size = n → listed.size = ops.size →
      (∀ i, i < n → listed1[i]? = listed[i]?) → (∀ i, n ≤ i → i < ops.size → listed.getD i true = false) → wpAnyQ P md ops1 C Q1 fuel listed1 a → wpAny P md ops Q (l2.length + fuel) listed a w := by
  have hnn : n ≤ ops.size := by
    rcases Nat.lt_or_ge ops.size n with h | h
    · have := h1 ops.size h
      rw [Array.getElem?_eq_none (Nat.le_refl _), Array.getElem?_eq_none_iff] at this
      omega
    · exact h
  have done : ∀ (fuel : Nat) (listed1 listed : Array Bool) (a : Act) (w : World), C w → listed1.size = n → listed.size = ops.size → (∀ i, i < n → listed1[i]? = listed[i]?) → (∀ i, n ≤ i → i < ops.size → listed.getD i true = false) →
      Region.ready md ops1 listed1 = [] → Q1 a → wpAny P md ops Q (l2.length + fuel) listed a w := fun fuel listed1 listed a w hw hs1 hs hll h0 hr hq => by
    refine bar_tail2 hb hd l2 n fuel listed a w (Nat.le_refl _) hl hs (fun i hi => ?_) h0 (hQ a w hw hq)
    have := ready_nil hd1 (by omega) hr i (by omega)
    rw [Array.getD_eq_getD_getElem?, hll i hi, ← Array.getD_eq_getD_getElem?] at this
    exact this
  intro fuel
  induction fuel with
  | zero => intro listed1 listed a w hw hcl hs1 hs hll h0 h; exact done 0 listed1 listed a w hw hs1 hs hll h0 h.1 h.2
  | succ fuel ih =>
    intro listed1 listed a w hw hcl hs1 hs hll h0 h
    by_cases hr : Region.ready md ops1 listed1 = []
    · exact done _ listed1 listed a w hw hs1 hs hll h0 hr (h.1 hr)
    · obtain ⟨i0, hi0⟩ := List.exists_mem_of_ne_nil _ hr
      obtain ⟨hu0, o0, ho0, hall0⟩ := mem_ready.1 hi0
      have hi0n : i0 < n := by rw [← hn1]; exact (Array.getElem?_eq_some_iff.1 ho0).1
      have get : ∀ i, i < n → ∀ d, listed1.getD i d = listed.getD i d := fun i hi d => by rw [Array.getD_eq_getD_getElem?, Array.getD_eq_getD_getElem?, hll i hi]
      have up : i0 ∈ Region.ready md ops listed := mem_ready.2 ⟨by rw [← get i0 hi0n]; exact hu0, o0, by rw [← h1 i0 hi0n]; exact ho0, fun e he hbe => by
        have hlt := downB_spec hd1 ho0 he hbe
        rw [← get e.on (by omega)]; exact hall0 e he hbe⟩
      rw [show l2.length + (fuel + 1) = (l2.length + fuel) + 1 by omega]
      refine ⟨fun hrr => (by rw [hrr] at up; cases up), fun i hi => ?_⟩
      obtain ⟨hu, o, ho, hall⟩ := mem_ready.1 hi
      have hin : i < n := by
        rcases Nat.lt_or_ge i n with hh | hh
        · exact hh
        · have hx := hcl.reach hall ho (barB_wait2 hb ho hh (i := i0) (by omega))
          rw [← get i0 hi0n] at hx
          rw [Array.getD_eq_getD_getElem?, Array.getElem?_eq_getElem (by omega)] at hx hu0
          simp at hx hu0
          rw [hx] at hu0; cases hu0
      have ho1 : ops1[i]? = some o := by rw [h1 i hin]; exact ho
      have hi1 : i ∈ Region.ready md ops1 listed1 := mem_ready.2 ⟨by rw [get i hin]; exact hu, o, ho1, fun e he hbe => by
        have hlt := downB_spec hd1 ho1 he hbe
        rw [get e.on (by omega)]; exact hall e he hbe⟩
      have hq := h.2 i hi1
      have hwant : ∀ a : Act, Region.wanted o (yielded ops1 a.tmps) = Region.wanted o (yielded ops a.tmps) := fun a => by
        unfold Region.wanted
        cases hg : o.guard with
        | none => rfl
        | some p =>
          obtain ⟨g, b⟩ := p
          have := barB_guard2 hb ho hin hg
          simp only [yielded, h1 g this]
      have hq' : qOp P ops C i (wpAnyQ P md ops1 C Q1 fuel (listed1.setIfInBounds i true)) a := by
        unfold qOp at hq ⊢
        simp only [ho1] at hq
        simp only [ho]
        rw [← hwant]
        exact hq
      refine wpOp_of_qOp hw (fun a' w' hw' h' => ih (listed1.setIfInBounds i true) (listed.setIfInBounds i true) a' w' hw' (hcl.next hi) (by simpa using hs1) (by simpa using hs) (fun j hj => ?_) (fun j hj hjs => ?_) h') hq'
      · by_cases hji : i = j
        · subst hji; simp [hs1, hs, hj, show i < ops.size by omega]
        · rw [Array.getElem?_setIfInBounds_ne hji, Array.getElem?_setIfInBounds_ne hji]; exact hll j hj
      · rw [Array.getD_eq_getD_getElem?, Array.getElem?_setIfInBounds_ne (by omega), ← Array.getD_eq_getD_getElem?]; exact h0 j hj hjs

/-- **A drawn region in two phases.** -/
theorem wp_region_bar2 (S : World → Prop) (n : Nat) {id : Nat} {Q : Exit → Act → World → Prop} {a : Act} {w : World} {L : List Oper} (hm : P.follows .mixedOrders = true) (hB : Region.lexB .any (L.take n).toArray = true)
    (hb : barB2 .any n L.toArray = true) (hd : downB .any L.toArray = true) (hd1 : downB .any (L.take n).toArray = true) (hn : n ≤ L.length) (hS : S { w with drawn := w.drawn + 1 })
    (h : Nonempty (InW S) → wpQuiet P (L.take n).toArray (fun w' => ∃ s : InW S, w' = s.W) (fun a' => ∀ w', InS S w' → wpList P L.toArray Q (L.drop n) a' w') (L.take n) a) : (Code.region id L.toArray true).wp P Q a w := by
  have hC : ∃ s : InW S, { w with drawn := w.drawn + 1 } = s.W := ⟨⟨_, hS⟩, rfl⟩
  simp only [Region.lexB, Bool.and_eq_true] at hB
  have hq := wpAnyQ_lex (C := fun w' => ∃ s : InW S, w' = s.W) (md := .any) hB.1 (L.take n) 0 (Array.replicate n false) a (by simp) (by have := hB.2; simpa [Nat.min_eq_left hn] using this) (h ⟨⟨_, hS⟩⟩)
  have hlen : (L.take n).length = n := by simp [Nat.min_eq_left hn]
  rw [hlen] at hq
  have := bar_head2 (P := P) (md := .any) (ops := L.toArray) (ops1 := (L.take n).toArray) (l2 := L.drop n) (n := n) (C := fun w' => ∃ s : InW S, w' = s.W) hb hd hd1 (by simp [Nat.min_eq_left hn]) (fun i hi => by simp [hi]) (fun j => by simp)
    (Q := Q) (Q1 := fun a' => ∀ w', InS S w' → wpList P L.toArray Q (L.drop n) a' w') (fun a w hw h => h w hw) n (Array.replicate n false) (Array.replicate L.length false) a { w with drawn := w.drawn + 1 } hC (fun j oj hj hl e he hbe => by
      rcases Nat.lt_or_ge j L.length with h' | h'
      · simp [h'] at hl
      · simp [h'] at hl) (by simp) (by simp)
    (fun i hi => by simp [hi, show i < L.length by omega]) (fun i hi hs => by simp at hs; simp [hs]) hq
  rw [show (L.drop n).length + n = L.length by simp; omega] at this
  refine wp_region_any hm ?_
  simpa using this
end
end Go.Proofs.YtopakpmepioomaaDoor

/- A store of one cell; a byte stored into a block. -/
namespace Go.Proofs.YtopakpmepioomaaDoor
open Go.RowKit
set_option linter.unusedVariables false

section
variable {P : Program}
theorem run_storeVar1 (w : World) (b off : Nat) (ty : TypeId) (u v : Value) (hc : w.cell? ⟨b, off, none⟩ = some u) (hf : w.frozen? ⟨b, off, none⟩ = false) (hi : (P.info? ty).map (·.size) = some 1) (h1 : v.oneCell' = true) :
    (storeVar ty ⟨b, off, none⟩ v).run P w = .ok () (w.setCell ⟨b, off, none⟩ v) := by
  have hv : v.cells = #[v] := by cases v <;> first | rfl | cases h1
  have hst : (store ⟨b, off, none⟩ v).run P w = .ok () (w.setCell ⟨b, off, none⟩ v) := by rw [run_store P w _ _ _ h1, hc]; simp [hf]
  cases hq : P.info? ty with
  | none => simp [hq] at hi
  | some i =>
    have hs : i.size = 1 := by simpa [hq] using hi
    simp [storeVar, sizeOf, typeInfo, hq, hv, hs, storeCells, addr_add, hst]
theorem wp_store1 {ops : Array Oper} {rest : List Oper} {o : Oper} {a : Act} {w : World} {Q : Exit → Act → World → Prop} (hgd : o.guard = none) (ty : TypeId) (x y : Operand) (ho : o.op = .store ty x y)
    (b off : Nat) (v : Value) (hx : a.eval x = .pointer (some ⟨b, off, none⟩)) (hy : a.eval y = v) (u : Value) (hc : w.cell? ⟨b, off, none⟩ = some u) (hf : w.frozen? ⟨b, off, none⟩ = false) (hi : (P.info? ty).map (·.size) = some 1) (h1 : v.oneCell' = true)
    (h : wpList P ops Q rest (a.put o.dst undef) (w.setCell ⟨b, off, none⟩ v)) : wpList P ops Q (o :: rest) a w :=
  wpList_plain hgd fun _ hK => by
    unfold Oper.wp execOp
    simp only [ho, hx, hy, Instr.storeAt, Instr.sureAddr, Sem.run_bind, Sem.run_pure, Result.andThen_ok, run_storeVar1 w b off ty u v hc hf hi h1]
    exact hK _ _ h
end
theorem info_u8 : (Tryd.prog.info? 5).map (·.size) = some 1 := by kernel_rfl
/-- a byte of a block is stored -/
theorem wp_storeByte {ops : Array Oper} {rest : List Oper} {o : Oper} {a : Act} {w : World} {Q : Exit → Act → World → Prop} (hgd : o.guard = none) (x y : Operand) (ho : o.op = .store 5 x y)
    (b off : Nat) (v : Int) (hx : a.eval x = .pointer (some ⟨b, off, none⟩)) (hy : a.eval y = .int .u8 v) {T : TypeId} {n : Nat} {z : Nat → Int} (hB : Blk w b T n z) (hn : off < n)
    (h : ∀ w', Blk w' b T n (over z off 1 (fun _ => v)) → Only b w w' → wpList Tryd.prog ops Q rest (a.put o.dst undef) w') : wpList Tryd.prog ops Q (o :: rest) a w :=
  wp_store1 hgd 5 x y ho b off _ hx hy _ (by have := hB.seg off hn; rwa [Nat.zero_add] at this) (soft_of_heap hB off) info_u8 rfl (h _ (hB.setCell off v hn) (Only.setCell w ⟨b, off, none⟩ _))
end Go.Proofs.YtopakpmepioomaaDoor

/- Rows of structs made at once and stored element by element. No program in sight. -/
namespace Go.Proofs.YtopakpmepioomaaDoor
open Go.RowKit
set_option linter.unusedVariables false

/-- heap block g is a row of n elements of m cells each -/
structure RArr (W : World) (g : Nat) (T : TypeId) (m n : Nat) (f : Nat → List Value) : Prop where
  blk : ∃ cs, W.heap[g]? = some (.cells cs T (0, 0)) ∧ cs.size = n * m
  seg : RSeg W g 0 m n f
section
variable {W W' : World} {g : Nat} {T : TypeId} {m n : Nat} {f : Nat → List Value}
theorem RArr.lt (h : RArr W g T m n f) : g < W.heap.size := by obtain ⟨cs, h, _⟩ := h.blk; exact (Array.getElem?_eq_some_iff.1 h).1
theorem RArr.of_block (h : RArr W g T m n f) (e : W'.heap[g]? = W.heap[g]?) : RArr W' g T m n f :=
  ⟨by obtain ⟨cs, h1, h2⟩ := h.blk; exact ⟨cs, e.trans h1, h2⟩, fun i hi j v hv => (World.cell?_of_block (w := W) e).trans (h.seg i hi j v hv)⟩
theorem RArr.below (h : RArr W g T m n f) (hb : Below W.heap.size W W') : RArr W' g T m n f := h.of_block (hb.block g h.lt)
theorem RArr.grown (h : RArr W g T m n f) {row : Option Nat} (hb : W.grownBy W' row) (hg : some g ≠ row) : RArr W' g T m n f := h.of_block (hb.block g h.lt hg)
theorem RArr.only (h : RArr W g T m n f) {b : Nat} (hb : Only b W W') (hg : g ≠ b) : RArr W' g T m n f := h.of_block (hb.block g hg)
theorem RArr.alloc (h : RArr W g T m n f) (o : Obj) : RArr (W.alloc o) g T m n f := h.below ((Below.refl _ _).alloc (Nat.le_refl _) o)
theorem RArr.congr {f' : Nat → List Value} (h : RArr W g T m n f) (e : ∀ i, i < n → f i = f' i) : RArr W g T m n f' := ⟨h.blk, fun i hi j v hv => h.seg i hi j v (by rw [e i hi]; exact hv)⟩
theorem RArr.there (h : RArr W g T m n f) {k : Nat} (hk : k < n) : W.there g (k * m) m := fun j hj => by
  obtain ⟨cs, h1, h2⟩ := h.blk
  have hlt : k * m + j < cs.size := by
    rw [h2]
    have : (k + 1) * m ≤ n * m := Nat.mul_le_mul_right m hk
    rw [Nat.succ_mul] at this
    omega
  exact ⟨by rw [cell_of_heap h1 (Array.getElem?_eq_getElem hlt)]; rfl, soft_of_heap h1 _⟩
/-- an element is stored -/
theorem RArr.set (h : RArr W g T m n f) {k : Nat} (hk : k < n) {vs : List Value} (hv : vs.length = m) (hf : ∀ i, (f i).length = m) : RArr (W.setCells g (k * m) vs) g T m n (fun j => if j = k then vs else f j) ∧ Only g W (W.setCells g (k * m) vs) := by
  have ho := only_setCells g vs (k * m) W
  have hth := h.there hk
  obtain ⟨cs, h1, h2⟩ := h.blk
  obtain ⟨c', hc1, hc2⟩ := ho.shape _ _ _ h1
  refine ⟨⟨⟨c', hc2, by rw [hc1, h2]⟩, fun i hi j v hj => ?_⟩, ho⟩
  rw [Nat.zero_add]
  by_cases e : i = k
  · subst e
    rw [if_pos rfl] at hj
    exact World.rangeAt_setCells_same W g (i * m) vs (by rw [hv]; exact hth) j v hj
  · rw [if_neg e] at hj
    have hr : W.rangeAt g (i * m) (f i) := by have := h.seg.range i hi; rwa [Nat.zero_add] at this
    refine World.rangeAt_setCells_apart hr g (k * m) vs ?_ j v hj
    rw [hf, hv]
    rcases Nat.lt_or_gt_of_ne e with h' | h'
    · have : (i + 1) * m ≤ k * m := Nat.mul_le_mul_right m h'
      rw [Nat.succ_mul] at this; omega
    · have : (k + 1) * m ≤ i * m := Nat.mul_le_mul_right m h'
      rw [Nat.succ_mul] at this; omega
/-- it is a slice of one's own -/
theorem RArr.mine (h : RArr W g T m n f) (hf : ∀ i, (f i).length = m) {base : Nat} (hb : base ≤ g) (hn : n ≤ maxLen) : RMine W base T m (.slice (some ⟨g, 0, none⟩) n n) n f := by
  obtain ⟨cs, h1, h2⟩ := h.blk
  refine ⟨Cs_length hf n, .inr ⟨g, n, cs, rfl, hb, h1, Nat.le_refl _, hn, h2, ?_⟩⟩
  rw [List.take_of_length_le (by rw [Array.length_toList, h2]; exact Nat.le_refl _)]
  apply List.ext_getElem?
  intro p
  by_cases hp : p < n * m
  · have hm : 0 < m := by
      rcases Nat.eq_zero_or_pos m with e | e
      · rw [e, Nat.mul_zero] at hp; omega
      · exact e
    have hq : p / m < n := (Nat.div_lt_iff_lt_mul hm).2 hp
    have hr : p % m < m := Nat.mod_lt _ hm
    have he : p / m * m + p % m = p := by rw [Nat.mul_comm]; exact Nat.div_add_mod p m
    obtain ⟨v, hv⟩ : ∃ v, (f (p / m))[p % m]? = some v := ⟨_, List.getElem?_eq_getElem (by rw [hf]; exact hr)⟩
    have h3 := h.seg (p / m) hq (p % m) v hv
    rw [Nat.zero_add, he] at h3
    have h4 := Cs_get hf hq hr
    rw [he] at h4
    rw [h4, hv, Array.getElem?_toList, Array.getElem?_eq_getElem (by rw [h2]; exact hp)]
    have h5 := cell_of_heap h1 (Array.getElem?_eq_getElem (show p < cs.size by rw [h2]; exact hp))
    rw [h3] at h5
    exact h5.symm
  · rw [List.getElem?_eq_none (by rw [Array.length_toList, h2]; omega), List.getElem?_eq_none (by rw [Cs_length hf]; omega)]
/-- what make lays -/
theorem RArr.made (w : World) (z : Array Value) (hz : z.size = m) (hm : 0 < m) (n : Nat) (T : TypeId) : RArr (w.alloc (.cells (madeCells z (n * m)) T)) w.heap.size T m n (fun _ => z.toList) :=
  ⟨⟨_, heap_alloc_new w _, size_madeCells _ _⟩, fun i hi j v hj => by
    rw [Nat.zero_add]
    have hj' : j < m := by have := (List.getElem?_eq_some_iff.1 hj).1; rw [Array.length_toList, hz] at this; exact this
    have hlt : i * m + j < n * m := by
      have : (i + 1) * m ≤ n * m := Nat.mul_le_mul_right m hi
      rw [Nat.succ_mul] at this; omega
    refine cell_of_heap (heap_alloc_new w _) ?_
    have hmod : (i * m + j) % m = j := by rw [Nat.mul_comm, Nat.mul_add_mod, Nat.mod_eq_of_lt hj']
    have hz' : z[j]? = some v := by rw [← hj, Array.getElem?_toList]
    simp only [madeCells, Array.getElem?_map, Array.getElem?_range, hlt, if_true, Option.map_some, hz, hmod]
    rw [getElem!_def, hz']⟩
theorem run_mkrow {P : Program} (t e : TypeId) (z : Value) (m bytes : Nat) (ht : P.underlying t = some (.slice e)) (hinfo : (P.info? e).map (fun i => (i.zero, i.size, i.bytes)) = some (some z, m, bytes))
    (kl kc : IntKind) (n : Nat) (hbytes : bytes * n ≤ 281474976710656) (h63 : n ≤ 9223372036854775807) (w : World) :
    (Instr.makeSlice t (.int kl (n : Int)) (.int kc (n : Int))).run P w = .ok (.slice (some ⟨w.heap.size, 0, none⟩) n n) (w.alloc (.cells (madeCells z.cells (n * m)) e)) := by
  obtain ⟨i, hi, hzz⟩ := Option.map_eq_some_iff.1 hinfo
  simp only [Prod.mk.injEq] at hzz
  obtain ⟨hz, hs, hb⟩ := hzz
  have hb' : (i.bytes : Int) * (n : Int) ≤ 281474976710656 := by
    have h : ((i.bytes * n : Nat) : Int) ≤ 281474976710656 := by rw [hb]; omega
    rwa [Int.natCast_mul] at h
  have hr := run_make (P := P) w t e i z ht hi hz kl kc n n (by omega) (Int.le_refl _) hb' (by omega)
  simp only [Int.toNat_natCast, hs] at hr
  exact hr
end
end Go.Proofs.YtopakpmepioomaaDoor

/- Structs loaded and stored whole, in a walk within a fence (an iterator's body, a loop's body). -/
namespace Go.Proofs.YtopakpmepioomaaDoor
open Go.RowKit
set_option linter.unusedVariables false
section
variable {P : Program} {F : Fence} {nF : Nat} {ops : Array Oper} {rest : List Oper} {o : Oper} {a : Act} {w : World} {Q : Exit → Act → World → Prop}
theorem wpListIn_value (hw : Region.wanted o (yielded ops a.tmps) = true) (hc : ∀ c, o.op ≠ .call c) (hd : ∀ c, o.op ≠ .defer c) {v : Value} {w' : World} (hr : (execOp a.eval o).run P w = .ok (.value v) w')
    (h : wpListIn F nF P ops Q rest (a.put o.dst v) w') : wpListIn F nF P ops Q (o :: rest) a w := by
  refine wpListIn_step fun K hK => ?_
  simp only [hw, if_true]
  unfold Oper.wpIn
  refine ⟨?_, ?_⟩
  · intro f hf
    unfold Oper.about at hf
    split at hf
    · rename_i c ho; exact absurd ho (hc c)
    · cases hf
  · rw [Oper.semAt_plain F _ _ hd, hr]
    exact hK _ _ h
theorem wpListIn_skipped (hw : Region.wanted o (yielded ops a.tmps) = true) (hc : ∀ c, o.op ≠ .call c) (hd : ∀ c, o.op ≠ .defer c) {w' : World} (hr : (execOp a.eval o).run P w = .ok .skip w')
    (h : wpListIn F nF P ops Q rest (a.put o.dst undef) w') : wpListIn F nF P ops Q (o :: rest) a w := by
  refine wpListIn_step fun K hK => ?_
  simp only [hw, if_true]
  unfold Oper.wpIn
  refine ⟨?_, ?_⟩
  · intro f hf
    unfold Oper.about at hf
    split at hf
    · rename_i c ho; exact absurd ho (hc c)
    · cases hf
  · rw [Oper.semAt_plain F _ _ hd, hr]
    exact hK _ _ h
theorem wpIn_loadAt (hw : Region.wanted o (yielded ops a.tmps) = true) (T : TypeId) (p : Operand) (ho : o.op = .load T p)
    (g : Nat) (cs : Array Value) (d : TypeDesc) (hx : a.eval p = .pointer (some ⟨g, 0, none⟩)) (hI : At w g T cs) (hu : P.underlying T = some d) (hd : (match d with | .struct _ | .array _ _ => true | _ => false) = true) (hi : (P.info? T).map (·.size) = some cs.size)
    (h : wpListIn F nF P ops Q rest (a.put o.dst (.agg cs)) w) : wpListIn F nF P ops Q (o :: rest) a w := by
  refine wpListIn_value hw (by rw [ho]; intro c h; cases h) (by rw [ho]; intro c h; cases h) ?_ h
  unfold execOp
  simp only [ho, hx, Instr.loadAt, Instr.sureAddr, Sem.run_bind, Sem.run_pure, Result.andThen_ok, run_loadVar_row w g T T cs (0, 0) d hI hu hd hi]
theorem wpIn_load_mid (hw : Region.wanted o (yielded ops a.tmps) = true) (T : TypeId) (p : Operand) (ho : o.op = .load T p)
    (b off : Nat) (hx : a.eval p = .pointer (some ⟨b, off, none⟩)) (cs : List Value) (d : TypeDesc) (hc : w.rangeAt b off cs) (hu : P.underlying T = some d) (hd : d.isRow = true) (hi : (P.info? T).map (·.size) = some cs.length)
    (h : wpListIn F nF P ops Q rest (a.put o.dst (.agg cs.toArray)) w) : wpListIn F nF P ops Q (o :: rest) a w := by
  refine wpListIn_value hw (by rw [ho]; intro c h; cases h) (by rw [ho]; intro c h; cases h) ?_ h
  unfold execOp
  simp only [ho, hx, Instr.loadAt, Instr.sureAddr, Sem.run_bind, Sem.run_pure, Result.andThen_ok, run_loadVar_mid w b off T cs d hc hu hd hi]
theorem wpIn_storeAt (hw : Region.wanted o (yielded ops a.tmps) = true) (T : TypeId) (p q : Operand) (ho : o.op = .store T p q)
    (g : Nat) (cs old : Array Value) (hx : a.eval p = .pointer (some ⟨g, 0, none⟩)) (hy : a.eval q = .agg cs) (hI : At w g T old) (hi : (P.info? T).map (·.size) = some cs.size) (hs : old.size = cs.size) (h1 : cs.all (·.oneCell') = true)
    (h : ∀ w', At w' g T cs → Only g w w' → wpListIn F nF P ops Q rest (a.put o.dst undef) w') : wpListIn F nF P ops Q (o :: rest) a w := by
  refine wpListIn_skipped hw (by rw [ho]; intro c h; cases h) (by rw [ho]; intro c h; cases h) (w' := w.setRow g cs) ?_ (h _ (setRow_heap w g _ cs _ _ hI) (only_setRow w g _ hI hs.symm))
  unfold execOp
  simp only [ho, hx, hy, Instr.storeAt, Instr.sureAddr, Sem.run_bind, Sem.run_pure, Result.andThen_ok, run_storeVar_row w g T T old cs hI hi hs h1]
end
end Go.Proofs.YtopakpmepioomaaDoor

/- A range over a function whose values are structs, which the assignment puts into a new block. No program in sight. -/
namespace Go.Proofs.YtopakpmepioomaaDoor
open Go.RowKit
variable {P : Program}
theorem LocalP.bel {B : Nat} {X : World → Prop} (h : LocalP B X) {W W' : World} (hs : X W) (hb : Below W.heap.size W W') : X W' := h W W' hs ⟨hb.os, hb.tape, hb.output, hb.size, fun k _ hl => hb.block k hl⟩
theorem LocalP.at {B b : Nat} (t : TypeId) (cs : Array Value) (hb : b < B) : LocalP B (fun W => At W b t cs) := fun _ _ hs hg => (hg.block b hb (At.lt hs)).trans hs
theorem wp_rangeIx4 {g : Operand} {ps : Array Tmp} {asg bdy : Code} {Q : Exit → Act → World → Prop} {a : Act} {w : World} {gf : Nat} {lb : Array Value}
    (hg : a.eval g = .func (.func gf) #[] lb) (eg : ∀ args w, (callFunc gf args).run P w = .ok (.enter gf args) w)
    {encs : Nat → Array Value} {N : Nat} {Need : Nat → World → Prop} (hit : IterIx Fence.wide 4 P gf lb encs N (fun _ => False) Need) (hps : ∀ k, (encs k).size = ps.size)
    (T : TypeId) (cs : Nat → Array Value)
    (J : Nat → World → Prop) (Jx : Code → Nat → World → Prop)
    (hJ : ∀ k, LocalP w.heap.size (J k)) (hJx : ∀ c k, LocalP w.heap.size (Jx c k)) (hN : ∀ k, LocalP w.heap.size (Need k)) (h0 : J 0 w) (hn0 : Need 0 w) (A1 : Nat → Nat → Act)
    (assign : ∀ (l k : Nat) (W : World) (K : Act → World → Prop), k < N → (∀ p W', p = W.heap.size → Below W.heap.size W W' → At W' p T (cs k) → K (A1 k p) W') →
      asg.wpIn (Fence.wide.inRound l) 3 P (Exit.then K (fun _ _ _ => False)) { tmps := (ps.zip (encs k)).foldl (fun t (p, v) => t.setIfInBounds p v) a.tmps, defers := [] } W)
    (body : ∀ (l k p : Nat) (W : World), k < N → J k W → Need k W → At W p T (cs k) → bdy.wpIn (Fence.wide.inRound l) 3 P (roundIx w.heap.size J Jx Need k W) (A1 k p) W)
    (done : ∀ (D : Nat) (W : World), w.heap.size ≤ D → J N W → W.heap[D]? = some (.deferred (some [])) → Q .normal { a with defers := { target := .collected D, args := #[] } :: a.defers } W)
    (stop : ∀ (D : Nat) (c : Code) (k : Nat) (W : World), w.heap.size ≤ D → k < N → Jx c k W → W.heap[D]? = some (.deferred (some [])) → c.wp P Q { a with defers := { target := .collected D, args := #[] } :: a.defers } W) :
    (Code.rangeFunc g ps asg bdy).wp P Q a w := by
  refine (wpIn_wide (n := 5)).1 ?_
  exact wpIn_rangeIx rfl (by decide) hg trivial eg hit (fun r h => h.elim) hps J Jx (fun k a' W => ∃ p, a' = A1 k p ∧ At W p T (cs k))
    (LocalP.own hJ) (fun c => LocalP.own (hJx c)) (LocalP.own hN)
    (fun a' k W W' row hs hgr hr => by
      obtain ⟨p, he, hA⟩ := hs
      refine ⟨p, he, (hgr.block p hA.lt (fun e => ?_)).trans hA⟩
      obtain ⟨_, o, ho, hc⟩ := hr p e.symm
      have : some (Obj.cells (cs k) T (0, 0)) = some o := hA.symm.trans ho
      injection this with this
      subst this
      cases hc)
    (fun k A C hs ht => (hJ k).turns hs ht) (fun c k A C hs ht => (hJx c k).turns hs ht) h0 hn0
    (fun l k W K hk hj hn hK => assign l k W K hk (fun p W' _ hb hA => hK _ _ (Below.keeps hb) ((hJ k).bel hj hb) ((hN k).bel hn hb) ⟨p, rfl, hA⟩))
    (fun l k a' W hk hj hn ha => by obtain ⟨p, rfl, hA⟩ := ha; exact body l k p W hk hj hn hA)
    done (fun D c k W h1 h2 h3 h4 => wpIn_wide.2 (stop D c k W h1 h2 h3 h4))
end Go.Proofs.YtopakpmepioomaaDoor

/- XMove2's law within a fence (in a round too), for regions that read and store. -/
namespace Go.Proofs.YtopakpmepioomaaDoor.Mv
open Go.RowKit Go.Proofs.YtopakpmepioomaaDoor
set_option linter.unusedVariables false
/-- no calls -/
def tame (o : Oper) : Bool := match o.op with | .store _ _ _ => true | _ => plainOp o
section
variable {F : Fence} {m : Nat} {P : Program} {ops : Array Oper} {md : Region.Mode} {σ : Type} {C : σ → World → Prop}
theorem tame_no_enter {o : Oper} (ho : tame o = true) (a : Act) (w : World) (f : FuncId) (args : Array Value) (w' : World) : (execOp a.eval o).run P w ≠ .ok (.enter f args) w' := by
  unfold tame at ho
  split at ho
  · rename_i ty x y hop
    unfold execOp
    simp only [hop, Sem.run_bind]
    intro h
    cases hr : (Instr.storeAt ty (a.eval x) (a.eval y)).run P w with
    | ok u w1 => rw [hr] at h; simp [Result.andThen, Sem.run_pure] at h
    | halt e w1 => rw [hr] at h; simp [Result.andThen] at h
  · exact plain_no_enter ho a w f args w'
theorem tame_no_call {o : Oper} (ho : tame o = true) (c) : o.op ≠ .call c := by
  intro h; unfold tame at ho; rw [h] at ho; unfold plainOp at ho; rw [h] at ho; cases ho
theorem tame_no_defer {o : Oper} (ho : tame o = true) (c) : o.op ≠ .defer c := by
  intro h; unfold tame at ho; rw [h] at ho; unfold plainOp at ho; rw [h] at ho; cases ho
theorem wpOpIn_of_lin (ht : ops.all tame = true) {i : Nat} {s : σ} {a : Act} {K : σ → Act → Prop} {K' : Act → World → Prop} {Q' : Exit → Act → World → Prop} {w : World} (hC : C s w) (h : ∀ s a w', C s w' → K s a → K' a w') (hh : linOp P ops C i K s a) : wpOpIn F m P ops Q' i K' a w := by
  unfold linOp at hh
  unfold wpOpIn
  split
  · rename_i ho; simp only [ho] at hh; exact h _ _ _ hC hh
  · rename_i o ho
    simp only [ho] at hh
    have hta : tame o = true := by
      rw [Array.all_eq_true_iff_forall_mem] at ht
      exact ht o (Array.mem_of_getElem? ho)
    have hab : ∀ f, o.about P w a.eval = some f → F.fn f := by
      intro f hf
      unfold Oper.about at hf
      split at hf
      · rename_i c hc; exact absurd hc (tame_no_call hta c)
      · cases hf
    rcases hh with ⟨hw, hy⟩ | ⟨hw, hk⟩
    · simp only [hw, if_true]
      unfold Oper.wpIn
      refine ⟨hab, ?_⟩
      rw [Oper.semAt_plain F _ _ (tame_no_defer hta)]
      have hne := fun f args w' => tame_no_enter (P := P) hta a w f args w'
      rcases hy with ⟨_, hk⟩ | ⟨_, v, hs, hk⟩
      · have h3 := hk w hC
        generalize (execOp a.eval o).run P w = r at *
        cases r with
        | ok n w' =>
          cases n <;> simp only [movesUpon] at h3 <;> simp only [Oper.uponIn]
          · obtain ⟨s', h4, h5⟩ := h3; exact h _ _ _ h4 h5
          · obtain ⟨s', h4, h5⟩ := h3; exact h _ _ _ h4 h5
          · exact absurd rfl (hne _ _ _)
        | halt x w' => simp only [movesUpon] at h3
      · have h3 := hs w ⟨_, hC⟩
        generalize (execOp a.eval o).run P w = r at *
        cases r with
        | ok n w' =>
          cases n <;> simp only [stillUpon] at h3 <;> simp only [Oper.uponIn]
          · obtain ⟨rfl, rfl⟩ := h3; exact h _ _ _ hC hk
          · obtain ⟨rfl, rfl⟩ := h3; exact h _ _ _ hC hk
        | halt x w' => simp only [stillUpon] at h3
    · rw [if_neg (by rw [hw]; decide)]
      exact ⟨hab, h _ _ _ hC hk⟩
theorem wpAnyIn_of_lin (ht : ops.all tame = true) {Q : σ → Act → Prop} {Q' : Exit → Act → World → Prop} (hQ : ∀ s a w, C s w → Q s a → Q' .normal a w) : ∀ (fuel : Nat) (listed : Array Bool) (s : σ) (a : Act) (w : World), C s w →
    wpAnyL P md ops C Q fuel listed s a → wpAnyIn F m P md ops Q' fuel listed a w
  | 0, _, _, _, _, hw, h => ⟨h.1, hQ _ _ _ hw h.2⟩
  | fuel + 1, _, _, _, _, hw, h => ⟨fun h0 => hQ _ _ _ hw (h.1 h0), fun i hi => wpOpIn_of_lin ht hw (fun s' a' w' hw' => wpAnyIn_of_lin ht hQ fuel _ s' a' w' hw') (h.2 i hi)⟩
theorem wpIn_region_mc (C : σ → World → Prop) (s : σ) {id : Nat} {Q : Exit → Act → World → Prop} {a : Act} {w : World} {l : List Oper} (hm : P.follows .mixedOrders = true) (hB : Region.lexB .any l.toArray = true) (hch : chainC .any l.toArray = true) (ht : l.toArray.all tame = true) (hC : C s { w with drawn := w.drawn + 1 })
    (h : Nonempty (InW fun w => ∃ s, C s w) → wpLin P l.toArray C (fun s a' => ∀ w', C s w' → Q .normal a' w') l s a) : (Code.region id l.toArray true).wpIn F m P Q a w := by
  simp only [Region.lexB, Bool.and_eq_true] at hB
  refine wpIn_region_any hm (wpAnyIn_of_lin ht (Q := fun s a' => ∀ w', C s w' → Q .normal a' w') (fun _ _ w' hw' h => h w' hw') _ _ s _ _ hC ?_)
  have := wpAnyL_lexC (C := C) (md := .any) calls_some hch hB.1 l 0 (Array.replicate l.toArray.size false) s a ⟨_, hC⟩ (fun j oj hj hl => by
      rcases Nat.lt_or_ge j l.toArray.size with h' | h'
      · rw [List.size_toArray] at h'; simp [h'] at hl
      · rw [List.size_toArray] at h'; simp [h'] at hl) (fun j hj => by omega) (by simp) (by simpa using hB.2) (h ⟨⟨_, s, hC⟩⟩)
  simpa using this
/-- one cell is stored -/
theorem lin_store1 {Q : σ → Act → Prop} {s : σ} {o : Oper} {rest : List Oper} {a : Act} (hw : Region.wanted o (yielded ops a.tmps) = true) (ty : TypeId) (x y : Operand) (ho : o.op = .store ty x y)
    (b off : Nat) (v : Value) (hx : a.eval x = .pointer (some ⟨b, off, none⟩)) (hy : a.eval y = v) (hi : (P.info? ty).map (·.size) = some 1) (h1 : v.oneCell' = true) (s' : σ)
    (hc : ∀ w, C s w → (∃ u, w.cell? ⟨b, off, none⟩ = some u) ∧ w.frozen? ⟨b, off, none⟩ = false ∧ C s' (w.setCell ⟨b, off, none⟩ v))
    (hk : wpLin P ops C Q rest s' (a.put o.dst undef)) : wpLin P ops C Q (o :: rest) s a :=
  lin_move hw (by unfold mv plainOp; rw [ho]; rfl) fun w hC => by
    obtain ⟨⟨u, hu⟩, hf, hC'⟩ := hc w hC
    unfold execOp
    simp only [ho, hx, hy, Instr.storeAt, Instr.sureAddr, Sem.run_bind, Sem.run_pure, Result.andThen_ok, run_storeVar1 w b off ty u v hu hf hi h1]
    exact ⟨s', hC', hk⟩
end
end Go.Proofs.YtopakpmepioomaaDoor.Mv

/- Blocks as words of four bytes, plainly. -/
namespace Go.Proofs.YtopakpmepioomaaDoor
open Go.RowKit
set_option linter.unusedVariables false
/-- the bytes of words -/
def wz (l : Nat → Int) (i : Nat) : Int := byteOf (l (i / 4)) (i % 4)
/-- the words of bytes -/
def wd (z : Nat → Int) (k : Nat) : Int := g32 z (4 * k)
/-- all are words -/
def Wds (l : Nat → Int) : Prop := ∀ k, 0 ≤ l k ∧ l k < 4294967296
theorem wz_byt (l : Nat → Int) : Byt (wz l) := fun i => byteOf_bd _ _
theorem wd_wds {z : Nat → Int} (hz : Byt z) : Wds (wd z) := fun k => g32_bd hz _
theorem wz_wd {z : Nat → Int} (hz : Byt z) (i : Nat) : wz (wd z) i = z i := by
  unfold wz wd
  rw [byteOf_g32 z hz _ _ (by omega)]
  congr 1; omega
theorem g32_wz {l : Nat → Int} (k : Nat) (hl : 0 ≤ l k ∧ l k < 4294967296) : g32 (wz l) (4 * k) = l k := by
  unfold g32 wz
  rw [show 4 * k / 4 = k by omega, show (4 * k + 1) / 4 = k by omega, show (4 * k + 2) / 4 = k by omega, show (4 * k + 3) / 4 = k by omega, show 4 * k % 4 = 0 by omega, show (4 * k + 1) % 4 = 1 by omega, show (4 * k + 2) % 4 = 2 by omega, show (4 * k + 3) % 4 = 3 by omega]
  exact byteOf_sum4 _ hl.1 hl.2
theorem wd_wz {l : Nat → Int} (hl : Wds l) (k : Nat) : wd (wz l) k = l k := g32_wz k (hl k)
theorem byteOf_0 (j : Nat) : byteOf 0 j = 0 := by unfold byteOf; simp
/-- a word written -/
def upd (l : Nat → Int) (k : Nat) (v : Int) : Nat → Int := fun j => if j = k then v else l j
theorem wz_put (l : Nat → Int) (k : Nat) (v : Int) (i : Nat) : over (wz l) (4 * k) 4 (byteOf v) i = wz (upd l k v) i := by
  unfold wz upd
  by_cases h : 4 * k ≤ i ∧ i < 4 * k + 4
  · rw [over_in _ _ _ _ _ h, if_pos (by omega)]; congr 1; omega
  · rw [over_out _ _ _ _ _ (by omega), if_neg (by omega)]
theorem wz_congr {l m : Nat → Int} (n : Nat) (h : ∀ k, k < n → l k = m k) (i : Nat) (hi : i < 4 * n) : wz l i = wz m i := by
  unfold wz; rw [h _ (by omega)]
theorem wz_zero (i : Nat) : wz (fun _ => 0) i = 0 := byteOf_0 _
/-- are two blocks the same? -/
theorem eqB_wz {l m : Nat → Int} (hl : Wds l) (hm : Wds m) (n : Nat) : eqB (wz l) (wz m) (4 * n) = eqB l m n := by
  rw [Bool.eq_iff_iff, eqB_iff, eqB_iff]
  constructor
  · intro h k hk
    rw [← wd_wz hl k, ← wd_wz hm k]
    unfold wd g32
    rw [h _ (by omega), h _ (by omega), h _ (by omega), h _ (by omega)]
  · intro h i hi
    exact wz_congr n h i hi
theorem allZ_wd {z : Nat → Int} (hz : Byt z) (k n : Nat) : allZ (fun i => z (4 * k + i)) (4 * n) = allZ (fun j => wd z (k + j)) n := by
  rw [Bool.eq_iff_iff, allZ_iff, allZ_iff]
  constructor
  · intro h j hj
    have h0 := h (4 * j) (by omega); have h1 := h (4 * j + 1) (by omega); have h2 := h (4 * j + 2) (by omega); have h3 := h (4 * j + 3) (by omega)
    unfold wd g32
    rw [show 4 * (k + j) = 4 * k + 4 * j by omega]
    simp only [Nat.add_assoc] at *
    omega
  · intro h i hi
    have := h (i / 4) (by omega)
    have e := wz_wd hz (4 * k + i)
    unfold wz at e
    rw [← e, show (4 * k + i) / 4 = k + i / 4 by omega, this]
    exact byteOf_0 _
/-- keys rise -/
def riseB (key : Nat → Int) : Nat → Bool
  | 0 => true
  | i + 1 => riseB key i && (i == 0 || decide (key (i - 1) < key i))
theorem riseB_succ (key : Nat → Int) (i : Nat) : riseB key (i + 1) = (riseB key i && (i == 0 || decide (key (i - 1) < key i))) := rfl
theorem riseB_iff (key : Nat → Int) (n : Nat) : riseB key n = true ↔ ∀ i, 0 < i → i < n → key (i - 1) < key i := by
  induction n with
  | zero => simp [riseB]
  | succ n ih =>
    rw [riseB_succ, Bool.and_eq_true, ih, Bool.or_eq_true, beq_iff_eq, decide_eq_true_eq]
    constructor
    · rintro ⟨h, g⟩ i h0 hi
      by_cases e : i = n
      · subst e
        rcases g with g | g
        · omega
        · exact g
      · exact h i h0 (by omega)
    · intro h
      refine ⟨fun i h0 hi => h i h0 (by omega), ?_⟩
      by_cases e : n = 0
      · exact .inl e
      · exact .inr (h n (by omega) (by omega))
theorem riseB_no {key : Nat → Int} {n i : Nat} (h0 : 0 < i) (hi : i < n) (h : ¬ key (i - 1) < key i) : riseB key n = false := by
  cases e : riseB key n with
  | false => rfl
  | true => exact absurd ((riseB_iff key n).1 e i h0 hi) h
theorem riseB_congr {k1 k2 : Nat → Int} {n : Nat} (h : ∀ i, i < n → k1 i = k2 i) : riseB k1 n = riseB k2 n := by
  rw [Bool.eq_iff_iff, riseB_iff, riseB_iff]
  exact ⟨fun g i h0 hi => by rw [← h _ (by omega), ← h _ hi]; exact g i h0 hi, fun g i h0 hi => by rw [h _ (by omega), h _ hi]; exact g i h0 hi⟩
/-- a journal block's words: its kind, its number, the number behind, the rows -/
def jw (kind seq first : Int) (r : Nat → Int) (k : Nat) : Int := if k = 0 then 1280199249 else if k = 1 then kind else if k = 2 then seq else if k = 3 then first else r (k - 4)
theorem jw_wds {kind seq first : Int} {r : Nat → Int} (h1 : 0 ≤ kind ∧ kind < 4294967296) (h2 : 0 ≤ seq ∧ seq < 4294967296) (h3 : 0 ≤ first ∧ first < 4294967296) (hr : Wds r) : Wds (jw kind seq first r) := by
  intro k; unfold jw
  split
  · omega
  · split
    · exact h1
    · split
      · exact h2
      · split
        · exact h3
        · exact hr _
def seqB (s : Int) : Bool := decide (1 ≤ s ∧ s ≤ 2147483648)
/-- a block of noughts -/
def nz : Nat → Int := fun _ => 0
end Go.Proofs.YtopakpmepioomaaDoor

/- Blocks as rows of 128 halves (16 bits each), the superblock's and the descriptors' blocks: plain words. No program in sight. -/
namespace Go.Proofs.YtopakpmepioomaaDoor
set_option linter.unusedVariables false

/-- the bytes of a row of halves -/
def hz (l : Nat → Int) (i : Nat) : Int := byteOf (l (i / 2)) (i % 2)
/-- the half at place k -/
def hd (z : Nat → Int) (k : Nat) : Int := g16 z (2 * k)
def Hvs (l : Nat → Int) : Prop := ∀ k, 0 ≤ l k ∧ l k < 65536
theorem hz_byt (l : Nat → Int) : Byt (hz l) := fun i => byteOf_bd _ _
theorem hd_hvs {z : Nat → Int} (h : Byt z) : Hvs (hd z) := fun k => g16_bd h _
theorem hz_hd {z : Nat → Int} (h : Byt z) (i : Nat) : hz (hd z) i = z i := by
  unfold hz hd
  rw [byteOf_g16 z h _ _ (Nat.mod_lt _ (by omega)), Nat.div_add_mod]
theorem g16_hz {l : Nat → Int} (k : Nat) (hl : 0 ≤ l k ∧ l k < 65536) : g16 (hz l) (2 * k) = l k := by
  unfold g16 hz
  rw [show 2 * k / 2 = k by omega, show (2 * k + 1) / 2 = k by omega, show 2 * k % 2 = 0 by omega, show (2 * k + 1) % 2 = 1 by omega]
  exact byteOf_sum2 _ hl.1 hl.2
theorem hd_hz {l : Nat → Int} (hl : Hvs l) (k : Nat) : hd (hz l) k = l k := g16_hz k (hl k)
theorem hz_put (l : Nat → Int) (k : Nat) (v : Int) (i : Nat) : over (hz l) (2 * k) 2 (byteOf v) i = hz (upd l k v) i := by
  unfold over hz upd
  by_cases h : 2 * k ≤ i ∧ i < 2 * k + 2
  · rw [if_pos h, if_pos (show i / 2 = k by omega)]; congr 1; omega
  · rw [if_neg h, if_neg (show ¬ i / 2 = k by omega)]
theorem byteOf_lo (v : Int) (i : Nat) (hi : i < 2) : byteOf (v % 65536) i = byteOf v i := by
  unfold byteOf
  have : i = 0 ∨ i = 1 := by omega
  rcases this with rfl | rfl
  · simp <;> omega
  · simp <;> omega
theorem byteOf_hi (v : Int) (i : Nat) : byteOf (v / 65536) i = byteOf v (i + 2) := by
  rw [show i + 2 = (i + 1) + 1 by omega, byteOf_succ, byteOf_succ]
  congr 1; omega
/-- a number of 32 bits at an even place -/
def upd2 (l : Nat → Int) (k : Nat) (v : Int) : Nat → Int := upd (upd l k (v % 65536)) (k + 1) (v / 65536)
theorem hz_put4 (l : Nat → Int) (k : Nat) (v : Int) (i : Nat) : over (hz l) (2 * k) 4 (byteOf v) i = hz (upd2 l k v) i := by
  unfold over hz upd2 upd
  by_cases h : 2 * k ≤ i ∧ i < 2 * k + 4
  · rw [if_pos h]
    by_cases h2 : i < 2 * k + 2
    · rw [if_neg (show ¬ i / 2 = k + 1 by omega), if_pos (show i / 2 = k by omega), byteOf_lo _ _ (Nat.mod_lt _ (by omega))]; congr 1; omega
    · rw [if_pos (show i / 2 = k + 1 by omega), byteOf_hi]; congr 1; omega
  · rw [if_neg h, if_neg (show ¬ i / 2 = k + 1 by omega), if_neg (show ¬ i / 2 = k by omega)]
theorem hz_congr {l m : Nat → Int} (n : Nat) (h : ∀ k, k < n → l k = m k) (i : Nat) (hi : i < 2 * n) : hz l i = hz m i := by
  unfold hz; rw [h (i / 2) (by omega)]
theorem hz_zero (i : Nat) : hz (fun _ => 0) i = 0 := byteOf_0 _
theorem g32_hz {l : Nat → Int} (hl : Hvs l) (k : Nat) : g32 (hz l) (2 * k) = l k + 65536 * l (k + 1) := by
  rw [g32_halves, g16_hz k (hl k), show 2 * k + 2 = 2 * (k + 1) by omega, g16_hz (k + 1) (hl _)]
theorem upd_hvs {l : Nat → Int} (hl : Hvs l) (k : Nat) {v : Int} (hv : 0 ≤ v ∧ v < 65536) : Hvs (upd l k v) := by
  intro j; unfold upd; split
  · exact hv
  · exact hl j
theorem upd2_hvs {l : Nat → Int} (hl : Hvs l) (k : Nat) {v : Int} (hv : 0 ≤ v ∧ v < 4294967296) : Hvs (upd2 l k v) := upd_hvs (upd_hvs hl _ (by omega)) _ (by omega)
theorem eqB_hz {l m : Nat → Int} (hl : Hvs l) (hm : Hvs m) (n : Nat) : eqB (hz l) (hz m) (2 * n) = eqB l m n := by
  rw [Bool.eq_iff_iff, eqB_iff, eqB_iff]
  constructor
  · intro h k hk
    have h0 := h (2 * k) (by omega)
    have h1 := h (2 * k + 1) (by omega)
    rw [← g16_hz k (hl k), ← g16_hz k (hm k)]
    unfold g16; rw [h0, h1]
  · intro h i hi
    exact hz_congr n h i hi
theorem allZ_hd {z : Nat → Int} (hzb : Byt z) (k n : Nat) : allZ (fun i => z (2 * k + i)) (2 * n) = allZ (fun j => hd z (k + j)) n := by
  rw [Bool.eq_iff_iff, allZ_iff, allZ_iff]
  constructor
  · intro h j hj
    have h0 := h (2 * j) (by omega)
    have h1 := h (2 * j + 1) (by omega)
    show g16 z (2 * (k + j)) = 0
    unfold g16
    rw [show 2 * (k + j) = 2 * k + 2 * j by omega, h0, Nat.add_assoc, h1]; rfl
  · intro h i hi
    have hj : g16 z (2 * (k + i / 2)) = 0 := h (i / 2) (by omega)
    have b0 := hzb (2 * (k + i / 2))
    have b1 := hzb (2 * (k + i / 2) + 1)
    unfold g16 at hj
    have : i = 2 * (i / 2) ∨ i = 2 * (i / 2) + 1 := by omega
    rcases this with e | e
    · rw [show 2 * k + i = 2 * (k + i / 2) by omega]; omega
    · rw [show 2 * k + i = 2 * (k + i / 2) + 1 by omega]; omega
/-- a block with its sum -/
def sealZ (z : Nat → Int) : Nat → Int := over z 252 4 (byteOf (crcZ z 252))
/-- the sum is right -/
def sumB (z : Nat → Int) : Bool := g32 z 252 == crcZ z 252
theorem sealZ_byt {z : Nat → Int} (h : Byt z) : Byt (sealZ z) := byt_over h (byt_byteOf _) _ _
theorem sealZ_low (z : Nat → Int) (i : Nat) (hi : i < 252) : sealZ z i = z i := over_out _ _ _ _ _ (.inl hi)
theorem sealZ_congr {z y : Nat → Int} (h : ∀ i, i < 252 → z i = y i) (i : Nat) (hi : i < 256) : sealZ z i = sealZ y i := by
  unfold sealZ over
  rw [crcZ_congr h]
  by_cases hc : 252 ≤ i ∧ i < 252 + 4
  · rw [if_pos hc, if_pos hc]
  · rw [if_neg hc, if_neg hc]; exact h i (by omega)
theorem crc_seal (z : Nat → Int) : crcZ (sealZ z) 252 = crcZ z 252 := crcZ_congr fun i hi => sealZ_low z i hi
theorem sumB_seal (z : Nat → Int) : sumB (sealZ z) = true := by
  unfold sumB
  rw [crc_seal]
  unfold sealZ
  rw [g32_over _ _ _ (crcZ_bd _ _).1 (crcZ_bd _ _).2]
  simp
/-- a block whose sum is right is one that was sealed -/
theorem seal_of_sum {z : Nat → Int} (hz' : Byt z) (h : sumB z = true) (i : Nat) (hi : i < 256) : sealZ z i = z i := by
  unfold sumB at h
  rw [beq_iff_eq] at h
  unfold sealZ over
  by_cases hc : 252 ≤ i ∧ i < 252 + 4
  · rw [if_pos hc, ← h, byteOf_g32 z hz' 252 (i - 252) (by omega), Nat.add_sub_cancel' hc.1]
  · rw [if_neg hc]
/-- one byte otherwise: the sum is wrong -/
theorem sum_one {z y : Nat → Int} (hz' : Byt z) (hy : Byt y) (hs : sumB z = true) {j : Nat} (hj : j < 256) (hne : y j ≠ z j) (heq : ∀ i, i < 256 → i ≠ j → y i = z i) : sumB y = false := by
  cases h : sumB y with
  | false => rfl
  | true =>
    exfalso
    have e1 := seal_of_sum hz' hs
    have e2 := seal_of_sum hy h
    by_cases hj2 : j < 252
    · have hc := crcZ_one hy hz' hj2 hne fun i hi hij => heq i (by omega) hij
      unfold sumB at hs h
      rw [beq_iff_eq] at hs h
      apply hc
      rw [← hs, ← h]
      unfold g32
      rw [heq 252 (by omega) (by omega), heq 253 (by omega) (by omega), heq 254 (by omega) (by omega), heq 255 (by omega) (by omega)]
    · have hc : crcZ y 252 = crcZ z 252 := crcZ_congr fun i hi => heq i (by omega) (by omega)
      apply hne
      rw [← e1 j hj, ← e2 j hj]
      unfold sealZ over
      rw [if_pos (by omega), if_pos (by omega), hc]
end Go.Proofs.YtopakpmepioomaaDoor
