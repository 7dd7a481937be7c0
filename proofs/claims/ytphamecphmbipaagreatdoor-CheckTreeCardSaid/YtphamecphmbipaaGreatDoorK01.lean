/- Texts of this claim, merged. -/
import Derived.WalkKit
import Derived.Below
import Derived.Deep.Draws
import Derived.Lib.Hide
import Derived.Laws.BitsAllLaws
import Derived.Test.YtphamecphmbipaaGreatDoorRows
import Derived.Outline
import Derived.Deep.QuietTactic
import Derived.BigQuiet
import Derived.IntWalk
set_option maxRecDepth 100000
set_option maxHeartbeats 16000000

namespace Go.Proofs.YtphamecphmbipaaGreatDoor
open Go.RowKit
theorem ret_bool {a b:Bool} (h:a = b):Ending.returned (.bool a) = .returned (.bool b):=by rw [h]
theorem ret_ib {k:IntKind} {a b:Int} {c d:Bool} (h:a = b) (g:c = d):Ending.returned (.tuple #[.int k a,.bool c]) = .returned (.tuple #[.int k b,.bool d]):=by rw [h,g]
theorem int_eq {k:IntKind} {a b:Int} (h:a = b):Value.int k a = .int k b:=by rw [h]
def Seg (w:World) (b off n:Nat) (z:Nat → Int):Prop:=∀ i,i < n → w.cell? ⟨b,off + i,none⟩ = some (.int .u8 (z i))
def Byt (z:Nat → Int):Prop:=∀ i,0 ≤ z i ∧ z i < 256
def Row (w:World) (a:Option Addr) (n:Nat) (z:Nat → Int):Prop:=n = 0 ∨ ∃ b off,a = some ⟨b,off,none⟩ ∧ Seg w b off n z
def Soft (w:World) (b off n:Nat):Prop:=∀ i,i < n → w.frozen? ⟨b,off + i,none⟩ = false
def g16 (z:Nat → Int) (i:Nat):Int:=z i + 256 * z (i + 1)
def g32 (z:Nat → Int) (i:Nat):Int:=z i + 256 * z (i + 1) + 65536 * z (i + 2) + 16777216 * z (i + 3)
def byteOf (v:Int) (i:Nat):Int:=v / 256 ^ i % 256
def over (z:Nat → Int) (k n:Nat) (f:Nat → Int):Nat → Int:=fun i => if k ≤ i ∧ i < k + n then f (i - k) else z i
theorem byteOf_bd (v:Int) (i:Nat):0 ≤ byteOf v i ∧ byteOf v i < 256:=by unfold byteOf;omega
theorem byteOf_zero (v:Int):byteOf v 0 = v % 256:=by simp [byteOf]
theorem byteOf_succ (v:Int) (i:Nat):byteOf v (i + 1) = byteOf (v / 256) i:=by
 unfold byteOf
 rw [Int.pow_succ,Int.mul_comm,← Int.ediv_ediv_of_nonneg (by omega)]
theorem byt_over {z f:Nat → Int} (hz:Byt z) (hf:Byt f) (k n:Nat):Byt (over z k n f):=by
 intro i;unfold over;split
 ·exact hf _
 ·exact hz _
theorem byt_byteOf (v:Int):Byt (byteOf v):=byteOf_bd v
theorem g16_bd {z:Nat → Int} (hz:Byt z) (i:Nat):0 ≤ g16 z i ∧ g16 z i < 65536:=by
 have:=hz i;have:=hz (i + 1);unfold g16;omega
theorem g32_bd {z:Nat → Int} (hz:Byt z) (i:Nat):0 ≤ g32 z i ∧ g32 z i < 4294967296:=by
 have:=hz i;have:=hz (i + 1);have:=hz (i + 2);have:=hz (i + 3);unfold g32;omega
theorem Seg.drewN {w:World} {b off n:Nat} {z:Nat → Int} (h:Seg w b off n z) (m:Nat):Seg (w.drewN m) b off n z:=h
theorem Seg.sub {w:World} {b off n:Nat} {z:Nat → Int} (h:Seg w b off n z) (k m:Nat) (hk:k + m ≤ n):Seg w b (off + k) m (fun i => z (k + i)):=by
 intro i hi
 have:=h (k + i) (by omega)
 rw [Nat.add_assoc];exact this
theorem Seg.take {w:World} {b off n:Nat} {z:Nat → Int} (h:Seg w b off n z) (m:Nat) (hk:m ≤ n):Seg w b off m z:=fun i hi => h i (by omega)
theorem Seg.congr {w:World} {b off n:Nat} {z y:Nat → Int} (h:Seg w b off n z) (e:∀ i,i < n → z i = y i):Seg w b off n y:=fun i hi => by rw [← e i hi];exact h i hi
structure Only (b:Nat) (w w':World):Prop where
 os:w'.os = w.os
 tape:w'.tape = w.tape
 output:w'.output = w.output
 size:w'.heap.size = w.heap.size
 block:∀ k,k ≠ b → w'.heap[k]? = w.heap[k]?
 frozen:∀ a,w'.frozen? a = w.frozen? a
 shape:∀ c e fr,w.heap[b]? = some (.cells c e fr) → ∃ c',c'.size = c.size ∧ w'.heap[b]? = some (.cells c' e fr)
theorem Only.refl (b:Nat) (w:World):Only b w w:=⟨rfl,rfl,rfl,rfl,fun _ _ => rfl,fun _ => rfl,fun c _ _ h => ⟨c,rfl,h⟩⟩
theorem Only.drewN {b:Nat} {w w':World} (h:Only b w w') (m:Nat):Only b w (w'.drewN m):=⟨h.os,h.tape,h.output,h.size,h.block,h.frozen,h.shape⟩
theorem Only.trans {b:Nat} {u v w:World} (h:Only b u v) (k:Only b v w):Only b u w :=
 ⟨k.os.trans h.os,k.tape.trans h.tape,k.output.trans h.output,k.size.trans h.size,fun j hj => (k.block j hj).trans (h.block j hj),fun a => (k.frozen a).trans (h.frozen a),
  fun c e fr hc => by obtain ⟨c1,h1,g1⟩:=h.shape c e fr hc;obtain ⟨c2,h2,g2⟩:=k.shape c1 e fr g1;exact ⟨c2,h2.trans h1,g2⟩⟩
theorem Only.setCell (w:World) (a:Addr) (v:Value):Only a.block w (w.setCell a v) :=
 ⟨rfl,rfl,rfl,by simp [World.setCell],fun k hk => Below.heap_setCell w a v k hk,fun x => World.frozen?_setCell ..,fun c e fr hc => by
  obtain ⟨hlt,hk⟩:=Array.getElem?_eq_some_iff.1 hc
  refine ⟨if a.spot.isSome then c else c.setIfInBounds a.off v,by split <;> simp,?_⟩
  show (w.heap.modify a.block _)[a.block]? = _
  rw [Array.getElem?_eq_getElem (by rw [Array.size_modify];exact hlt),Array.getElem_modify_self,hk]⟩
theorem Only.below {b B:Nat} {w w':World} (h:Only b w w') (hb:B ≤ b):Below B w w' :=
 ⟨h.os,h.tape,h.output,by rw [h.size];exact Nat.le_refl _,fun k hk => h.block k (by omega)⟩
theorem Only.cell {b:Nat} {w w':World} (h:Only b w w') {p:Addr} (hp:p.block ≠ b):w'.cell? p = w.cell? p:=World.cell?_of_block (w:=w) (h.block p.block hp)
theorem Only.seg {b:Nat} {w w':World} (h:Only b w w') {c off n:Nat} {z:Nat → Int} (hc:c ≠ b) (hs:Seg w c off n z):Seg w' c off n z :=
 fun i hi => (h.cell (p:=⟨c,off + i,none⟩) hc).trans (hs i hi)
theorem Only.row {b:Nat} {w w':World} (h:Only b w w') {a:Option Addr} {n:Nat} {z:Nat → Int} (hc:∀ x,a = some x → x.block ≠ b) (hs:Row w a n z):Row w' a n z:=by
 rcases hs with h0 | ⟨c,off,rfl,hs⟩
 ·exact .inl h0
 ·exact .inr ⟨c,off,rfl,h.seg (hc _ rfl) hs⟩
structure Puts (b lo n:Nat) (f:Nat → Int) (w w':World):Prop where
 only:Only b w w'
 cell:∀ o,w'.cell? ⟨b,o,none⟩ = if lo ≤ o ∧ o < lo + n then some (.int .u8 (f (o - lo))) else w.cell? ⟨b,o,none⟩
theorem Puts.nil (b lo:Nat) (f:Nat → Int) (w:World):Puts b lo 0 f w w:=⟨Only.refl _ _,fun o => by rw [if_neg (by omega)]⟩
theorem Puts.drewN {b lo n:Nat} {f:Nat → Int} {w w':World} (h:Puts b lo n f w w') (m:Nat):Puts b lo n f w (w'.drewN m):=⟨h.only.drewN m,h.cell⟩
theorem Puts.snoc {b lo n:Nat} {f:Nat → Int} {w w':World} (h:Puts b lo n f w w') {u v:Value} (hu:w.cell? ⟨b,lo + n,none⟩ = some u) (hv:v = .int .u8 (f n)) :
  Puts b lo (n + 1) f w (w'.setCell ⟨b,lo + n,none⟩ v):=by
 subst hv
 refine ⟨h.only.trans (Only.setCell w' ⟨b,lo + n,none⟩ _),fun o => ?_⟩
 by_cases ho:o = lo + n
 ·subst ho
  rw [if_pos (by omega),World.cell?_setCell_same (u:=u)]
  ·congr 2;rw [Nat.add_sub_cancel_left]
  ·rw [h.cell,if_neg (by omega)];exact hu
 ·rw [World.cell?_setCell_other,h.cell]
  ·by_cases hi:lo ≤ o ∧ o < lo + n
   ·rw [if_pos hi,if_pos (by omega)]
   ·rw [if_neg hi,if_neg (by omega)]
  ·intro he;apply ho;injection he with _ e2;exact e2.symm
theorem Puts.seg {b lo n:Nat} {f:Nat → Int} {w w':World} (h:Puts b lo n f w w') {off m k:Nat} {z:Nat → Int} (hs:Seg w b off m z) (hk:lo = off + k):Seg w' b off m (over z k n f):=by
 intro i hi
 rw [h.cell,hs i hi]
 unfold over
 subst hk
 by_cases hc:k ≤ i ∧ i < k + n
 ·rw [if_pos (by omega),if_pos hc];congr 2;congr 1;omega
 ·rw [if_neg (by omega),if_neg hc]
theorem shl_or_u32 (v x:Int) (h0:0 ≤ v) (h1:v < 16777216) (h2:0 ≤ x) (h3:x < 256):bits .or .u32 (v * 256) x = v * 256 + x:=by
 obtain ⟨V,rfl⟩:=Int.eq_ofNat_of_zero_le h0
 obtain ⟨X,rfl⟩:=Int.eq_ofNat_of_zero_le h2
 have e:=u32_or_nat (V * 256) X (by omega) (by omega)
 rw [show ((V * 256:Nat):Int) = (V:Int) * 256 from by omega] at e
 rw [e]
 have:=Nat.two_pow_add_eq_or_of_lt (i:=8) (b:=X) (by omega) V
 rw [show (2:Nat) ^ 8 * V = V * 256 from by omega] at this
 omega
theorem shl_or_u16 (v x:Int) (h0:0 ≤ v) (h1:v < 256) (h2:0 ≤ x) (h3:x < 256):bits .or .u16 (v * 256) x = v * 256 + x:=by
 obtain ⟨V,rfl⟩:=Int.eq_ofNat_of_zero_le h0
 obtain ⟨X,rfl⟩:=Int.eq_ofNat_of_zero_le h2
 have e:=u16_or_nat (V * 256) X (by omega) (by omega)
 rw [show ((V * 256:Nat):Int) = (V:Int) * 256 from by omega] at e
 rw [e]
 have:=Nat.two_pow_add_eq_or_of_lt (i:=8) (b:=X) (by omega) V
 rw [show (2:Nat) ^ 8 * V = V * 256 from by omega] at this
 omega
def allZ (z:Nat → Int):Nat → Bool
 | 0 => true
 | n + 1 => allZ z n && decide (z n = 0)
theorem allZ_succ (z:Nat → Int) (n:Nat):allZ z (n + 1) = (allZ z n && decide (z n = 0)):=rfl
theorem allZ_iff (z:Nat → Int) (n:Nat):allZ z n = true ↔ ∀ i,i < n → z i = 0:=by
 induction n with
 | zero => simp [allZ]
 | succ n ih =>
  rw [allZ_succ,Bool.and_eq_true,ih,decide_eq_true_eq]
  constructor
  ·rintro ⟨h,g⟩ i hi
   by_cases e:i = n
   ·rw [e];exact g
   ·exact h i (by omega)
  ·intro h;exact ⟨fun i hi => h i (by omega),h n (by omega)⟩
theorem allZ_no {z:Nat → Int} {n j:Nat} (hj:j < n) (h:¬ z j = 0):allZ z n = false:=by
 cases e:allZ z n with
 | false => rfl
 | true => exact absurd ((allZ_iff z n).1 e j hj) h
def eqB (z y:Nat → Int):Nat → Bool
 | 0 => true
 | n + 1 => eqB z y n && decide (z n = y n)
theorem eqB_succ (z y:Nat → Int) (n:Nat):eqB z y (n + 1) = (eqB z y n && decide (z n = y n)):=rfl
theorem eqB_iff (z y:Nat → Int) (n:Nat):eqB z y n = true ↔ ∀ i,i < n → z i = y i:=by
 induction n with
 | zero => simp [eqB]
 | succ n ih =>
  rw [eqB_succ,Bool.and_eq_true,ih,decide_eq_true_eq]
  constructor
  ·rintro ⟨h,g⟩ i hi
   by_cases e:i = n
   ·rw [e];exact g
   ·exact h i (by omega)
  ·intro h;exact ⟨fun i hi => h i (by omega),h n (by omega)⟩
end Go.Proofs.YtphamecphmbipaaGreatDoor

namespace Go.Proofs.YtphamecphmbipaaGreatDoor
open Go.RowKit
set_option linter.unusedVariables false
theorem within_yes (n at' size:Int) (w:World) (hn:0 ≤ n) (hl:n ≤ 9223372036854775807) (hs:0 ≤ size) (h:0 ≤ at' ∧ at' + size ≤ n) :
  Calls Tryz.prog 137 #[.int .i64 n,.int .i64 at',.int .i64 size] w fun e w' => e = .returned (.bool true) ∧ w = w':=by
 have h1:at' ≤ n - size:=by omega
 have h2:size ≤ n:=by omega
 obtain ⟨h,_⟩:=h
 go_enter Tryz.func137,Tryz.ntmps137
 go_wp2
 go_ret
 exact ⟨ret_bool (by simp),rfl⟩
theorem within_no (n at' size:Int) (w:World) (hn:0 ≤ n) (hl:n ≤ 9223372036854775807) (hs:0 ≤ size) (h:¬ (0 ≤ at' ∧ at' + size ≤ n)) :
  Calls Tryz.prog 137 #[.int .i64 n,.int .i64 at',.int .i64 size] w fun e w' => e = .returned (.bool false) ∧ w = w':=by
 by_cases h0:0 ≤ at'
 ·by_cases h2:size ≤ n
  ·have h1:decide (at' ≤ n - size) = false:=by simp;omega
   clear h
   go_enter Tryz.func137,Tryz.ntmps137
   go_wp2
   go_ret
   exact ⟨rfl,rfl⟩
  ·clear h
   go_enter Tryz.func137,Tryz.ntmps137
   go_wp2
   go_ret
   exact ⟨rfl,rfl⟩
 ·clear h
  go_enter Tryz.func137,Tryz.ntmps137
  go_wp2
  go_ret
  exact ⟨rfl,rfl⟩
theorem iget16_yes (b off len cap:Nat) (at':Int) (z:Nat → Int) (w:World) (hl:(len:Int) ≤ 9223372036854775807) (h0:0 ≤ at') (h1:at' + 2 ≤ len)
  (hs:Seg w b off len z) (hz:Byt z) :
  Calls Tryz.prog 91 #[.slice (some ⟨b,off,none⟩) len cap,.int .i64 at',.int .i64 2] w fun e w' => e = .returned (.tuple #[.int .u16 (g16 z at'.toNat),.bool true]) ∧ w = w':=by
 obtain ⟨i,rfl⟩:=Int.eq_ofNat_of_zero_le h0
 have c0:=hs (i) (by omega)
 have z0:=hz (i)
 have c1:=hs (i + 1) (by omega)
 have z1:=hz (i + 1)
 have e1:bits BinOp.or IntKind.u16 0 (z (i + 1)) = z (i + 1):=by have:=shl_or_u16 0 (z (i + 1)) (by omega) (by omega) (by omega) (by omega);simpa using this
 have e0:bits BinOp.or IntKind.u16 ((z (i + 1)) * 256) (z i) = (z (i + 1)) * 256 + z i:=shl_or_u16 _ _ (by omega) (by omega) (by omega) (by omega)
 have r:Hid ((z (i + 1)) * 256 + z i = g16 z ((i:Int)).toNat):=by show _ = _;unfold g16;rw [Int.toNat_natCast];omega
 go_enter Tryz.func91,Tryz.ntmps91
 go_wp2_with (go_at_call 137;refine (within_yes _ _ _ _ (by omega) (by omega) (by omega) (by omega)).mono ?_;rintro e w' ⟨rfl,rfl⟩)
 refine wp_loop_rounds 3 ?_
 rw [rounds_succ]
 go_wp2
 rw [rounds_succ]
 go_wp2
 rw [rounds_succ]
 go_wp2
 go_ret2
 exact ⟨ret_ib r.out rfl,rfl⟩
theorem get16_yes (b off len cap:Nat) (at':Int) (z:Nat → Int) (w:World) (hl:(len:Int) ≤ 9223372036854775807) (h0:0 ≤ at') (h1:at' + 2 ≤ len)
  (hs:Seg w b off len z) (hz:Byt z) :
  Calls Tryz.prog 50 #[.slice (some ⟨b,off,none⟩) len cap,.int .i64 at'] w fun e w' => e = .returned (.tuple #[.int .u32 (g16 z at'.toNat),.bool true]) ∧ w = w':=by
 have hb:=g16_bd hz at'.toNat
 go_enter Tryz.func50,Tryz.ntmps50
 go_wp2_with (go_at_call 91;refine (iget16_yes _ _ _ _ _ z _ hl h0 h1 hs hz).mono ?_;rintro e w' ⟨rfl,rfl⟩)
 go_ret2
 exact ⟨rfl,rfl⟩
theorem iget32_yes (b off len cap:Nat) (at':Int) (z:Nat → Int) (w:World) (hl:(len:Int) ≤ 9223372036854775807) (h0:0 ≤ at') (h1:at' + 4 ≤ len)
  (hs:Seg w b off len z) (hz:Byt z) :
  Calls Tryz.prog 92 #[.slice (some ⟨b,off,none⟩) len cap,.int .i64 at',.int .i64 4] w fun e w' => e = .returned (.tuple #[.int .u32 (g32 z at'.toNat),.bool true]) ∧ w = w':=by
 obtain ⟨i,rfl⟩:=Int.eq_ofNat_of_zero_le h0
 have c0:=hs (i) (by omega)
 have z0:=hz (i)
 have c1:=hs (i + 1) (by omega)
 have z1:=hz (i + 1)
 have c2:=hs (i + 2) (by omega)
 have z2:=hz (i + 2)
 have c3:=hs (i + 3) (by omega)
 have z3:=hz (i + 3)
 have e3:bits BinOp.or IntKind.u32 0 (z (i + 3)) = z (i + 3):=by have:=shl_or_u32 0 (z (i + 3)) (by omega) (by omega) (by omega) (by omega);simpa using this
 have e2:bits BinOp.or IntKind.u32 ((z (i + 3)) * 256) (z (i + 2)) = (z (i + 3)) * 256 + z (i + 2):=shl_or_u32 _ _ (by omega) (by omega) (by omega) (by omega)
 have e1:bits BinOp.or IntKind.u32 (((z (i + 3)) * 256 + z (i + 2)) * 256) (z (i + 1)) = ((z (i + 3)) * 256 + z (i + 2)) * 256 + z (i + 1):=shl_or_u32 _ _ (by omega) (by omega) (by omega) (by omega)
 have e0:bits BinOp.or IntKind.u32 ((((z (i + 3)) * 256 + z (i + 2)) * 256 + z (i + 1)) * 256) (z i) = (((z (i + 3)) * 256 + z (i + 2)) * 256 + z (i + 1)) * 256 + z i:=shl_or_u32 _ _ (by omega) (by omega) (by omega) (by omega)
 have r:Hid ((((z (i + 3)) * 256 + z (i + 2)) * 256 + z (i + 1)) * 256 + z i = g32 z ((i:Int)).toNat):=by show _ = _;unfold g32;rw [Int.toNat_natCast];omega
 go_enter Tryz.func92,Tryz.ntmps92
 go_wp2_with (go_at_call 137;refine (within_yes _ _ _ _ (by omega) (by omega) (by omega) (by omega)).mono ?_;rintro e w' ⟨rfl,rfl⟩)
 refine wp_loop_rounds 5 ?_
 rw [rounds_succ]
 go_wp2
 rw [rounds_succ]
 go_wp2
 rw [rounds_succ]
 go_wp2
 rw [rounds_succ]
 go_wp2
 rw [rounds_succ]
 go_wp2
 go_ret2
 exact ⟨ret_ib r.out rfl,rfl⟩
theorem iget32_no (a:Option Addr) (len cap:Nat) (at':Int) (w:World) (hl:(len:Int) ≤ 9223372036854775807) (h:¬ (0 ≤ at' ∧ at' + 4 ≤ len)) :
  Calls Tryz.prog 92 #[.slice a len cap,.int .i64 at',.int .i64 4] w fun e w' => e = .returned (.tuple #[.int .u32 0,.bool false]) ∧ w = w':=by
 have H:=Lib.hid h
 clear h
 go_enter Tryz.func92,Tryz.ntmps92
 go_wp2_with (go_at_call 137;refine (within_no _ _ _ _ (by omega) (by omega) (by omega) H.out).mono ?_;rintro e w' ⟨rfl,rfl⟩)
 go_ret2
 exact ⟨rfl,rfl⟩
theorem get32_yes (b off len cap:Nat) (at':Int) (z:Nat → Int) (w:World) (hl:(len:Int) ≤ 9223372036854775807) (h0:0 ≤ at') (h1:at' + 4 ≤ len)
  (hs:Seg w b off len z) (hz:Byt z) :
  Calls Tryz.prog 51 #[.slice (some ⟨b,off,none⟩) len cap,.int .i64 at'] w fun e w' => e = .returned (.tuple #[.int .u32 (g32 z at'.toNat),.bool true]) ∧ w = w':=by
 have hb:=g32_bd hz at'.toNat
 go_enter Tryz.func51,Tryz.ntmps51
 go_wp2_with (go_at_call 92;refine (iget32_yes _ _ _ _ _ z _ hl h0 h1 hs hz).mono ?_;rintro e w' ⟨rfl,rfl⟩)
 go_ret2
 exact ⟨rfl,rfl⟩
theorem get32_no (a:Option Addr) (len cap:Nat) (at':Int) (w:World) (hl:(len:Int) ≤ 9223372036854775807) (h:¬ (0 ≤ at' ∧ at' + 4 ≤ len)) :
  Calls Tryz.prog 51 #[.slice a len cap,.int .i64 at'] w fun e w' => e = .returned (.tuple #[.int .u32 0,.bool false]) ∧ w = w':=by
 have H:=Lib.hid h
 clear h
 go_enter Tryz.func51,Tryz.ntmps51
 go_wp2_with (go_at_call 92;refine (iget32_no _ _ _ _ _ hl H.out).mono ?_;rintro e w' ⟨rfl,rfl⟩)
 go_ret2
 exact ⟨rfl,rfl⟩
theorem zero_any (a:Option Addr) (len cap:Nat) (z:Nat → Int) (w:World) (hl:(len:Int) ≤ 9223372036854775807) (hs:Row w a len z) :
  Calls Tryz.prog 49 #[.slice a len cap] w fun e w' => e = .returned (.bool (allZ z len)) ∧ w = w':=by
 have start:allZ z 0 = true:=by simp [allZ]
 have START:=Lib.hid start
 clear start
 go_enter Tryz.func49,Tryz.ntmps49
 go_wp2
 go_loop [7] (fun k => ∃ j:Nat,j ≤ len ∧ k = .int .i64 j ∧ Hid (allZ z j = true)) (fun k => len - (intOf k).toNat)
 case atStart => exact ⟨0,by omega,rfl,START⟩
 case round =>
  obtain ⟨j,hj,rfl,hall⟩:=hrel
  by_cases hlt:j < len
  ·rcases hs with h0 | ⟨b,off,rfl,hs⟩
   ·omega
   have hc:=hs j hlt
   by_cases hz:z j = 0
   ·have hz':(z j != 0) = false:=by simp [hz]
    have HZ:=Lib.hid hz
    clear hz
    go_wp2
    go_round
    case rel => exact ⟨j + 1,by omega,by go_num,by show allZ z (j + 1) = true;rw [allZ_succ,hall.out,HZ.out];rfl⟩
    case measure => simp [intOf];omega
   ·have hz':(z j != 0) = true:=by simp [hz]
    have HZ:=Lib.hid (allZ_no hlt hz)
    clear hz
    go_wp2
    go_ret
    exact ⟨ret_bool (by rw [HZ.out]),rfl⟩
  ·obtain rfl:j = len:=by omega
   go_wp2
   go_ret
   exact ⟨ret_bool (by rw [hall.out]),rfl⟩
theorem rget16_yes (b off len cap:Nat) (at':Int) (z:Nat → Int) (w:World) (hl:(len:Int) ≤ 9223372036854775807) (h0:0 ≤ at') (h1:at' + 2 ≤ len)
  (hs:Seg w b off len z) (hz:Byt z) :
  Calls Tryz.prog 143 #[.slice (some ⟨b,off,none⟩) len cap,.int .i64 at'] w fun e w' => e = .returned (.tuple #[.int .u32 (g16 z at'.toNat),.bool true]) ∧ ∃ m,w' = w.drewN m:=by
 obtain ⟨i,rfl⟩:=Int.eq_ofNat_of_zero_le h0
 have c0:=hs (i) (by omega)
 have z0:=hz (i)
 have c1:=hs (i + 1) (by omega)
 have z1:=hz (i + 1)
 have r:Hid (z i + 256 * z (i + 1) = g16 z ((i:Int)).toNat):=by show _ = _;unfold g16;rw [Int.toNat_natCast]
 have d1:decide ((len:Int) < 2) = false:=by simp;omega
 have d2:decide ((len:Int) - 2 < (i:Int)) = false:=by simp;omega
 go_enter Tryz.func143,Tryz.ntmps143
 go_wp2
 have e11:IntKind.i64.wrap ((i:Int) + 1) = (i:Int) + 1:=IntWalk.i64_in _ (by omega)
 have e12:(0:Int) ≤ (i:Int) + 1:=by omega
 have e13:((i:Int) + 1).toNat = i + 1:=by omega
 go_quiet (fail)
 go_wp2
 go_ret2
 exact ⟨ret_ib r.out rfl,_,rfl⟩
theorem rget32_yes (b off len cap:Nat) (at':Int) (z:Nat → Int) (w:World) (hl:(len:Int) ≤ 9223372036854775807) (h0:0 ≤ at') (h1:at' + 4 ≤ len)
  (hs:Seg w b off len z) (hz:Byt z) :
  Calls Tryz.prog 106 #[.slice (some ⟨b,off,none⟩) len cap,.int .i64 at'] w fun e w' => e = .returned (.tuple #[.int .u32 (g32 z at'.toNat),.bool true]) ∧ ∃ m,w' = w.drewN m:=by
 obtain ⟨i,rfl⟩:=Int.eq_ofNat_of_zero_le h0
 have c0:=hs (i) (by omega)
 have z0:=hz (i)
 have c1:=hs (i + 1) (by omega)
 have z1:=hz (i + 1)
 have c2:=hs (i + 2) (by omega)
 have z2:=hz (i + 2)
 have c3:=hs (i + 3) (by omega)
 have z3:=hz (i + 3)
 have r:Hid (z i + 256 * z (i + 1) + 65536 * z (i + 2) + 16777216 * z (i + 3) = g32 z ((i:Int)).toNat):=by show _ = _;unfold g32;rw [Int.toNat_natCast]
 have d1:decide ((len:Int) < 4) = false:=by simp;omega
 have d2:decide ((len:Int) - 4 < (i:Int)) = false:=by simp;omega
 go_enter Tryz.func106,Tryz.ntmps106
 go_wp2
 have e11:IntKind.i64.wrap ((i:Int) + 1) = (i:Int) + 1:=IntWalk.i64_in _ (by omega)
 have e12:(0:Int) ≤ (i:Int) + 1:=by omega
 have e13:((i:Int) + 1).toNat = i + 1:=by omega
 have e21:IntKind.i64.wrap ((i:Int) + 2) = (i:Int) + 2:=IntWalk.i64_in _ (by omega)
 have e22:(0:Int) ≤ (i:Int) + 2:=by omega
 have e23:((i:Int) + 2).toNat = i + 2:=by omega
 have e31:IntKind.i64.wrap ((i:Int) + 3) = (i:Int) + 3:=IntWalk.i64_in _ (by omega)
 have e32:(0:Int) ≤ (i:Int) + 3:=by omega
 have e33:((i:Int) + 3).toNat = i + 3:=by omega
 go_quiet (fail)
 go_wp2
 go_ret2
 exact ⟨ret_ib r.out rfl,_,rfl⟩
theorem rput16_yes (b off len cap:Nat) (at':Int) (v:Int) (z:Nat → Int) (w:World) (hl:(len:Int) ≤ 9223372036854775807) (h0:0 ≤ at') (h1:at' + 2 ≤ len)
  (hv:0 ≤ v) (hv2:v ≤ 65535) (hs:Seg w b off len z) (hz:Byt z) (hf:Soft w b off len) :
  Calls Tryz.prog 97 #[.slice (some ⟨b,off,none⟩) len cap,.int .i64 at',.int .u32 v] w fun e w' => e = .returned (.bool true) ∧ Puts b (off + at'.toNat) 2 (byteOf v) w w':=by
 have HG:Hid (_):=Lib.hid (fun w' (hs:Seg w' b off len z) => rget16_yes b off len cap at' z w' hl h0 h1 hs hz)
 obtain ⟨i,rfl⟩:=Int.eq_ofNat_of_zero_le h0
 rw [Int.toNat_natCast]
 have c0:=hs i (by omega)
 have c1:=hs (i + 1) (by omega)
 have f0:=hf i (by omega)
 have f1:=hf (i + 1) (by omega)
 have HP:Hid (∀ w':World,Puts b (off + i) 0 (byteOf v) w w' → Puts b (off + i) 2 (byteOf v) w ((w'.setCell ⟨b,off + i,none⟩ (.int .u8 (v % 256))).setCell ⟨b,off + (i + 1),none⟩ (.int .u8 (v / 256)))):=by
  intro w' hp
  have h1:=hp.snoc (u:=.int .u8 (z i)) (v:=.int .u8 (v % 256)) c0 (by rw [byteOf_zero])
  have h2:=h1.snoc (u:=.int .u8 (z (i + 1))) (v:=.int .u8 (v / 256)) (by rw [Nat.add_assoc];exact c1) (by rw [byteOf_succ,byteOf_zero];congr 1;omega)
  rw [Nat.add_assoc] at h2
  exact h2
 go_enter Tryz.func97,Tryz.ntmps97
 go_wp2_with (go_at_call 143;refine (HG.out _ hs).mono ?_;rintro e w' ⟨rfl,m,rfl⟩)
 go_ret
 exact ⟨rfl,HP.out _ ((Puts.nil _ _ _ _).drewN m)⟩
theorem rput32_yes (b off len cap:Nat) (at':Int) (v:Int) (z:Nat → Int) (w:World) (hl:(len:Int) ≤ 9223372036854775807) (h0:0 ≤ at') (h1:at' + 4 ≤ len)
  (hv:0 ≤ v) (hv2:v < 4294967296) (hs:Seg w b off len z) (hz:Byt z) (hf:Soft w b off len) :
  Calls Tryz.prog 71 #[.slice (some ⟨b,off,none⟩) len cap,.int .i64 at',.int .u32 v] w fun e w' => e = .returned (.bool true) ∧ Puts b (off + at'.toNat) 4 (byteOf v) w w':=by
 have HG:Hid (_):=Lib.hid (fun w' (hs:Seg w' b off len z) => rget32_yes b off len cap at' z w' hl h0 h1 hs hz)
 obtain ⟨i,rfl⟩:=Int.eq_ofNat_of_zero_le h0
 rw [Int.toNat_natCast]
 go_enter Tryz.func71,Tryz.ntmps71
 go_wp2_with (go_at_call 106;refine (HG.out _ hs).mono ?_;rintro e w' ⟨rfl,m,rfl⟩)
 go_loopw [2,9] (fun u k wr => ∃ j:Nat,j ≤ 4 ∧ k = .int .i64 j ∧ (∃ x:Int,0 ≤ x ∧ x < 4294967296 ∧ (∀ m,byteOf x m = byteOf v (j + m)) ∧ u = .int .u32 x) ∧ Puts b (off + i) j (byteOf v) w wr) (fun _ k _ => 4 - (intOf k).toNat)
 case atStart => exact ⟨0,by omega,rfl,⟨v,hv,hv2,fun m => by rw [Nat.zero_add],rfl⟩,(Puts.nil _ _ _ _).drewN m⟩
 case round =>
  obtain ⟨j,hj,rfl,⟨x,hx0,hx1,hx,rfl⟩,hp⟩:=hrel
  by_cases hlt:j < 4
  ·have hcw:=hs (i + j) (by omega)
   have hc:wr.cell? ⟨b,off + (i + j),none⟩ = some (.int .u8 (z (i + j))):=by
    have:=hp.cell (off + (i + j));rw [if_neg (by omega)] at this;rw [this];exact hcw
   have hfr:wr.frozen? ⟨b,off + (i + j),none⟩ = false:=by rw [hp.only.frozen];exact hf _ (by omega)
   have HCW:=Lib.hid hcw
   have HX:=Lib.hid hx
   clear hcw hx
   go_wp2
   go_roundw
   case rel =>
    refine ⟨j + 1,by omega,by go_num,⟨x / 256,by omega,by omega,fun m => ?_,rfl⟩,?_⟩
    ·rw [← byteOf_succ,HX.out];congr 1;omega
    ·have:=hp.snoc (u:=.int .u8 (z (i + j))) (v:=.int .u8 (x % 256)) (by rw [Nat.add_assoc];exact HCW.out) (by have:=HX.out 0;rw [byteOf_zero,Nat.add_zero] at this;rw [this])
     rw [Nat.add_assoc] at this
     exact this
   case measure => simp [intOf];omega
  ·obtain rfl:j = 4:=by omega
   go_wp2
   go_ret
   exact ⟨rfl,hp⟩
end Go.Proofs.YtphamecphmbipaaGreatDoor
