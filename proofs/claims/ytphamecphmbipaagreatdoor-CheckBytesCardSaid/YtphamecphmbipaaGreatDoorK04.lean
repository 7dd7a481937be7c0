/- Texts of this claim, merged by a program (a claim may have 60 files): SliceA, BlkWp, Clear, InoP, Words, InoPut, InoPutY, RMay, RPut. -/
import Derived.Test.YtphamecphmbipaaGreatDoorK03
import Derived.Test.YtphamecphmbipaaGreatDoorK02
import Derived.Laws.Tables
import Derived.Laws.CopyOwn
import Derived.Deep.MidRow
import Derived.WalkKit
import Derived.Lib.SliceRun
import Derived.Shelf.Abstract
import Derived.TacticsInMore
import Derived.LoopNIn
import Derived.LoopIn
import Derived.StillTailTactics
namespace Go.Proofs.YtphamecphmbipaaGreatDoor
open Go.RowKit
set_option linter.unusedVariables false
theorem addr_add (g o k:Nat):(⟨g,o,none⟩:Addr).add k = ⟨g,o + k,none⟩:=by
 unfold Addr.add;split
 ·next h => subst h;rfl
 ·rfl
theorem run_sliceBlk (g o lo hi:Nat) (L H:Int) (hL:L = (lo:Int)) (hH:H = (hi:Int)) (h1:lo ≤ hi) (h2:hi ≤ 256) (h3:lo < 256) (W:World) :
  (Instr.sliceAt 32 (.pointer (some ⟨g,o,none⟩)) (some (.int .i64 L)) (some (.int .i64 H)) none).run Tryz.prog W = .ok (.slice (some ⟨g,o + lo,none⟩) (hi - lo) (256 - lo)) W:=by
 subst hL hH
 have hal:Tryz.prog.arrayLen 32 = 256:=by kernel_rfl
 have hsz:∀ W,(Go.sizeOf (Tryz.prog.elem 32)).run Tryz.prog W = .ok 1 W:=fun W => by kernel_rfl
 rw [run_sliceAt_array_lh W 32 _ (by kernel_rfl) .i64 .i64 (lo:Int) (hi:Int) (by omega) (by omega) (by rw [hal];omega),hsz,hal]
 simp only [Result.andThen,slicedAt,Int.toNat_natCast,Nat.mul_one]
 rw [if_neg (by omega),addr_add]
theorem run_sliceBlkAll (g o:Nat) (W:World) :
  (Instr.sliceAt 32 (.pointer (some ⟨g,o,none⟩)) none none none).run Tryz.prog W = .ok (.slice (some ⟨g,o,none⟩) 256 256) W:=by
 have hal:Tryz.prog.arrayLen 32 = 256:=by kernel_rfl
 have hsz:∀ W,(Go.sizeOf (Tryz.prog.elem 32)).run Tryz.prog W = .ok 1 W:=fun W => by kernel_rfl
 rw [run_sliceAt_array_all W 32 _ (by kernel_rfl),hsz,hal]
 simp only [Result.andThen,slicedAt]
 rfl
abbrev bval (z:Nat → Int):Value:=.agg (Ks .u8 256 z).toArray
theorem zero_block (W:World):(zeroValue 32).run Tryz.prog W = .ok (.agg (Ks .u8 256 (fun _ => 0)).toArray) W:=by kernel_rfl
theorem info_block:(Tryz.prog.info? 32).map (·.size) = some 256:=by kernel_rfl
theorem info_block' (z:Nat → Int):(Tryz.prog.info? 32).map (·.size) = some (Ks .u8 256 z).toArray.size:=by rw [Ks_size];exact info_block
theorem run_eql_block (z y:Nat → Int) (w:World):(binOp .eql 32 (.agg (Ks .u8 256 z).toArray) (.agg (Ks .u8 256 y).toArray)).run Tryz.prog w = .ok (.bool (eqB z y 256)) w:=by
 obtain ⟨i,hi,_⟩:=info_parts info8
 exact run_eql_ints w Tryz.underlying32 hi Tryz.underlying5 (by kernel_rfl) z y
theorem Blk.range {w:World} {g:Nat} {T:TypeId} {n:Nat} {z:Nat → Int} (h:Blk w g T n z):w.rangeAt g 0 (Ks .u8 n z):=by
 intro j v hj
 rw [Nat.zero_add]
 exact cell_of_heap h (by simpa using hj)
theorem Blk.setRow {w:World} {g:Nat} {T:TypeId} {n:Nat} {z:Nat → Int} (h:Blk w g T n z) (y:Nat → Int):Blk (w.setRow g (Ks .u8 n y).toArray) g T n y:=setRow_heap w g _ _ T (0,0) h
theorem only_setRow (w:World) (g:Nat) (cs:Array Value) {old:Array Value} {t:TypeId} (h:w.heap[g]? = some (.cells old t (0,0))) (hs:cs.size = old.size):Only g w (w.setRow g cs):=by
 refine ⟨rfl,rfl,rfl,size_setRow _ _ _,fun k hk => setRow_other _ _ _ _ hk,fun a => ?_,fun c e fr hc => ?_⟩
 ·by_cases ha:a.block = g
  ·unfold World.frozen?
   rw [ha,h,setRow_heap w g _ cs t (0,0) h]
  ·exact World.frozen?_of_block (w:=w) (setRow_other _ _ _ _ ha)
 ·rw [h] at hc
  injection hc with hc
  injection hc with h1 h2 h3
  subst h1 h2 h3
  exact ⟨cs,hs,setRow_heap w g _ cs _ _ h⟩
theorem results_row_tmp {P:Program} {fn:Func} {p u:Tmp} {ty:TypeId} (h:fn.results = #[.cell p ty,.tmp u]) (tmps:Array Value) (w:World) (g:Nat) (t:TypeId) (cs:Array Value) (fr:Nat × Nat) (d:TypeDesc)
  (hp:tmps.getD p undef = .pointer (some ⟨g,0,none⟩)) (hg:w.heap[g]? = some (.cells cs t fr))
  (hu:P.underlying ty = some d) (hd:(match d with | .struct _ | .array _ _ => true | _ => false) = true) (hi:(P.info? ty).map (·.size) = some cs.size) :
  (results fn tmps).run P w = .ok (.tuple #[.agg cs,tmps.getD u undef]) w:=by
 have hp':tmps[p]?.getD undef = .pointer (some ⟨g,0,none⟩):=by simpa using hp
 simp [results,h,hp',asAddr,run_loadVar_row w g t ty cs fr d hg hu hd hi]
theorem wp_loadBlk {w:World} {ops:Array Oper} {rest:List Oper} {o:Oper} {a:Act} {Q:Exit → Act → World → Prop} (hgd:o.guard = none) (x:Operand) (ho:o.op = .load 32 x)
  (g:Nat) (z:Nat → Int) (hx:a.eval x = .pointer (some ⟨g,0,none⟩)) (hB:Blk w g 32 256 z)
  (h:wpList Tryz.prog ops Q rest (a.put o.dst (bval z)) w):wpList Tryz.prog ops Q (o :: rest) a w :=
 wpList_load_row hgd 32 x ho g hx 32 (Ks .u8 256 z).toArray (0,0) _ hB Tryz.underlying32 rfl (info_block' _) h
theorem wp_storeBlk {w:World} {ops:Array Oper} {rest:List Oper} {o:Oper} {a:Act} {Q:Exit → Act → World → Prop} (hgd:o.guard = none) (x y:Operand) (ho:o.op = .store 32 x y)
  (g:Nat) (z old:Nat → Int) (hx:a.eval x = .pointer (some ⟨g,0,none⟩)) (hy:a.eval y = bval z) (hB:Blk w g 32 256 old)
  (h:∀ w',Blk w' g 32 256 z → Only g w w' → wpList Tryz.prog ops Q rest (a.put o.dst undef) w'):wpList Tryz.prog ops Q (o :: rest) a w :=
 wpList_store_row hgd 32 x y ho g (Ks .u8 256 z).toArray hx hy 32 _ hB (info_block' _) (by rw [Ks_size,Ks_size]) (Ks_one _ _ _) (h _ (hB.setRow z) (only_setRow w g _ hB (by rw [Ks_size,Ks_size])))
theorem only_setCells (b:Nat):∀ (vs:List Value) (o:Nat) (w:World),Only b w (w.setCells b o vs)
 | [],_,w => Only.refl _ _
 | v :: r,o,w => (Only.setCell w ⟨b,o,none⟩ v).trans (only_setCells b r (o + 1) _)
theorem grown_trans {a b c:World} {row:Option Nat} (h:a.grownBy b row) (k:b.grownBy c row):a.grownBy c row :=
 ⟨k.os.trans h.os,k.tape.trans h.tape,k.output.trans h.output,Nat.le_trans h.size k.size,fun j hj hne => (k.block j (Nat.lt_of_lt_of_le hj h.size) hne).trans (h.block j hj hne)⟩
theorem grown_only {a b:World} {g:Nat} (h:Only g a b):a.grownBy b (some g) :=
 ⟨h.os,h.tape,h.output,Nat.le_of_eq h.size.symm,fun j _ hne => h.block j (fun e => hne (by rw [e]))⟩
theorem grown_below {a b:World} {row:Option Nat} (h:Below a.heap.size a b):a.grownBy b row:=⟨h.os,h.tape,h.output,h.size,fun j hj _ => h.block j hj⟩
theorem grown_below_ge {a b:World} {row:Option Nat} {B:Nat} (h:a.grownBy b row) (hB:B ≤ a.heap.size) (hr:∀ k,row = some k → B ≤ k):Below B a b:=(Below.refl B a).grown h hB hr
def Ino.word (x:Ino) (k:Nat):Int:=if k = 0 then x.gen else if k = 1 then x.size else if k < 13 then x.p (k - 2) else x.next
def Ino.byte (x:Ino) (i:Nat):Int :=
 if i = 0 then x.kind else if i = 1 then 0 else if i < 4 then byteOf x.links (i - 2) else if i < 60 then byteOf (x.word ((i - 4) / 4)) ((i - 4) % 4) else 0
def Ino.stage (x:Ino) (m:Nat) (i:Nat):Int:=if i < 4 + 4 * m then x.byte i else 0
theorem Ino.stage_all (x:Ino) (i:Nat):x.stage 14 i = x.byte i:=by
 unfold Ino.stage
 split
 ·rfl
 ·unfold Ino.byte;rw [if_neg (by omega),if_neg (by omega),if_neg (by omega),if_neg (by omega)]
theorem Ino.stage_next (x:Ino) (z:Nat → Int) (at' m:Nat) (hm:m < 14) (i:Nat) :
  over (over z at' 64 (x.stage m)) (at' + (4 + 4 * m)) 4 (byteOf (x.word m)) i = over z at' 64 (x.stage (m + 1)) i:=by
 by_cases h1:at' ≤ i ∧ i < at' + 64
 ·rw [over_in z _ _ _ _ h1]
  by_cases h2:at' + (4 + 4 * m) ≤ i ∧ i < at' + (4 + 4 * m) + 4
  ·rw [over_in _ _ _ _ _ h2]
   unfold Ino.stage
   rw [if_pos (by omega)]
   unfold Ino.byte
   rw [if_neg (by omega),if_neg (by omega),if_neg (by omega),if_pos (by omega),show (i - at' - 4) / 4 = m by omega]
   congr 1;omega
  ·rw [over_out _ _ _ _ _ (by omega),over_in z _ _ _ _ h1]
   unfold Ino.stage
   by_cases h3:i - at' < 4 + 4 * m
   ·rw [if_pos h3,if_pos (by omega)]
   ·rw [if_neg h3,if_neg (by omega)]
 ·rw [over_out z _ _ _ _ (by omega),over_out _ _ _ _ _ (by omega),over_out z _ _ _ _ (by omega)]
theorem Ino.stage_zero (x:Ino) (z:Nat → Int) (at':Nat) (i:Nat) :
  over (over (over z at' 64 (fun _ => 0)) at' 1 (fun _ => x.kind)) (at' + 2) 2 (byteOf x.links) i = over z at' 64 (x.stage 0) i:=by
 by_cases h1:at' ≤ i ∧ i < at' + 64
 ·rw [over_in z at' 64 i (x.stage 0) h1]
  unfold Ino.stage Ino.byte
  by_cases h2:at' + 2 ≤ i ∧ i < at' + 2 + 2
  ·rw [over_in _ _ _ _ _ h2,if_pos (by omega),if_neg (by omega),if_neg (by omega),if_pos (by omega),show i - (at' + 2) = i - at' - 2 by omega]
  ·rw [over_out _ _ _ _ _ (by omega)]
   by_cases h3:i = at'
   ·rw [over_in _ _ _ _ _ ⟨by omega,by omega⟩,if_pos (by omega),if_pos (by omega)]
   ·rw [over_out _ _ _ _ _ (by omega),over_in z _ _ _ _ h1]
    by_cases h4:i - at' < 4 + 4 * 0
    ·rw [if_pos h4,if_neg (by omega),if_pos (by omega)]
    ·rw [if_neg h4]
 ·rw [over_out _ _ _ _ _ (by omega),over_out _ _ _ _ _ (by omega),over_out z _ _ _ _ (by omega),over_out z _ _ _ _ (by omega)]
theorem Ino.may_bd {x:Ino} (h:x.May):(0 ≤ x.size ∧ x.size ≤ 16777216) ∧ (0 ≤ x.links ∧ x.links ≤ 1000) ∧ (x.kind = 0 ∨ x.kind = 1 ∨ x.kind = 2):=by
 rcases h with ⟨h1,h2,h3,_⟩ | ⟨h1,h2,h3,h4,h5⟩ | ⟨h1,h2,h3,h4,_⟩ <;> omega
theorem Ino.byt_stage {x:Ino} (hx:x.Ok) (hk:x.kind = 0 ∨ x.kind = 1 ∨ x.kind = 2) (m:Nat):Byt (x.stage m):=by
 intro i
 unfold Ino.stage
 split
 ·unfold Ino.byte
  split
  ·omega
  ·split
   ·omega
   ·split
    ·exact byteOf_bd _ _
    ·split
     ·exact byteOf_bd _ _
     ·omega
 ·omega
abbrev Ino.arr (x:Ino):Array Value:=#[.int .u8 x.kind,.int .i64 x.links,.int .u32 x.gen,.int .i64 x.size,.int .u32 (x.p 0),.int .u32 (x.p 1),.int .u32 (x.p 2),.int .u32 (x.p 3),.int .u32 (x.p 4),.int .u32 (x.p 5),.int .u32 (x.p 6),.int .u32 (x.p 7),.int .u32 (x.p 8),.int .u32 (x.p 9),.int .u32 (x.p 10),.int .u32 x.next]
def InoAt (w:World) (g:Nat) (T:TypeId) (x:Ino):Prop:=w.heap[g]? = some (.cells x.arr T (0,0))
theorem InoAt.lt {w:World} {g:Nat} {T:TypeId} {x:Ino} (h:InoAt w g T x):g < w.heap.size:=(Array.getElem?_eq_some_iff.1 h).1
theorem InoAt.cell {w:World} {g:Nat} {T:TypeId} {x:Ino} (h:InoAt w g T x) {i:Nat} {v:Value} (hi:x.arr[i]? = some v):w.cell? ⟨g,i,none⟩ = some v:=cell_of_heap h hi
theorem InoAt.below {w w':World} {g:Nat} {T:TypeId} {x:Ino} (h:InoAt w g T x) {B:Nat} (hb:Below B w w') (hg:g < B):InoAt w' g T x:=(hb.block g hg).trans h
theorem InoAt.only {w w':World} {g:Nat} {T:TypeId} {x:Ino} (h:InoAt w g T x) {b:Nat} (hb:Only b w w') (hg:g ≠ b):InoAt w' g T x:=(hb.block g hg).trans h
theorem InoAt.ptr {w:World} {g:Nat} {T:TypeId} {x:Ino} (h:InoAt w g T x) (i:Nat) (hi:i < 11):w.cell? ⟨g,4 + i,none⟩ = some (.int .u32 (x.p i)):=by
 refine h.cell ?_
 obtain rfl | rfl | rfl | rfl | rfl | rfl | rfl | rfl | rfl | rfl | rfl:i = 0 ∨ i = 1 ∨ i = 2 ∨ i = 3 ∨ i = 4 ∨ i = 5 ∨ i = 6 ∨ i = 7 ∨ i = 8 ∨ i = 9 ∨ i = 10:=by omega
 all_goals rfl
end Go.Proofs.YtphamecphmbipaaGreatDoor

namespace Go.Proofs.YtphamecphmbipaaGreatDoor
open Go.RowKit Go.Shelf
set_option linter.unusedVariables false
attribute [local go_sem] Oper.semAt_some
end Go.Proofs.YtphamecphmbipaaGreatDoor

namespace Go.Proofs.YtphamecphmbipaaGreatDoor
open Go.RowKit Go.Shelf
set_option linter.unusedVariables false
attribute [local go_sem] Oper.semAt_some
def putOk (a:Int) (x:Ino):Bool:=placeB a && decide x.May
def putErr (a:Int) (x:Ino):Int:=if placeB a then (if decide x.May then 0 else 70) else 2
def putZ (z:Nat → Int) (a:Int) (x:Ino):Nat → Int:=if putOk a x then over z a.toNat 64 x.byte else z
end Go.Proofs.YtphamecphmbipaaGreatDoor

namespace Go.Proofs.YtphamecphmbipaaGreatDoor
open Go.RowKit Go.Shelf
set_option linter.unusedVariables false
attribute [local go_sem] Oper.semAt_some
end Go.Proofs.YtphamecphmbipaaGreatDoor

namespace Go.Proofs.YtphamecphmbipaaGreatDoor
open Go.RowKit
set_option linter.unusedVariables false
theorem rplace_any (a:Int) (w:World) :
  Calls Tryz.prog 102 #[.int .i64 a] w fun e w' => e = .returned (.bool (placeB a)) ∧ w = w':=by
 by_cases c1:a = 0
 ·subst c1
  have hd:Hid (placeB 0 = true):=(placeB_iff _).2 (by omega)
  go_enter Tryz.func102,Tryz.ntmps102
  go_wp2
  go_ret
  exact ⟨ret_bool hd.out.symm,rfl⟩
 have q1:(a == 0) = false:=by simp [c1]
 by_cases c2:a = 64
 ·subst c2
  have hd:Hid (placeB 64 = true):=(placeB_iff _).2 (by omega)
  go_enter Tryz.func102,Tryz.ntmps102
  go_wp2
  go_ret
  exact ⟨ret_bool hd.out.symm,rfl⟩
 have q2:(a == 64) = false:=by simp [c2]
 by_cases c3:a = 128
 ·subst c3
  have hd:Hid (placeB 128 = true):=(placeB_iff _).2 (by omega)
  go_enter Tryz.func102,Tryz.ntmps102
  go_wp2
  go_ret
  exact ⟨ret_bool hd.out.symm,rfl⟩
 have q3:(a == 128) = false:=by simp [c3]
 by_cases c4:a = 192
 ·subst c4
  have hd:Hid (placeB 192 = true):=(placeB_iff _).2 (by omega)
  go_enter Tryz.func102,Tryz.ntmps102
  go_wp2
  go_ret
  exact ⟨ret_bool hd.out.symm,rfl⟩
 ·have q4:(a == 192) = false:=by simp [c4]
  have hd:Hid (placeB a = false):=placeB_no (by omega)
  clear c1 c2 c3 c4
  go_enter Tryz.func102,Tryz.ntmps102
  go_wp2
  go_ret
  exact ⟨ret_bool hd.out.symm,rfl⟩
theorem may_0' (l g s n:Int) (p:Nat → Int):decide (Ino.May ⟨0,l,g,s,p,n⟩) = ((l == 0 && (s == 0 && n == 0)) && allZ p 11):=by
 rw [Bool.eq_iff_iff,decide_eq_true_eq]
 unfold Ino.May
 simp only [Bool.and_eq_true,beq_iff_eq]
 constructor
 ·rintro (⟨_,h1,h2,h3,h4⟩ | ⟨h,_⟩ | ⟨h,_⟩)
  ·exact ⟨⟨h1,h2,h3⟩,h4⟩
  ·omega
  ·omega
 ·rintro ⟨⟨h1,h2,h3⟩,h4⟩
  exact .inl ⟨trivial,h1,h2,h3,h4⟩
set_option maxHeartbeats 4000000 in
theorem rmay_0 (l g s n:Int) (p:Nat → Int) (w:World) :
  Calls Tryz.prog 103 #[(Ino.mk 0 l g s p n).val] w fun e w' => e = .returned (.bool (decide (Ino.May ⟨0,l,g,s,p,n⟩))) ∧ Below w.heap.size w w':=by
 rw [may_0']
 dsimp only [Ino.val]
 generalize hb0:(l == 0 && (s == 0 && n == 0)) = b0
 have HB0:=Lib.hid hb0
 clear hb0
 have h00:Hid (allZ p 0 = true):=rfl
 have fin:∀ t,Hid (Below w.heap.size w (w.alloc t)):=fun t => (Below.refl _ _).alloc (Nat.le_refl _) _
 have hptr:Hid (∀ k,k < 11 → (w.alloc (.cells (Ino.mk 0 l g s p n).arr 63)).cell? ⟨w.heap.size,4 + k,none⟩ = some (.int .u32 (p k))):=fun k hk =>
  InoAt.ptr (x:=Ino.mk 0 l g s p n) (T:=63) (heap_alloc_new w _) k hk
 have start:(l == 0) = true ∧ (s == 0) = true ∧ (n == 0) = true ∧ b0 = true ∨ (l == 0) = false ∧ b0 = false ∨ (l == 0) = true ∧ (s == 0) = false ∧ b0 = false ∨ (l == 0) = true ∧ (s == 0) = true ∧ (n == 0) = false ∧ b0 = false:=by
  have:=HB0.out
  cases h1:(l == 0) <;> cases h2:(s == 0) <;> cases h3:(n == 0) <;> rw [h1,h2,h3] at this <;> simp [← this]
 rcases start with ⟨q1,q2,q3,hb⟩ | ⟨q1,hb⟩ | ⟨q1,q2,hb⟩ | ⟨q1,q2,q3,hb⟩
 all_goals
  subst hb
  clear HB0
  go_enter Tryz.func103,Tryz.ntmps103
  go_wp2
  go_loop [3,4] (fun u i => ∃ k:Nat,k ≤ 11 ∧ i = .int .i64 (k:Int) ∧ ∃ b:Bool,Hid (b = (_ && allZ p k)) ∧ u = .bool b) (fun _ i => 11 - (intOf i).toNat)
  case atStart => exact ⟨0,by omega,rfl,_,(by first | (exact (Bool.true_and _).symm) | (exact (Bool.false_and _).symm)),rfl⟩
  case round =>
   obtain ⟨k,hk,rfl,b,hb,rfl⟩:=hrel
   by_cases hlt:k < 11
   ·have hc:=hptr.out k hlt
    dsimp only [Ino.arr] at hc
    cases b with
    | false =>
     go_wp2
     go_round
     case rel => exact ⟨k + 1,by omega,by go_num,_,(by show _ = _;rw [allZ_succ,← Bool.and_assoc,← hb.out];rfl),rfl⟩
     case measure => simp [intOf];omega
    | true =>
     by_cases hp:p k = 0
     ·have q:(p k == 0) = true:=by simp [hp]
      have HP:=Lib.hid hp
      clear hp
      go_wp2
      all_goals
       go_round
       case rel => exact ⟨k + 1,by omega,by go_num,_,(by show _ = _;rw [allZ_succ,← Bool.and_assoc,← hb.out,HP.out];rfl),rfl⟩
       case measure => simp [intOf];omega
     ·have q:(p k == 0) = false:=by simp [hp]
      have HP:Hid (decide (p k = 0) = false):=by show _ = _;simp [hp]
      clear hp
      go_wp2
      all_goals
       go_round
       case rel => exact ⟨k + 1,by omega,by go_num,_,(by show _ = _;rw [allZ_succ,← Bool.and_assoc,← hb.out,HP.out];rfl),rfl⟩
       case measure => simp [intOf];omega
   ·obtain rfl:k = 11:=by omega
    go_wp2
    go_ret
    exact ⟨ret_bool hb.out,(fin _).out⟩
set_option maxHeartbeats 4000000 in
theorem rmay_any (x:Ino) (hx:x.Ok) (w:World) :
  Calls Tryz.prog 103 #[x.val] w fun e w' => e = .returned (.bool (decide x.May)) ∧ Below w.heap.size w w':=by
 obtain ⟨k,l,g,s,p,n⟩:=x
 obtain ⟨⟨hk0,hk1⟩,⟨hl0,hl1⟩,_,⟨hs0,hs1⟩,_,_⟩:=hx
 dsimp only at hk0 hk1 hl0 hl1 hs0 hs1
 have fin:∀ t,Hid (Below w.heap.size w (w.alloc t)):=fun t => (Below.refl _ _).alloc (Nat.le_refl _) _
 by_cases k0:k = 0
 ·subst k0
  exact rmay_0 l g s n p w
 dsimp only [Ino.val]
 generalize hD':decide (Ino.May ⟨k,l,g,s,p,n⟩) = D
 have hD:=Lib.hid hD'
 clear hD'
 have q0:(k == 0) = false:=by simp [k0]
 by_cases k1:k = 1
 ·subst k1
  by_cases c1:0 ≤ l
  ·by_cases c2:l ≤ 1000
   ·by_cases c3:0 ≤ s
    ·by_cases c4:s ≤ 16777216
     ·have HD:Hid (D = true):=by show D = true;rw [← hD.out,may_1];simp;omega
      go_enter Tryz.func103,Tryz.ntmps103
      go_wp2
      go_ret
      exact ⟨ret_bool HD.out.symm,(fin _).out⟩
     ·have HD:Hid (D = false):=by show D = false;rw [← hD.out,may_1];simp;omega
      go_enter Tryz.func103,Tryz.ntmps103
      go_wp2
      go_ret
      exact ⟨ret_bool HD.out.symm,(fin _).out⟩
    ·have HD:Hid (D = false):=by show D = false;rw [← hD.out,may_1];simp;omega
     go_enter Tryz.func103,Tryz.ntmps103
     go_wp2
     go_ret
     exact ⟨ret_bool HD.out.symm,(fin _).out⟩
   ·have HD:Hid (D = false):=by show D = false;rw [← hD.out,may_1];simp;omega
    go_enter Tryz.func103,Tryz.ntmps103
    go_wp2
    go_ret
    exact ⟨ret_bool HD.out.symm,(fin _).out⟩
  ·have HD:Hid (D = false):=by show D = false;rw [← hD.out,may_1];simp;omega
   go_enter Tryz.func103,Tryz.ntmps103
   go_wp2
   go_ret
   exact ⟨ret_bool HD.out.symm,(fin _).out⟩
 have q1:(k == 1) = false:=by simp [k1]
 by_cases k2:k = 2
 ·subst k2
  by_cases c1:l = 1
  ·subst c1
   by_cases c2:0 ≤ s
   ·by_cases c3:s ≤ 16777216
    ·by_cases c4:s % 256 = 0
     ·by_cases c5:n = 0
      ·subst c5
       have HD:Hid (D = true):=by show D = true;rw [← hD.out,may_2];simp;omega
       have d2:(s % 256 == 0) = true:=by simp [c4]
       clear c4
       go_enter Tryz.func103,Tryz.ntmps103
       go_wp2
       go_ret
       exact ⟨ret_bool HD.out.symm,(fin _).out⟩
      ·have HD:Hid (D = false):=by show D = false;rw [← hD.out,may_2];simp;omega
       have d2:(s % 256 == 0) = true:=by simp [c4]
       have d3:(n == 0) = false:=by simp [c5]
       clear c4 c5
       go_enter Tryz.func103,Tryz.ntmps103
       go_wp2
       go_ret
       exact ⟨ret_bool HD.out.symm,(fin _).out⟩
     ·have HD:Hid (D = false):=by show D = false;rw [← hD.out,may_2];simp;omega
      have d2:(s % 256 == 0) = false:=by simp [c4]
      clear c4
      go_enter Tryz.func103,Tryz.ntmps103
      go_wp2
      go_ret
      exact ⟨ret_bool HD.out.symm,(fin _).out⟩
    ·have HD:Hid (D = false):=by show D = false;rw [← hD.out,may_2];simp;omega
     go_enter Tryz.func103,Tryz.ntmps103
     go_wp2
     go_ret
     exact ⟨ret_bool HD.out.symm,(fin _).out⟩
   ·have HD:Hid (D = false):=by show D = false;rw [← hD.out,may_2];simp;omega
    go_enter Tryz.func103,Tryz.ntmps103
    go_wp2
    go_ret
    exact ⟨ret_bool HD.out.symm,(fin _).out⟩
  ·have HD:Hid (D = false):=by show D = false;rw [← hD.out,may_2];simp;omega
   have d1:(l == 1) = false:=by simp [c1]
   clear c1
   go_enter Tryz.func103,Tryz.ntmps103
   go_wp2
   go_ret
   exact ⟨ret_bool HD.out.symm,(fin _).out⟩
 have q2:(k == 2) = false:=by simp [k2]
 have HD:Hid (D = false):=by show D = false;rw [← hD.out];exact may_3 _ _ _ _ _ _ (by omega)
 go_enter Tryz.func103,Tryz.ntmps103
 go_wp2
 go_ret
 exact ⟨ret_bool HD.out.symm,(fin _).out⟩
structure RPutFr (w:World) (z:Nat → Int) (x:Ino) (W:World):Prop where
 b:Blk W w.heap.size 32 256 z
 i:InoAt W (w.heap.size + 1) 63 x
 r:Blk W (w.heap.size + 1 + 1) 32 256 (fun _ => 0)
 bel:Below w.heap.size w W
theorem rputFr_start (w:World) (z:Nat → Int) (x:Ino):RPutFr w z x (((w.alloc (.cells (Ks .u8 256 z).toArray 32)).alloc (.cells x.arr 63)).alloc (.cells (Ks .u8 256 (fun _ => 0)).toArray 32)):=by
 refine ⟨((Blk.new _ _ _ _).alloc _).alloc _,?_,?_,(((Below.refl _ _).alloc (Nat.le_refl _) _).alloc (by simp) _).alloc (by simp;omega) _⟩
 ·have:InoAt ((w.alloc (.cells (Ks .u8 256 z).toArray 32)).alloc (.cells x.arr 63)) (w.heap.size + 1) 63 x:=by
   have:=heap_alloc_new (w.alloc (.cells (Ks .u8 256 z).toArray 32)) (.cells x.arr 63)
   simp only [World.size_alloc] at this;exact this
  exact heap_alloc_keep this _
 ·have:=Blk.new ((w.alloc (.cells (Ks .u8 256 z).toArray 32)).alloc (.cells x.arr 63)) 32 256 (fun _ => 0)
  simp only [World.size_alloc] at this;exact this
set_option maxRecDepth 100000 in
set_option maxHeartbeats 4000000 in
theorem rput_no (z:Nat → Int) (a:Int) (x:Ino) (hx:x.Ok) (w:World) (hno:putOk a x = false) :
  Calls Tryz.prog 63 #[bval z,.int .i64 a,x.val] w fun e w' => e = .returned (.tuple #[bval z,.int .i64 (putErr a x)]) ∧ Below w.heap.size w w':=by
 have hal:=zero_block
 have HNO:=Lib.hid hno
 clear hno
 go_enter Tryz.func63,Tryz.ntmps63
 go_wp2_with fail
 refine ((rplace_any a _).mono (R':=fun e w' => e = .returned (.bool (placeB a)) ∧ RPutFr w z x w') (fun e w' h => ⟨h.1,h.2 ▸ rputFr_start w z x⟩)).mono ?_
 rintro e w1 ⟨rfl,hf⟩
 clear hal
 by_cases hp:placeB a = true
 ·have hm:Hid (decide x.May = false):=by have:=HNO.out;unfold putOk at this;rw [hp,Bool.true_and] at this;exact this
  have he:Hid (putErr a x = 70):=by show _ = _;unfold putErr;rw [hp,hm.out];rfl
  rw [hp]
  clear hp HNO
  have hi:Hid (w1.heap[w.heap.size + 1]? = some (.cells x.arr 63 (0,0))):=hf.i
  have hb:=hf.bel
  go_wp2_with (first | (refine wpList_load_row rfl 63 (.tmp 5) rfl (w.heap.size + 1) rfl 63 x.arr (0,0) _ hi.out Tryz.underlying63 rfl (by kernel_rfl) ?_))
  refine (rmay_any x hx _).mono ?_
  rintro e w2 ⟨rfl,hb2⟩
  rw [hm.out]
  have hbl:=hb2.size
  have hk1:w.heap.size + 1 + 1 < w1.heap.size:=hf.r.lt
  have hB2:Hid (w2.heap[w.heap.size]? = some (.cells (Ks .u8 256 z).toArray 32 (0,0))):=hf.b.below hb2 (by omega)
  have hR2:Hid (w2.heap[w.heap.size + 1 + 1]? = some (.cells (Ks .u8 256 (fun _ => 0)).toArray 32 (0,0))):=hf.r.below hb2 hk1
  have hb3:Below w.heap.size w w2:=hb.trans (hb2.mono hb.size)
  clear hf hb hb2
  go_wp2_with (first | (refine wpList_load_row rfl 32 (.tmp 3) rfl w.heap.size rfl 32 (Ks .u8 256 _).toArray (0,0) _ hB2.out Tryz.underlying32 rfl (info_block' _) ?_) | (refine wpList_store_row rfl 32 (.tmp 6) (.tmp 17) rfl (w.heap.size + 1 + 1) (Ks .u8 256 z).toArray rfl rfl 32 _ hR2.out (info_block' _) (by rw [Ks_size,Ks_size]) (Ks_one _ _ _) ?_))
  refine bodyPost_ret (results_row_tmp rfl _ _ (w.heap.size + 1 + 1) 32 (Ks .u8 256 z).toArray (0,0) _ rfl (Blk.setRow (z:=fun _ => 0) hR2.out z) Tryz.underlying32 rfl (info_block' _)) rfl ⟨?_,?_⟩
  ·rw [he.out];rfl
  ·exact below_setRow hb3 (by omega) _
 ·rw [Bool.not_eq_true] at hp
  have he:Hid (putErr a x = 2):=by show _ = _;unfold putErr;rw [hp];rfl
  rw [hp]
  clear hp HNO
  have hk1:w.heap.size + 1 + 1 < w1.heap.size:=hf.r.lt
  have hB2:Hid (w1.heap[w.heap.size]? = some (.cells (Ks .u8 256 z).toArray 32 (0,0))):=hf.b
  have hR2:Hid (w1.heap[w.heap.size + 1 + 1]? = some (.cells (Ks .u8 256 (fun _ => 0)).toArray 32 (0,0))):=hf.r
  have hb3:=hf.bel
  clear hf
  go_wp2_with (first | (refine wpList_load_row rfl 32 (.tmp 3) rfl w.heap.size rfl 32 (Ks .u8 256 _).toArray (0,0) _ hB2.out Tryz.underlying32 rfl (info_block' _) ?_) | (refine wpList_store_row rfl 32 (.tmp 6) (.tmp 13) rfl (w.heap.size + 1 + 1) (Ks .u8 256 z).toArray rfl rfl 32 _ hR2.out (info_block' _) (by rw [Ks_size,Ks_size]) (Ks_one _ _ _) ?_))
  refine bodyPost_ret (results_row_tmp rfl _ _ (w.heap.size + 1 + 1) 32 (Ks .u8 256 z).toArray (0,0) _ rfl (Blk.setRow (z:=fun _ => 0) hR2.out z) Tryz.underlying32 rfl (info_block' _)) rfl ⟨?_,?_⟩
  ·rw [he.out];rfl
  ·exact below_setRow hb3 (by omega) _
end Go.Proofs.YtphamecphmbipaaGreatDoor
