/- Texts of this claim, merged. -/
import Derived.Test.YtphamecphmbipaaGreatDoorK04
import Derived.Laws.Tables
import Derived.Laws.CopyOwn
import Derived.Deep.MidRow
import Derived.Lib.SliceRun
import Derived.StillTailTactics
import Derived.Deep.RegionWith
set_option maxRecDepth 100000
set_option maxHeartbeats 16000000

namespace Go.Proofs.YtphamecphmbipaaGreatDoor
open Go.RowKit
set_option linter.unusedVariables false
theorem addr_add (g o k:Nat):(⟨g,o,none⟩:Addr).add k = ⟨g,o + k,none⟩:=by
 unfold Addr.add;split
 ·next h => subst h;rfl
 ·rfl
theorem run_sliceBlk (g o lo hi:Nat) (L H:Int) (hL:L = (lo:Int)) (hH:H = (hi:Int)) (h1:lo ≤ hi) (h2:hi ≤ 256) (h3:lo < 256) (W:World) :
  (Instr.sliceAt 32 (.pointer (some ⟨g,o,none⟩)) (some (.int .i64 L)) (some (.int .i64 H)) none).run Tryz.prog W = .ok (.slice (some ⟨g,o + lo,none⟩) (hi - lo) (256 - lo)) W:=by
 subst hL hH
 have hal:Tryz.prog.arrayLen 32 = 256:=by kernel_rfl
 have hsz:∀ W,(Go.sizeOf (Tryz.prog.elem 32)).run Tryz.prog W = .ok 1 W:=fun W => by kernel_rfl
 rw [run_sliceAt_array_lh W 32 _ (by kernel_rfl) .i64 .i64 (lo:Int) (hi:Int) (by omega) (by omega) (by rw [hal];omega),hsz,hal]
 simp only [Result.andThen,slicedAt,Int.toNat_natCast,Nat.mul_one]
 rw [if_neg (by omega),addr_add]
theorem run_sliceBlkAll (g o:Nat) (W:World) :
  (Instr.sliceAt 32 (.pointer (some ⟨g,o,none⟩)) none none none).run Tryz.prog W = .ok (.slice (some ⟨g,o,none⟩) 256 256) W:=by
 have hal:Tryz.prog.arrayLen 32 = 256:=by kernel_rfl
 have hsz:∀ W,(Go.sizeOf (Tryz.prog.elem 32)).run Tryz.prog W = .ok 1 W:=fun W => by kernel_rfl
 rw [run_sliceAt_array_all W 32 _ (by kernel_rfl),hsz,hal]
 simp only [Result.andThen,slicedAt]
 rfl
abbrev bval (z:Nat → Int):Value:=.agg (Ks .u8 256 z).toArray
theorem zero_block (W:World):(zeroValue 32).run Tryz.prog W = .ok (.agg (Ks .u8 256 (fun _ => 0)).toArray) W:=by kernel_rfl
theorem info_block:(Tryz.prog.info? 32).map (·.size) = some 256:=by kernel_rfl
theorem info_block' (z:Nat → Int):(Tryz.prog.info? 32).map (·.size) = some (Ks .u8 256 z).toArray.size:=by rw [Ks_size];exact info_block
theorem run_eql_block (z y:Nat → Int) (w:World):(binOp .eql 32 (.agg (Ks .u8 256 z).toArray) (.agg (Ks .u8 256 y).toArray)).run Tryz.prog w = .ok (.bool (eqB z y 256)) w:=by
 obtain ⟨i,hi,_⟩:=info_parts info8
 exact run_eql_ints w Tryz.underlying32 hi Tryz.underlying5 (by kernel_rfl) z y
theorem Blk.range {w:World} {g:Nat} {T:TypeId} {n:Nat} {z:Nat → Int} (h:Blk w g T n z):w.rangeAt g 0 (Ks .u8 n z):=by
 intro j v hj
 rw [Nat.zero_add]
 exact cell_of_heap h (by simpa using hj)
theorem rangeAt_below {w w':World} {b o:Nat} {cs:List Value} (h:w.rangeAt b o cs) {B:Nat} (hb:Below B w w') (hB:b < B):w'.rangeAt b o cs:=fun j v hv => (hb.cell (p:=⟨b,o + j,none⟩) hB).trans (h j v hv)
theorem Blk.setRow {w:World} {g:Nat} {T:TypeId} {n:Nat} {z:Nat → Int} (h:Blk w g T n z) (y:Nat → Int):Blk (w.setRow g (Ks .u8 n y).toArray) g T n y:=setRow_heap w g _ _ T (0,0) h
theorem only_setRow (w:World) (g:Nat) (cs:Array Value) {old:Array Value} {t:TypeId} (h:w.heap[g]? = some (.cells old t (0,0))) (hs:cs.size = old.size):Only g w (w.setRow g cs):=by
 refine ⟨rfl,rfl,rfl,size_setRow _ _ _,fun k hk => setRow_other _ _ _ _ hk,fun a => ?_,fun c e fr hc => ?_⟩
 ·by_cases ha:a.block = g
  ·unfold World.frozen?
   rw [ha,h,setRow_heap w g _ cs t (0,0) h]
  ·exact World.frozen?_of_block (w:=w) (setRow_other _ _ _ _ ha)
 ·rw [h] at hc
  injection hc with hc
  injection hc with h1 h2 h3
  subst h1 h2 h3
  exact ⟨cs,hs,setRow_heap w g _ cs _ _ h⟩
theorem results_row_tmp {P:Program} {fn:Func} {p u:Tmp} {ty:TypeId} (h:fn.results = #[.cell p ty,.tmp u]) (tmps:Array Value) (w:World) (g:Nat) (t:TypeId) (cs:Array Value) (fr:Nat × Nat) (d:TypeDesc)
  (hp:tmps.getD p undef = .pointer (some ⟨g,0,none⟩)) (hg:w.heap[g]? = some (.cells cs t fr))
  (hu:P.underlying ty = some d) (hd:(match d with | .struct _ | .array _ _ => true | _ => false) = true) (hi:(P.info? ty).map (·.size) = some cs.size) :
  (results fn tmps).run P w = .ok (.tuple #[.agg cs,tmps.getD u undef]) w:=by
 have hp':tmps[p]?.getD undef = .pointer (some ⟨g,0,none⟩):=by simpa using hp
 simp [results,h,hp',asAddr,run_loadVar_row w g t ty cs fr d hg hu hd hi]
theorem wp_loadBlk {w:World} {ops:Array Oper} {rest:List Oper} {o:Oper} {a:Act} {Q:Exit → Act → World → Prop} (hgd:o.guard = none) (x:Operand) (ho:o.op = .load 32 x)
  (g:Nat) (z:Nat → Int) (hx:a.eval x = .pointer (some ⟨g,0,none⟩)) (hB:Blk w g 32 256 z)
  (h:wpList Tryz.prog ops Q rest (a.put o.dst (bval z)) w):wpList Tryz.prog ops Q (o :: rest) a w :=
 wpList_load_row hgd 32 x ho g hx 32 (Ks .u8 256 z).toArray (0,0) _ hB Tryz.underlying32 rfl (info_block' _) h
theorem wp_storeBlk {w:World} {ops:Array Oper} {rest:List Oper} {o:Oper} {a:Act} {Q:Exit → Act → World → Prop} (hgd:o.guard = none) (x y:Operand) (ho:o.op = .store 32 x y)
  (g:Nat) (z old:Nat → Int) (hx:a.eval x = .pointer (some ⟨g,0,none⟩)) (hy:a.eval y = bval z) (hB:Blk w g 32 256 old)
  (h:∀ w',Blk w' g 32 256 z → Only g w w' → wpList Tryz.prog ops Q rest (a.put o.dst undef) w'):wpList Tryz.prog ops Q (o :: rest) a w :=
 wpList_store_row hgd 32 x y ho g (Ks .u8 256 z).toArray hx hy 32 _ hB (info_block' _) (by rw [Ks_size,Ks_size]) (Ks_one _ _ _) (h _ (hB.setRow z) (only_setRow w g _ hB (by rw [Ks_size,Ks_size])))
theorem only_setCells (b:Nat):∀ (vs:List Value) (o:Nat) (w:World),Only b w (w.setCells b o vs)
 | [],_,w => Only.refl _ _
 | v :: r,o,w => (Only.setCell w ⟨b,o,none⟩ v).trans (only_setCells b r (o + 1) _)
theorem grown_trans {a b c:World} {row:Option Nat} (h:a.grownBy b row) (k:b.grownBy c row):a.grownBy c row :=
 ⟨k.os.trans h.os,k.tape.trans h.tape,k.output.trans h.output,Nat.le_trans h.size k.size,fun j hj hne => (k.block j (Nat.lt_of_lt_of_le hj h.size) hne).trans (h.block j hj hne)⟩
theorem grown_only {a b:World} {g:Nat} (h:Only g a b):a.grownBy b (some g) :=
 ⟨h.os,h.tape,h.output,Nat.le_of_eq h.size.symm,fun j _ hne => h.block j (fun e => hne (by rw [e]))⟩
theorem grown_below {a b:World} {row:Option Nat} (h:Below a.heap.size a b):a.grownBy b row:=⟨h.os,h.tape,h.output,h.size,fun j hj _ => h.block j hj⟩
theorem grown_below_ge {a b:World} {row:Option Nat} {B:Nat} (h:a.grownBy b row) (hB:B ≤ a.heap.size) (hr:∀ k,row = some k → B ≤ k):Below B a b:=(Below.refl B a).grown h hB hr
end Go.Proofs.YtphamecphmbipaaGreatDoor

namespace Go.Proofs.YtphamecphmbipaaGreatDoor
open Go.RowKit Go.Shelf
set_option linter.unusedVariables false
attribute [local go_sem] Oper.semAt_some
end Go.Proofs.YtphamecphmbipaaGreatDoor

namespace Go.Proofs.YtphamecphmbipaaGreatDoor
open Go.RowKit Go.Shelf
set_option linter.unusedVariables false
attribute [local go_sem] Oper.semAt_some
def putOk (a:Int) (x:Ino):Bool:=placeB a && decide x.May
def putErr (a:Int) (x:Ino):Int:=if placeB a then (if decide x.May then 0 else 70) else 2
def putZ (z:Nat → Int) (a:Int) (x:Ino):Nat → Int:=if putOk a x then over z a.toNat 64 x.byte else z
end Go.Proofs.YtphamecphmbipaaGreatDoor

namespace Go.Proofs.YtphamecphmbipaaGreatDoor
open Go.RowKit Go.Shelf
set_option linter.unusedVariables false
attribute [local go_sem] Oper.semAt_some
end Go.Proofs.YtphamecphmbipaaGreatDoor

namespace Go.Proofs.YtphamecphmbipaaGreatDoor
open Go.RowKit
set_option linter.unusedVariables false
structure RPutFr (w:World) (z:Nat → Int) (x:Ino) (W:World):Prop where
 b:Blk W w.heap.size 32 256 z
 i:InoAt W (w.heap.size + 1) 63 x
 r:Blk W (w.heap.size + 1 + 1) 32 256 (fun _ => 0)
 bel:Below w.heap.size w W
theorem rputFr_start (w:World) (z:Nat → Int) (x:Ino):RPutFr w z x (((w.alloc (.cells (Ks .u8 256 z).toArray 32)).alloc (.cells x.arr 63)).alloc (.cells (Ks .u8 256 (fun _ => 0)).toArray 32)):=by
 refine ⟨((Blk.new _ _ _ _).alloc _).alloc _,?_,?_,(((Below.refl _ _).alloc (Nat.le_refl _) _).alloc (by simp) _).alloc (by simp;omega) _⟩
 ·have:InoAt ((w.alloc (.cells (Ks .u8 256 z).toArray 32)).alloc (.cells x.arr 63)) (w.heap.size + 1) 63 x:=by
   have:=heap_alloc_new (w.alloc (.cells (Ks .u8 256 z).toArray 32)) (.cells x.arr 63)
   simp only [World.size_alloc] at this;exact this
  exact heap_alloc_keep this _
 ·have:=Blk.new ((w.alloc (.cells (Ks .u8 256 z).toArray 32)).alloc (.cells x.arr 63)) 32 256 (fun _ => 0)
  simp only [World.size_alloc] at this;exact this
theorem rput_no (z:Nat → Int) (a:Int) (x:Ino) (hx:x.Ok) (w:World) (hno:putOk a x = false) :
  Calls Tryz.prog 63 #[bval z,.int .i64 a,x.val] w fun e w' => e = .returned (.tuple #[bval z,.int .i64 (putErr a x)]) ∧ Below w.heap.size w w':=by
 have hal:=zero_block
 have HNO:=Lib.hid hno
 clear hno
 go_enter Tryz.func63,Tryz.ntmps63
 go_wp2_with fail
 refine ((rplace_any a _).mono (R':=fun e w' => e = .returned (.bool (placeB a)) ∧ RPutFr w z x w') (fun e w' h => ⟨h.1,h.2 ▸ rputFr_start w z x⟩)).mono ?_
 rintro e w1 ⟨rfl,hf⟩
 clear hal
 by_cases hp:placeB a = true
 ·have hm:Hid (decide x.May = false):=by have:=HNO.out;unfold putOk at this;rw [hp,Bool.true_and] at this;exact this
  have he:Hid (putErr a x = 70):=by show _ = _;unfold putErr;rw [hp,hm.out];rfl
  rw [hp]
  clear hp HNO
  have hi:Hid (w1.heap[w.heap.size + 1]? = some (.cells x.arr 63 (0,0))):=hf.i
  have hb:=hf.bel
  go_wp2_with (first | (refine wpList_load_row rfl 63 (.tmp 5) rfl (w.heap.size + 1) rfl 63 x.arr (0,0) _ hi.out Tryz.underlying63 rfl (by kernel_rfl) ?_))
  refine (rmay_any x hx _).mono ?_
  rintro e w2 ⟨rfl,hb2⟩
  rw [hm.out]
  have hbl:=hb2.size
  have hk1:w.heap.size + 1 + 1 < w1.heap.size:=hf.r.lt
  have hB2:Hid (w2.heap[w.heap.size]? = some (.cells (Ks .u8 256 z).toArray 32 (0,0))):=hf.b.below hb2 (by omega)
  have hR2:Hid (w2.heap[w.heap.size + 1 + 1]? = some (.cells (Ks .u8 256 (fun _ => 0)).toArray 32 (0,0))):=hf.r.below hb2 hk1
  have hb3:Below w.heap.size w w2:=hb.trans (hb2.mono hb.size)
  clear hf hb hb2
  go_wp2_with (first | (refine wpList_load_row rfl 32 (.tmp 3) rfl w.heap.size rfl 32 (Ks .u8 256 _).toArray (0,0) _ hB2.out Tryz.underlying32 rfl (info_block' _) ?_) | (refine wpList_store_row rfl 32 (.tmp 6) (.tmp 17) rfl (w.heap.size + 1 + 1) (Ks .u8 256 z).toArray rfl rfl 32 _ hR2.out (info_block' _) (by rw [Ks_size,Ks_size]) (Ks_one _ _ _) ?_))
  refine bodyPost_ret (results_row_tmp rfl _ _ (w.heap.size + 1 + 1) 32 (Ks .u8 256 z).toArray (0,0) _ rfl (Blk.setRow (z:=fun _ => 0) hR2.out z) Tryz.underlying32 rfl (info_block' _)) rfl ⟨?_,?_⟩
  ·rw [he.out];rfl
  ·exact below_setRow hb3 (by omega) _
 ·rw [Bool.not_eq_true] at hp
  have he:Hid (putErr a x = 2):=by show _ = _;unfold putErr;rw [hp];rfl
  rw [hp]
  clear hp HNO
  have hk1:w.heap.size + 1 + 1 < w1.heap.size:=hf.r.lt
  have hB2:Hid (w1.heap[w.heap.size]? = some (.cells (Ks .u8 256 z).toArray 32 (0,0))):=hf.b
  have hR2:Hid (w1.heap[w.heap.size + 1 + 1]? = some (.cells (Ks .u8 256 (fun _ => 0)).toArray 32 (0,0))):=hf.r
  have hb3:=hf.bel
  clear hf
  go_wp2_with (first | (refine wpList_load_row rfl 32 (.tmp 3) rfl w.heap.size rfl 32 (Ks .u8 256 _).toArray (0,0) _ hB2.out Tryz.underlying32 rfl (info_block' _) ?_) | (refine wpList_store_row rfl 32 (.tmp 6) (.tmp 13) rfl (w.heap.size + 1 + 1) (Ks .u8 256 z).toArray rfl rfl 32 _ hR2.out (info_block' _) (by rw [Ks_size,Ks_size]) (Ks_one _ _ _) ?_))
  refine bodyPost_ret (results_row_tmp rfl _ _ (w.heap.size + 1 + 1) 32 (Ks .u8 256 z).toArray (0,0) _ rfl (Blk.setRow (z:=fun _ => 0) hR2.out z) Tryz.underlying32 rfl (info_block' _)) rfl ⟨?_,?_⟩
  ·rw [he.out];rfl
  ·exact below_setRow hb3 (by omega) _
theorem rput_yes (z:Nat → Int) (hz:Byt z) (a:Int) (x:Ino) (hx:x.Ok) (w:World) (hok:putOk a x = true) :
  Calls Tryz.prog 63 #[bval z,.int .i64 a,x.val] w fun e w' => e = .returned (.tuple #[bval (over z a.toNat 64 x.byte),.int .i64 0]) ∧ Below w.heap.size w w':=by
 unfold putOk at hok
 rw [Bool.and_eq_true] at hok
 obtain ⟨hp,hm⟩:=hok
 have hpl:=(placeB_iff a).1 hp
 have hmay:x.May:=of_decide_eq_true hm
 obtain ⟨hsz,hlk,hkd⟩:=Ino.may_bd hmay
 have HP:=Lib.hid hp
 have HM:=Lib.hid hm
 have ha0:0 ≤ a:=by omega
 have ha1:a ≤ 192:=by omega
 clear hp hm hpl
 obtain ⟨i,rfl⟩:=Int.eq_ofNat_of_zero_le ha0
 obtain ⟨hl0,hl1⟩:=hlk
 obtain ⟨hs0,hs1⟩:=hsz
 have hsa:=fun g W => run_sliceBlkAll g 0 W
 have hal:=zero_block
 go_enter Tryz.func63,Tryz.ntmps63
 go_wp2_with fail
 refine ((rplace_any (i:Int) _).mono (R':=fun e w' => e = .returned (.bool (placeB (i:Int))) ∧ RPutFr w z x w') (fun e w' h => ⟨h.1,h.2 ▸ rputFr_start w z x⟩)).mono ?_
 rintro e w1 ⟨rfl,hf⟩
 rw [HP.out]
 clear hal
 have hi:Hid (w1.heap[w.heap.size + 1]? = some (.cells x.arr 63 (0,0))):=hf.i
 go_wp2_with (first | (refine wpList_load_row rfl 63 (.tmp 5) rfl (w.heap.size + 1) rfl 63 x.arr (0,0) _ hi.out Tryz.underlying63 rfl (by kernel_rfl) ?_))
 refine (rmay_any x hx _).mono ?_
 rintro e w2 ⟨rfl,hb2⟩
 rw [HM.out]
 have hk1:w.heap.size + 1 + 1 < w1.heap.size:=hf.r.lt
 have hB2:Blk w2 w.heap.size 32 256 z:=hf.b.below hb2 (by omega)
 have hR2:Blk w2 (w.heap.size + 1 + 1) 32 256 (fun _ => 0):=hf.r.below hb2 hk1
 have hI2:InoAt w2 (w.heap.size + 1) 63 x:=hf.i.below hb2 (by omega)
 have hb3:Below w.heap.size w w2:=hf.bel.trans (hb2.mono hf.bel.size)
 clear hf hb2 hi hk1
 go_wp2_with fail
 go_loopw [8] (fun u wr => ∃ k:Nat,k ≤ 64 ∧ u = .int .i64 (k:Int) ∧ Puts w.heap.size i k (fun _ => 0) w2 wr) (fun u _ => 64 - (intOf u).toNat)
 case atStart => exact ⟨0,by omega,rfl,Puts.nil _ _ _ _⟩
 case round =>
  obtain ⟨k,hk,rfl,hp⟩:=hrel
  by_cases hlt:k < 64
  ·have hcw:=hB2.seg (i + k) (by omega)
   have hc:wr.cell? ⟨w.heap.size,i + k,none⟩ = some (.int .u8 (z (i + k))):=by
    have:=hp.cell (i + k);rw [if_neg (by omega)] at this;rw [this,← hcw,Nat.zero_add]
   have hfr:wr.frozen? ⟨w.heap.size,i + k,none⟩ = false:=by rw [hp.only.frozen];exact soft_of_heap hB2 _
   have HCW:=Lib.hid hcw
   clear hcw
   go_wp2_with fail
   go_roundw
   case rel => exact ⟨k + 1,by omega,by go_num,hp.snoc (by have:=HCW.out;rwa [Nat.zero_add] at this) rfl⟩
   case measure => simp [intOf];omega
  ·obtain rfl:k = 64:=by omega
   have hB3:=hB2.puts hp
   have hR3:Blk wr (w.heap.size + 1 + 1) 32 256 (fun _ => 0):=hR2.only hp.only (by omega)
   have hI3:InoAt wr (w.heap.size + 1) 63 x:=hI2.only hp.only (by omega)
   have hb4:Below w.heap.size w wr:=hb3.trans (hp.only.below (Nat.le_refl _))
   clear hp hB2 hR2 hI2 hb3
   have c2:wr.cell? ⟨w.heap.size + 1,0,none⟩ = some (.int .u8 x.kind):=hI3.cell (i:=0) rfl
   have c3:wr.cell? ⟨w.heap.size,i,none⟩ = some (.int .u8 (over z i 64 (fun _ => 0) i)):=by have:=hB3.seg i (by omega);rwa [Nat.zero_add] at this
   have f3:wr.frozen? ⟨w.heap.size,i,none⟩ = false:=soft_of_heap hB3 i
   have hB4:=hB3.setCell i x.kind (by omega)
   have hO:=Only.setCell wr ⟨w.heap.size,i,none⟩ (.int .u8 x.kind)
   have hR4:Blk (wr.setCell ⟨w.heap.size,i,none⟩ (.int .u8 x.kind)) (w.heap.size + 1 + 1) 32 256 (fun _ => 0):=hR3.only hO (by simp;omega)
   have hI4:InoAt (wr.setCell ⟨w.heap.size,i,none⟩ (.int .u8 x.kind)) (w.heap.size + 1) 63 x:=hI3.only hO (by simp)
   have hb5:Below w.heap.size w (wr.setCell ⟨w.heap.size,i,none⟩ (.int .u8 x.kind)):=hb4.trans (hO.below (Nat.le_refl _))
   have d2:(wr.setCell ⟨w.heap.size,i,none⟩ (.int .u8 x.kind)).cell? ⟨w.heap.size + 1,1,none⟩ = some (.int .i64 x.links):=hI4.cell (i:=1) rfl
   go_wp2_with fail
   generalize wr.setCell ⟨w.heap.size,i,none⟩ (.int .u8 x.kind) = W4 at hB4 hR4 hI4 hb5 d2 ⊢
   clear hO c2 c3 f3 hB3 hR3 hI3 hb4
   have hz4:Byt (over (over z i 64 fun _ => 0) i 1 fun _ => x.kind):=byt_over (byt_over hz (fun _ => ⟨by simp,by simp⟩) _ _) (fun _ => ⟨by show 0 ≤ x.kind;omega,by show x.kind < 256;omega⟩) _ _
   have e1:IntKind.i64.wrap ((i:Int) + 2) = (i:Int) + 2:=IntWalk.i64_in _ (by omega)
   have e2:IntKind.u32.wrap x.links = x.links:=IntWalk.u32_in _ (by omega)
   go_still_tail 6,(by kernel_rfl)
   go_wp2_with fail
   refine (rput16_yes w.heap.size 0 256 _ ((i:Int) + 2) x.links _ _ (by omega) (by omega) (by omega) hl0 (by omega) (by exact hB4.seg) hz4 (by exact hB4.soft 0 256)).mono ?_
   rintro e w5 ⟨rfl,hp5⟩
   rw [show 0 + ((i:Int) + 2).toNat = i + 2 by omega] at hp5
   have hB5:Blk w5 w.heap.size 32 256 _:=Blk.puts (w:=W4.drew) hB4 hp5
   have hR5:Blk w5 (w.heap.size + 1 + 1) 32 256 (fun _ => 0):=Blk.only (w:=W4.drew) hR4 hp5.only (by omega)
   have hI5:InoAt w5 (w.heap.size + 1) 63 x:=InoAt.only (w:=W4.drew) hI4 hp5.only (by omega)
   have hb6:Below w.heap.size w w5:=hb5.drew.trans (hp5.only.below (Nat.le_refl _))
   have hB5:=hB5.congr (fun j _ => x.stage_zero z i j)
   clear hp5 hB4 hR4 hI4 hb5 d2 hz4 e1 e2
   have hzs:Hid (∀ m,Byt (over z i 64 (x.stage m))):=fun m => byt_over hz (Ino.byt_stage hx hkd m) _ _
   have hzs0:=hzs.out 0
   have d3:w5.cell? ⟨w.heap.size + 1,2,none⟩ = some (.int .u32 x.gen):=hI5.cell (i:=2) rfl
   have hgen:=hx.gen
   go_wp2_with fail
   have e1:IntKind.i64.wrap ((i:Int) + 4) = (i:Int) + 4:=IntWalk.i64_in _ (by omega)
   go_still_tail 5,(by kernel_rfl)
   go_wp2_with fail
   refine (rput32_yes w.heap.size 0 256 _ ((i:Int) + 4) x.gen _ _ (by omega) (by omega) (by omega) (by omega) (by omega) (by exact hB5.seg) hzs0 (by exact hB5.soft 0 256)).mono ?_
   rintro e w6 ⟨rfl,hp6⟩
   rw [show 0 + ((i:Int) + 4).toNat = i + (4 + 4 * 0) by omega] at hp6
   have hB6:Blk w6 w.heap.size 32 256 _:=Blk.puts (w:=w5.drew) hB5 hp6
   have hR6:Blk w6 (w.heap.size + 1 + 1) 32 256 (fun _ => 0):=Blk.only (w:=w5.drew) hR5 hp6.only (by omega)
   have hI6:InoAt w6 (w.heap.size + 1) 63 x:=InoAt.only (w:=w5.drew) hI5 hp6.only (by omega)
   have hb7:Below w.heap.size w w6:=hb6.drew.trans (hp6.only.below (Nat.le_refl _))
   have hB6:=hB6.congr (fun j _ => x.stage_next z i 0 (by omega) j)
   clear hp6 hB5 hR5 hI5 hb6 d3 e1 hgen hzs0
   have hzs1:=hzs.out 1
   have d4:w6.cell? ⟨w.heap.size + 1,3,none⟩ = some (.int .i64 x.size):=hI6.cell (i:=3) rfl
   go_wp2_with fail
   have e1:IntKind.i64.wrap ((i:Int) + 8) = (i:Int) + 8:=IntWalk.i64_in _ (by omega)
   have e2:IntKind.u32.wrap x.size = x.size:=IntWalk.u32_in _ (by omega)
   go_still_tail 6,(by kernel_rfl)
   go_wp2_with fail
   refine (rput32_yes w.heap.size 0 256 _ ((i:Int) + 8) x.size _ _ (by omega) (by omega) (by omega) (by omega) (by omega) (by exact hB6.seg) hzs1 (by exact hB6.soft 0 256)).mono ?_
   rintro e w7 ⟨rfl,hp7⟩
   rw [show 0 + ((i:Int) + 8).toNat = i + (4 + 4 * 1) by omega] at hp7
   have hB7:Blk w7 w.heap.size 32 256 _:=Blk.puts (w:=w6.drew) hB6 hp7
   have hR7:Blk w7 (w.heap.size + 1 + 1) 32 256 (fun _ => 0):=Blk.only (w:=w6.drew) hR6 hp7.only (by omega)
   have hI7:InoAt w7 (w.heap.size + 1) 63 x:=InoAt.only (w:=w6.drew) hI6 hp7.only (by omega)
   have hb8:Below w.heap.size w w7:=hb7.drew.trans (hp7.only.below (Nat.le_refl _))
   have hB7:=hB7.congr (fun j _ => x.stage_next z i 1 (by omega) j)
   clear hp7 hB6 hR6 hI6 hb7 d4 e1 e2 hzs1
   go_wp2_with fail
   clear hB5 hB6
   go_loopw [9] (fun u wr => ∃ k:Nat,k ≤ 11 ∧ u = .int .i64 (k:Int) ∧ Blk wr w.heap.size 32 256 (over z i 64 (x.stage (k + 2))) ∧ Blk wr (w.heap.size + 1 + 1) 32 256 (fun _ => 0) ∧ InoAt wr (w.heap.size + 1) 63 x ∧ Below w.heap.size w wr) (fun u _ => 11 - (intOf u).toNat)
   case atStart => exact ⟨0,by omega,rfl,hB7,hR7,hI7,hb8⟩
   case round =>
    clear hB7 hR7 hI7 hb8
    obtain ⟨k,hk2,rfl,hB,hR,hI,hb⟩:=hrel
    by_cases hlt2:k < 11
    ·have hzk:=hzs.out (k + 2)
     have d1:=hI.ptr k hlt2
     have hpk:=hx.p k
     have HW:Hid (x.word (k + 2) = x.p k):=by show _ = _;unfold Ino.word;rw [if_neg (by omega),if_neg (by omega),if_pos (by omega)];rfl
     have l0:(0:Int) ≤ (k:Int):=by omega
     have l1:(k:Int) < 11:=by omega
     go_wp2_with fail
     have e1:IntKind.i64.wrap ((i:Int) + 12) = (i:Int) + 12:=IntWalk.i64_in _ (by omega)
     have e2:IntKind.i64.wrap (4 * (k:Int)) = 4 * (k:Int):=IntWalk.i64_in _ (by omega)
     have e3:IntKind.i64.wrap ((i:Int) + 12 + 4 * (k:Int)) = (i:Int) + 12 + 4 * (k:Int):=IntWalk.i64_in _ (by omega)
     go_still_tail 10,(by kernel_rfl)
     go_wp2_with fail
     refine (rput32_yes w.heap.size 0 256 _ ((i:Int) + 12 + 4 * (k:Int)) (x.p k) _ _ (by omega) (by omega) (by omega) (by omega) (by omega) (by exact hB.seg) hzk (by exact hB.soft 0 256)).mono ?_
     rintro e w8 ⟨rfl,hp8⟩
     rw [show 0 + ((i:Int) + 12 + 4 * (k:Int)).toNat = i + (4 + 4 * (k + 2)) by omega,← HW.out] at hp8
     have hB8:Blk w8 w.heap.size 32 256 _:=Blk.puts (w:=wr.drew) hB hp8
     have hR8:Blk w8 (w.heap.size + 1 + 1) 32 256 (fun _ => 0):=Blk.only (w:=wr.drew) hR hp8.only (by omega)
     have hI8:InoAt w8 (w.heap.size + 1) 63 x:=InoAt.only (w:=wr.drew) hI hp8.only (by omega)
     have hb9:Below w.heap.size w w8:=hb.drew.trans (hp8.only.below (Nat.le_refl _))
     have hB9:=hB8.congr (fun j _ => x.stage_next z i (k + 2) (by omega) j)
     clear hp8 e1 e2 e3
     go_wp2_with fail
     go_roundw
     case rel => exact ⟨k + 1,by omega,by go_num,by rw [show k + 1 + 2 = k + 2 + 1 by omega];exact hB9,hR8,hI8,hb9⟩
     case measure => simp [intOf];omega
    ·obtain rfl:k = 11:=by omega
     have hzk:=hzs.out (11 + 2)
     have d1:wr.cell? ⟨w.heap.size + 1,15,none⟩ = some (.int .u32 x.next):=hI.cell (i:=15) rfl
     have hpk:=hx.next
     go_wp2_with fail
     have e1:IntKind.i64.wrap ((i:Int) + 56) = (i:Int) + 56:=IntWalk.i64_in _ (by omega)
     go_still_tail 5,(by kernel_rfl)
     go_wp2_with fail
     refine (rput32_yes w.heap.size 0 256 _ ((i:Int) + 56) x.next _ _ (by omega) (by omega) (by omega) (by omega) (by omega) (by exact hB.seg) hzk (by exact hB.soft 0 256)).mono ?_
     rintro e w8 ⟨rfl,hp8⟩
     rw [show 0 + ((i:Int) + 56).toNat = i + (4 + 4 * 13) by omega] at hp8
     have hB8:Blk w8 w.heap.size 32 256 _:=Blk.puts (w:=wr.drew) hB hp8
     have hR8:Blk w8 (w.heap.size + 1 + 1) 32 256 (fun _ => 0):=Blk.only (w:=wr.drew) hR hp8.only (by omega)
     have hb9:Below w.heap.size w w8:=hb.drew.trans (hp8.only.below (Nat.le_refl _))
     have hB9:=(hB8.congr (fun j _ => x.stage_next z i 13 (by omega) j)).congr (y:=over z i 64 x.byte) (fun j _ => by
      by_cases hj:i ≤ j ∧ j < i + 64
      ·rw [over_in _ _ _ _ _ hj,over_in _ _ _ _ _ hj];exact x.stage_all _
      ·rw [over_out _ _ _ _ _ (by omega),over_out _ _ _ _ _ (by omega)])
     clear hp8 e1 hB8 hB hR hI hb d1 hpk hzk hzs
     have hB2:Hid (w8.heap[w.heap.size]? = some (.cells (Ks .u8 256 (over z i 64 x.byte)).toArray 32 (0,0))):=hB9
     have hR2:Hid (w8.heap[w.heap.size + 1 + 1]? = some (.cells (Ks .u8 256 (fun _ => 0)).toArray 32 (0,0))):=hR8
     clear hB9 hR8
     go_wp2_with (first | (refine wpList_load_row rfl 32 (.tmp 3) rfl w.heap.size rfl 32 (Ks .u8 256 (over z i 64 x.byte)).toArray (0,0) _ hB2.out Tryz.underlying32 rfl (info_block' _) ?_) | (refine wpList_store_row rfl 32 (.tmp 6) (.tmp 71) rfl (w.heap.size + 1 + 1) (Ks .u8 256 (over z i 64 x.byte)).toArray rfl rfl 32 _ hR2.out (info_block' _) (by rw [Ks_size,Ks_size]) (Ks_one _ _ _) ?_))
     refine bodyPost_ret (results_row_tmp rfl _ _ (w.heap.size + 1 + 1) 32 (Ks .u8 256 (over z i 64 x.byte)).toArray (0,0) _ rfl (Blk.setRow (z:=fun _ => 0) hR2.out _) Tryz.underlying32 rfl (info_block' _)) rfl ⟨?_,?_⟩
     ·rw [Int.toNat_natCast];rfl
     ·exact below_setRow hb9 (by omega) _
end Go.Proofs.YtphamecphmbipaaGreatDoor
