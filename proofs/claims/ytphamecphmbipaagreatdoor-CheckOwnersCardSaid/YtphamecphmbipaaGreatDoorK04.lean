/- Texts of this claim, merged by a program (a claim may have 60 files): SliceA, BlkWp, Clear, Range2, Words, InoPut, InoPutY, RangeV, RPut. -/
import Derived.Test.YtphamecphmbipaaGreatDoorK03
import Derived.Test.YtphamecphmbipaaGreatDoorK02
import Derived.Laws.Tables
import Derived.Laws.CopyOwn
import Derived.Deep.MidRow
import Derived.WalkKit
import Derived.Lib.SliceRun
import Derived.RangeFuncBox
import Derived.Shelf.Abstract
import Derived.TacticsInMore
import Derived.LoopNIn
import Derived.LoopIn
import Derived.StillTailTactics
namespace Go.Proofs.YtphamecphmbipaaGreatDoor
open Go.RowKit
set_option linter.unusedVariables false
theorem addr_add (g o k:Nat):(⟨g,o,none⟩:Addr).add k = ⟨g,o + k,none⟩:=by
 unfold Addr.add;split
 ·next h => subst h;rfl
 ·rfl
theorem run_sliceBlk (g o lo hi:Nat) (L H:Int) (hL:L = (lo:Int)) (hH:H = (hi:Int)) (h1:lo ≤ hi) (h2:hi ≤ 256) (h3:lo < 256) (W:World) :
  (Instr.sliceAt 32 (.pointer (some ⟨g,o,none⟩)) (some (.int .i64 L)) (some (.int .i64 H)) none).run Tryz.prog W = .ok (.slice (some ⟨g,o + lo,none⟩) (hi - lo) (256 - lo)) W:=by
 subst hL hH
 have hal:Tryz.prog.arrayLen 32 = 256:=by kernel_rfl
 have hsz:∀ W,(Go.sizeOf (Tryz.prog.elem 32)).run Tryz.prog W = .ok 1 W:=fun W => by kernel_rfl
 rw [run_sliceAt_array_lh W 32 _ (by kernel_rfl) .i64 .i64 (lo:Int) (hi:Int) (by omega) (by omega) (by rw [hal];omega),hsz,hal]
 simp only [Result.andThen,slicedAt,Int.toNat_natCast,Nat.mul_one]
 rw [if_neg (by omega),addr_add]
theorem run_sliceBlkAll (g o:Nat) (W:World) :
  (Instr.sliceAt 32 (.pointer (some ⟨g,o,none⟩)) none none none).run Tryz.prog W = .ok (.slice (some ⟨g,o,none⟩) 256 256) W:=by
 have hal:Tryz.prog.arrayLen 32 = 256:=by kernel_rfl
 have hsz:∀ W,(Go.sizeOf (Tryz.prog.elem 32)).run Tryz.prog W = .ok 1 W:=fun W => by kernel_rfl
 rw [run_sliceAt_array_all W 32 _ (by kernel_rfl),hsz,hal]
 simp only [Result.andThen,slicedAt]
 rfl
abbrev bval (z:Nat → Int):Value:=.agg (Ks .u8 256 z).toArray
theorem zero_block (W:World):(zeroValue 32).run Tryz.prog W = .ok (.agg (Ks .u8 256 (fun _ => 0)).toArray) W:=by kernel_rfl
theorem info_block:(Tryz.prog.info? 32).map (·.size) = some 256:=by kernel_rfl
theorem info_block' (z:Nat → Int):(Tryz.prog.info? 32).map (·.size) = some (Ks .u8 256 z).toArray.size:=by rw [Ks_size];exact info_block
theorem run_eql_block (z y:Nat → Int) (w:World):(binOp .eql 32 (.agg (Ks .u8 256 z).toArray) (.agg (Ks .u8 256 y).toArray)).run Tryz.prog w = .ok (.bool (eqB z y 256)) w:=by
 obtain ⟨i,hi,_⟩:=info_parts info8
 exact run_eql_ints w Tryz.underlying32 hi Tryz.underlying5 (by kernel_rfl) z y
theorem Blk.range {w:World} {g:Nat} {T:TypeId} {n:Nat} {z:Nat → Int} (h:Blk w g T n z):w.rangeAt g 0 (Ks .u8 n z):=by
 intro j v hj
 rw [Nat.zero_add]
 exact cell_of_heap h (by simpa using hj)
theorem rangeAt_below {w w':World} {b o:Nat} {cs:List Value} (h:w.rangeAt b o cs) {B:Nat} (hb:Below B w w') (hB:b < B):w'.rangeAt b o cs:=fun j v hv => (hb.cell (p:=⟨b,o + j,none⟩) hB).trans (h j v hv)
theorem Blk.setRow {w:World} {g:Nat} {T:TypeId} {n:Nat} {z:Nat → Int} (h:Blk w g T n z) (y:Nat → Int):Blk (w.setRow g (Ks .u8 n y).toArray) g T n y:=setRow_heap w g _ _ T (0,0) h
theorem only_setRow (w:World) (g:Nat) (cs:Array Value) {old:Array Value} {t:TypeId} (h:w.heap[g]? = some (.cells old t (0,0))) (hs:cs.size = old.size):Only g w (w.setRow g cs):=by
 refine ⟨rfl,rfl,rfl,size_setRow _ _ _,fun k hk => setRow_other _ _ _ _ hk,fun a => ?_,fun c e fr hc => ?_⟩
 ·by_cases ha:a.block = g
  ·unfold World.frozen?
   rw [ha,h,setRow_heap w g _ cs t (0,0) h]
  ·exact World.frozen?_of_block (w:=w) (setRow_other _ _ _ _ ha)
 ·rw [h] at hc
  injection hc with hc
  injection hc with h1 h2 h3
  subst h1 h2 h3
  exact ⟨cs,hs,setRow_heap w g _ cs _ _ h⟩
theorem results_row_tmp {P:Program} {fn:Func} {p u:Tmp} {ty:TypeId} (h:fn.results = #[.cell p ty,.tmp u]) (tmps:Array Value) (w:World) (g:Nat) (t:TypeId) (cs:Array Value) (fr:Nat × Nat) (d:TypeDesc)
  (hp:tmps.getD p undef = .pointer (some ⟨g,0,none⟩)) (hg:w.heap[g]? = some (.cells cs t fr))
  (hu:P.underlying ty = some d) (hd:(match d with | .struct _ | .array _ _ => true | _ => false) = true) (hi:(P.info? ty).map (·.size) = some cs.size) :
  (results fn tmps).run P w = .ok (.tuple #[.agg cs,tmps.getD u undef]) w:=by
 have hp':tmps[p]?.getD undef = .pointer (some ⟨g,0,none⟩):=by simpa using hp
 simp [results,h,hp',asAddr,run_loadVar_row w g t ty cs fr d hg hu hd hi]
theorem wp_loadBlk {w:World} {ops:Array Oper} {rest:List Oper} {o:Oper} {a:Act} {Q:Exit → Act → World → Prop} (hgd:o.guard = none) (x:Operand) (ho:o.op = .load 32 x)
  (g:Nat) (z:Nat → Int) (hx:a.eval x = .pointer (some ⟨g,0,none⟩)) (hB:Blk w g 32 256 z)
  (h:wpList Tryz.prog ops Q rest (a.put o.dst (bval z)) w):wpList Tryz.prog ops Q (o :: rest) a w :=
 wpList_load_row hgd 32 x ho g hx 32 (Ks .u8 256 z).toArray (0,0) _ hB Tryz.underlying32 rfl (info_block' _) h
theorem wp_storeBlk {w:World} {ops:Array Oper} {rest:List Oper} {o:Oper} {a:Act} {Q:Exit → Act → World → Prop} (hgd:o.guard = none) (x y:Operand) (ho:o.op = .store 32 x y)
  (g:Nat) (z old:Nat → Int) (hx:a.eval x = .pointer (some ⟨g,0,none⟩)) (hy:a.eval y = bval z) (hB:Blk w g 32 256 old)
  (h:∀ w',Blk w' g 32 256 z → Only g w w' → wpList Tryz.prog ops Q rest (a.put o.dst undef) w'):wpList Tryz.prog ops Q (o :: rest) a w :=
 wpList_store_row hgd 32 x y ho g (Ks .u8 256 z).toArray hx hy 32 _ hB (info_block' _) (by rw [Ks_size,Ks_size]) (Ks_one _ _ _) (h _ (hB.setRow z) (only_setRow w g _ hB (by rw [Ks_size,Ks_size])))
theorem only_setCells (b:Nat):∀ (vs:List Value) (o:Nat) (w:World),Only b w (w.setCells b o vs)
 | [],_,w => Only.refl _ _
 | v :: r,o,w => (Only.setCell w ⟨b,o,none⟩ v).trans (only_setCells b r (o + 1) _)
theorem grown_trans {a b c:World} {row:Option Nat} (h:a.grownBy b row) (k:b.grownBy c row):a.grownBy c row :=
 ⟨k.os.trans h.os,k.tape.trans h.tape,k.output.trans h.output,Nat.le_trans h.size k.size,fun j hj hne => (k.block j (Nat.lt_of_lt_of_le hj h.size) hne).trans (h.block j hj hne)⟩
theorem grown_only {a b:World} {g:Nat} (h:Only g a b):a.grownBy b (some g) :=
 ⟨h.os,h.tape,h.output,Nat.le_of_eq h.size.symm,fun j _ hne => h.block j (fun e => hne (by rw [e]))⟩
theorem grown_below {a b:World} {row:Option Nat} (h:Below a.heap.size a b):a.grownBy b row:=⟨h.os,h.tape,h.output,h.size,fun j hj _ => h.block j hj⟩
theorem grown_below_ge {a b:World} {row:Option Nat} {B:Nat} (h:a.grownBy b row) (hB:B ≤ a.heap.size) (hr:∀ k,row = some k → B ≤ k):Below B a b:=(Below.refl B a).grown h hB hr
end Go.Proofs.YtphamecphmbipaaGreatDoor

namespace Go.Proofs.YtphamecphmbipaaGreatDoor
open Go.RowKit
variable {P:Program}
set_option linter.unusedVariables false
structure Still (B:Nat) (A C:World):Prop where
 os:C.os = A.os
 tape:C.tape = A.tape
 output:C.output = A.output
 size:A.heap.size ≤ C.heap.size
 block:∀ k,k < B → k < A.heap.size → C.heap[k]? = A.heap[k]?
def LocalP (B:Nat) (X:World → Prop):Prop:=∀ A C,X A → Still B A C → X C
theorem Still.of_grown {B:Nat} {A C:World} {row:Option Nat} (h:A.grownBy C row) (hr:∀ r,row = some r → B ≤ r):Still B A C :=
 ⟨h.os,h.tape,h.output,h.size,fun k hk hl => h.block k hl (fun e => by have:=hr k e.symm;omega)⟩
theorem LocalP.own {B:Nat} {J:Nat → World → Prop} (h:∀ k,LocalP B (J k)):OwnFrom B J :=
 fun s A C row hs hg hr => h s A C hs (Still.of_grown hg (fun r e => (hr r e).1))
theorem LocalP.turns {B:Nat} {X:World → Prop} (h:LocalP B X) {A C:World} (hs:X A) (ht:Turns (fun _ => False) A C):X C:=by
 obtain ⟨row,hg,hr⟩:=ht
 exact h A C hs (Still.of_grown hg (fun r e => (hr r e).elim))
theorem LocalP.and {B:Nat} {X Y:World → Prop} (h:LocalP B X) (k:LocalP B Y):LocalP B (fun W => X W ∧ Y W):=fun A C hs hg => ⟨h A C hs.1 hg,k A C hs.2 hg⟩
theorem LocalP.pure (B:Nat) (p:Prop):LocalP B (fun _ => p):=fun _ _ h _ => h
theorem LocalP.ex {B:Nat} {α:Type} {X:α → World → Prop} (h:∀ x,LocalP B (X x)):LocalP B (fun W => ∃ x,X x W):=fun A C hs hg => let ⟨x,hx⟩:=hs;⟨x,h x A C hx hg⟩
theorem LocalP.below {B n:Nat} (w:World) (hn:n ≤ B) (hw:n ≤ w.heap.size):LocalP B (fun W => Below n w W):=fun A C hs hg =>
 ⟨hg.os.trans hs.os,hg.tape.trans hs.tape,hg.output.trans hs.output,Nat.le_trans hs.size hg.size,fun k hk => (hg.block k (by omega) (by have:=hs.size;omega)).trans (hs.block k hk)⟩
theorem LocalP.cell {B:Nat} (p:Addr) (v:Value) (hb:p.block < B):LocalP B (fun W => W.cell? p = some v):=fun A C hs hg =>
 (World.cell?_of_block (w:=A) (hg.block p.block hb (World.block_lt_of_cell? A _ hs))).trans hs
theorem LocalP.seg {B b:Nat} (off n:Nat) (z:Nat → Int) (hb:b < B):LocalP B (fun W => Seg W b off n z):=fun A C hs hg i hi => LocalP.cell ⟨b,off + i,none⟩ _ hb A C (hs i hi) hg
theorem LocalP.row {B:Nat} {a:Option Addr} (n:Nat) (z:Nat → Int) (hb:∀ x,a = some x → x.block < B):LocalP B (fun W => Row W a n z):=fun A C hs hg => by
 rcases hs with h0 | ⟨b,off,rfl,hs⟩
 ·exact .inl h0
 ·exact .inr ⟨b,off,rfl,LocalP.seg off n z (hb _ rfl) A C hs hg⟩
theorem LocalP.heap {B b:Nat} (o:Obj) (hb:b < B):LocalP B (fun W => W.heap[b]? = some o):=fun A C hs hg => (hg.block b hb (Array.getElem?_eq_some_iff.1 hs).1).trans hs
theorem Below.keeps {B:Nat} {W W':World} (h:Below W.heap.size W W'):KeepsFrom B W W' :=
 ⟨h.size,fun k o _ hk _ => (h.block k (Array.getElem?_eq_some_iff.1 hk).1).trans hk⟩
theorem Only.keeps {B b:Nat} {W W':World} (h:Only b W W') {off:Nat} {v:Value} (hc:W.cell? ⟨b,off,none⟩ = some v):KeepsFrom B W W' :=
 ⟨Nat.le_of_eq h.size.symm,fun k o _ hk ho => by
  by_cases hkb:k = b
  ·subst hkb
   simp only [World.cell?,hk] at hc
   cases o with
   | cells c e f => cases ho
   | _ => cases hc
  ·exact (h.block k hkb).trans hk⟩
theorem drewN_keeps {B:Nat} (W:World) (m:Nat):KeepsFrom B W (W.drewN m):=⟨Nat.le_refl _,fun _ _ _ hk _ => hk⟩
theorem wp_rangeIx {g:Operand} {ps:Array Tmp} {assign body:Code} {Q:Exit → Act → World → Prop} {a:Act} {w:World} {gf:Nat} {lb:Array Value}
  (hg:a.eval g = .func (.func gf) #[] lb) (eg:∀ args w,(callFunc gf args).run P w = .ok (.enter gf args) w)
  {encs:Nat → Array Value} {N:Nat} {Need:Nat → World → Prop} (hit:IterIx Fence.wide 4 P gf lb encs N (fun _ => False) Need) (hps:∀ k,(encs k).size = ps.size)
  (J:Nat → World → Prop) (Jx:Code → Nat → World → Prop) (A1:Nat → Act)
  (hJ:∀ k,LocalP w.heap.size (J k)) (hJx:∀ c k,LocalP w.heap.size (Jx c k)) (hN:∀ k,LocalP w.heap.size (Need k)) (h0:J 0 w) (hn0:Need 0 w)
  (hassign:∀ (l k:Nat) (W:World) (K:Act → World → Prop),k < N → K (A1 k) W →
   assign.wpIn (Fence.wide.inRound l) 3 P (Exit.then K (fun _ _ _ => False)) { tmps:=(ps.zip (encs k)).foldl (fun t (p,v) => t.setIfInBounds p v) a.tmps,defers:=[] } W)
  (hbody:∀ (l k:Nat) (W:World),k < N → J k W → Need k W → body.wpIn (Fence.wide.inRound l) 3 P (roundIx w.heap.size J Jx Need k W) (A1 k) W)
  (hdone:∀ (D:Nat) (W:World),w.heap.size ≤ D → J N W → W.heap[D]? = some (.deferred (some [])) → Q .normal { a with defers:={ target:=.collected D,args:=#[] } :: a.defers } W)
  (hstop:∀ (D:Nat) (c:Code) (k:Nat) (W:World),w.heap.size ≤ D → k < N → Jx c k W → W.heap[D]? = some (.deferred (some [])) → c.wp P Q { a with defers:={ target:=.collected D,args:=#[] } :: a.defers } W) :
  (Code.rangeFunc g ps assign body).wp P Q a w:=by
 refine (wpIn_wide (n:=5)).1 ?_
 exact wpIn_rangeIx rfl (by decide) hg trivial eg hit (fun r h => h.elim) hps J Jx (fun k a' _ => a' = A1 k)
  (LocalP.own hJ) (fun c => LocalP.own (hJx c)) (LocalP.own hN) (fun a' => LocalP.own (fun k => LocalP.pure _ _))
  (fun k A C hs ht => (hJ k).turns hs ht) (fun c k A C hs ht => (hJx c k).turns hs ht) h0 hn0
  (fun l k W K hk hj hn hK => hassign l k W K hk (hK _ _ (KeepsFrom.refl _ _) hj hn rfl))
  (fun l k a' W hk hj hn ha => by subst ha;exact hbody l k W hk hj hn)
  hdone (fun D c k W h1 h2 h3 h4 => wpIn_wide.2 (hstop D c k W h1 h2 h3 h4))
theorem bodyPostM_done {P:Program} {fn:Func} {R:Ending → World → Prop} {n:Nat} {tmps:Array Value} {D:Nat} {W:World} {v:Value} (hD:W.heap[D]? = some (.deferred (some [])))
  (hres:(results fn tmps).run P (W.putObj D (.deferred none)) = .ok v (W.putObj D (.deferred none))) (hR:R (.returned v) (W.putObj D (.deferred none))) :
  bodyPostM Fence.wide n P fn R .ret { tmps:=tmps,defers:=[{ target:=.collected D,args:=#[] }] } W :=
 ⟨by simp,.inl ⟨_,_,rfl,run_takeDeferred hD,⟨_,hres,hR⟩⟩⟩
theorem bodyPostM_early {P:Program} {fn:Func} {R:Ending → World → Prop} {n:Nat} {tmps:Array Value} {W:World} {v:Value}
  (hres:(results fn tmps).run P W = .ok v W) (hR:R (.returned v) W) :
  bodyPostM Fence.wide n P fn R .ret { tmps:=tmps,defers:=[] } W:=⟨_,hres,hR⟩
theorem cell_putObj {W:World} {D:Nat} {o o':Obj} {p:Addr} {v:Value} (hD:W.heap[D]? = some o) (ho:o.isCells = false) (hc:W.cell? p = some v):(W.putObj D o').cell? p = some v:=by
 have hne:p.block ≠ D:=by
  intro e
  simp only [World.cell?,e,hD] at hc
  cases o with
  | cells c e f => cases ho
  | _ => cases hc
 rw [World.cell?_of_block (w:=W) (World.putObj_heap_other hne)];exact hc
theorem below_putObj {W w:World} {n D:Nat} (h:Below n w W) (o':Obj) (hn:n ≤ w.heap.size) (hD:n ≤ D):Below n w (W.putObj D o') :=
 h.grown (grownBy_putObj' W D o') (Nat.le_trans hn h.size) (fun k e => by cases e;exact hD)
end Go.Proofs.YtphamecphmbipaaGreatDoor

namespace Go.Proofs.YtphamecphmbipaaGreatDoor
open Go.RowKit Go.Shelf
set_option linter.unusedVariables false
attribute [local go_sem] Oper.semAt_some
end Go.Proofs.YtphamecphmbipaaGreatDoor

namespace Go.Proofs.YtphamecphmbipaaGreatDoor
open Go.RowKit Go.Shelf
set_option linter.unusedVariables false
attribute [local go_sem] Oper.semAt_some
def putOk (a:Int) (x:Ino):Bool:=placeB a && decide x.May
def putErr (a:Int) (x:Ino):Int:=if placeB a then (if decide x.May then 0 else 70) else 2
def putZ (z:Nat → Int) (a:Int) (x:Ino):Nat → Int:=if putOk a x then over z a.toNat 64 x.byte else z
end Go.Proofs.YtphamecphmbipaaGreatDoor

namespace Go.Proofs.YtphamecphmbipaaGreatDoor
open Go.RowKit Go.Shelf
set_option linter.unusedVariables false
attribute [local go_sem] Oper.semAt_some
end Go.Proofs.YtphamecphmbipaaGreatDoor

namespace Go.Proofs.YtphamecphmbipaaGreatDoor
open Go.RowKit
set_option linter.unusedVariables false
variable {F:Fence} {n:Nat} {P:Program}
def Kept (B:Nat) (X:World → Prop):Prop:=∀ W W' row,X W → W.grownBy W' row → (∀ r,row = some r → B ≤ r ∧ ∃ o:Obj,W.heap[r]? = some o ∧ o.isCells = false) → X W'
theorem Kept.from {B:Nat} {J:Nat → World → Prop} (h:∀ k,Kept B (J k)):OwnFrom B J:=fun s W W' row hs hg hr => h s W W' row hs hg hr
theorem Kept.turns {B:Nat} {X:World → Prop} (h:Kept B X) {A C:World} (hs:X A) (ht:Turns (fun _ => False) A C):X C:=by
 obtain ⟨row,hg,hr⟩:=ht
 exact h A C row hs hg (fun r e => (hr r e).elim)
theorem Kept.and {B:Nat} {X Y:World → Prop} (h:Kept B X) (k:Kept B Y):Kept B (fun W => X W ∧ Y W):=fun W W' row hs hg hr => ⟨h W W' row hs.1 hg hr,k W W' row hs.2 hg hr⟩
theorem Kept.pure (B:Nat) (p:Prop):Kept B (fun _ => p):=fun _ _ _ h _ _ => h
theorem Kept.ex {B:Nat} {α:Type} {X:α → World → Prop} (h:∀ x,Kept B (X x)):Kept B (fun W => ∃ x,X x W):=fun W W' row hs hg hr => let ⟨x,hx⟩:=hs;⟨x,h x W W' row hx hg hr⟩
theorem Kept.all {B:Nat} {α:Type} {X:α → World → Prop} (h:∀ x,Kept B (X x)):Kept B (fun W => ∀ x,X x W):=fun W W' row hs hg hr x => h x W W' row (hs x) hg hr
theorem Kept.ofLocal {B:Nat} {X:World → Prop} (h:LocalP B X):Kept B X:=fun W W' row hs hg hr => h W W' hs (Still.of_grown hg fun r e => (hr r e).1)
theorem Kept.cell (B:Nat) (p:Addr) (v:Value):Kept B (fun W => W.cell? p = some v):=fun W W' row hs hg hr => by
 have hl:=World.block_lt_of_cell? W _ hs
 refine (World.cell?_of_block (w:=W) (hg.block p.block hl fun e => ?_)).trans hs
 obtain ⟨_,o,ho,hc⟩:=hr _ e.symm
 simp only [World.cell?,ho] at hs
 cases o with
 | cells c e f => cases hc
 | _ => cases hs
theorem Kept.own {B base:Nat} {e:TypeId} {size k:Nat} {v:Value} {xs:List Value}:Kept B (fun W => W.ownsRow base e size v k xs):=fun W W' row hs hg hr => by
 refine World.ownsRow.kept hs hg ?_
 cases row with
 | none => cases h1:v.ownBlock with
  | none => exact .inl rfl
  | some g => exact .inr (fun e => by cases e)
 | some r =>
  obtain ⟨_,o,ho,hc⟩:=hr r rfl
  cases h1:v.ownBlock with
  | none => exact .inl rfl
  | some g =>
   refine .inr fun e => ?_
   injection e with e
   subst e
   rcases hs.2 with ⟨hv,_⟩ | ⟨g',cap',cur,hv,hbg,hg',h⟩
   ·subst hv;cases h1
   ·subst hv
    have:g' = g:=by simpa [Value.ownBlock] using h1
    subst this
    rw [ho] at hg'
    injection hg' with hg'
    subst hg'
    cases hc
end Go.Proofs.YtphamecphmbipaaGreatDoor

namespace Go.Proofs.YtphamecphmbipaaGreatDoor
open Go.RowKit
set_option linter.unusedVariables false
structure RPutFr (w:World) (z:Nat → Int) (x:Ino) (W:World):Prop where
 b:Blk W w.heap.size 32 256 z
 i:InoAt W (w.heap.size + 1) 63 x
 r:Blk W (w.heap.size + 1 + 1) 32 256 (fun _ => 0)
 bel:Below w.heap.size w W
theorem rputFr_start (w:World) (z:Nat → Int) (x:Ino):RPutFr w z x (((w.alloc (.cells (Ks .u8 256 z).toArray 32)).alloc (.cells x.arr 63)).alloc (.cells (Ks .u8 256 (fun _ => 0)).toArray 32)):=by
 refine ⟨((Blk.new _ _ _ _).alloc _).alloc _,?_,?_,(((Below.refl _ _).alloc (Nat.le_refl _) _).alloc (by simp) _).alloc (by simp;omega) _⟩
 ·have:InoAt ((w.alloc (.cells (Ks .u8 256 z).toArray 32)).alloc (.cells x.arr 63)) (w.heap.size + 1) 63 x:=by
   have:=heap_alloc_new (w.alloc (.cells (Ks .u8 256 z).toArray 32)) (.cells x.arr 63)
   simp only [World.size_alloc] at this;exact this
  exact heap_alloc_keep this _
 ·have:=Blk.new ((w.alloc (.cells (Ks .u8 256 z).toArray 32)).alloc (.cells x.arr 63)) 32 256 (fun _ => 0)
  simp only [World.size_alloc] at this;exact this
set_option maxRecDepth 100000 in
set_option maxHeartbeats 4000000 in
theorem rput_no (z:Nat → Int) (a:Int) (x:Ino) (hx:x.Ok) (w:World) (hno:putOk a x = false) :
  Calls Tryz.prog 63 #[bval z,.int .i64 a,x.val] w fun e w' => e = .returned (.tuple #[bval z,.int .i64 (putErr a x)]) ∧ Below w.heap.size w w':=by
 have hal:=zero_block
 have HNO:=Lib.hid hno
 clear hno
 go_enter Tryz.func63,Tryz.ntmps63
 go_wp2_with fail
 refine ((rplace_any a _).mono (R':=fun e w' => e = .returned (.bool (placeB a)) ∧ RPutFr w z x w') (fun e w' h => ⟨h.1,h.2 ▸ rputFr_start w z x⟩)).mono ?_
 rintro e w1 ⟨rfl,hf⟩
 clear hal
 by_cases hp:placeB a = true
 ·have hm:Hid (decide x.May = false):=by have:=HNO.out;unfold putOk at this;rw [hp,Bool.true_and] at this;exact this
  have he:Hid (putErr a x = 70):=by show _ = _;unfold putErr;rw [hp,hm.out];rfl
  rw [hp]
  clear hp HNO
  have hi:Hid (w1.heap[w.heap.size + 1]? = some (.cells x.arr 63 (0,0))):=hf.i
  have hb:=hf.bel
  go_wp2_with (first | (refine wpList_load_row rfl 63 (.tmp 5) rfl (w.heap.size + 1) rfl 63 x.arr (0,0) _ hi.out Tryz.underlying63 rfl (by kernel_rfl) ?_))
  refine (rmay_any x hx _).mono ?_
  rintro e w2 ⟨rfl,hb2⟩
  rw [hm.out]
  have hbl:=hb2.size
  have hk1:w.heap.size + 1 + 1 < w1.heap.size:=hf.r.lt
  have hB2:Hid (w2.heap[w.heap.size]? = some (.cells (Ks .u8 256 z).toArray 32 (0,0))):=hf.b.below hb2 (by omega)
  have hR2:Hid (w2.heap[w.heap.size + 1 + 1]? = some (.cells (Ks .u8 256 (fun _ => 0)).toArray 32 (0,0))):=hf.r.below hb2 hk1
  have hb3:Below w.heap.size w w2:=hb.trans (hb2.mono hb.size)
  clear hf hb hb2
  go_wp2_with (first | (refine wpList_load_row rfl 32 (.tmp 3) rfl w.heap.size rfl 32 (Ks .u8 256 _).toArray (0,0) _ hB2.out Tryz.underlying32 rfl (info_block' _) ?_) | (refine wpList_store_row rfl 32 (.tmp 6) (.tmp 17) rfl (w.heap.size + 1 + 1) (Ks .u8 256 z).toArray rfl rfl 32 _ hR2.out (info_block' _) (by rw [Ks_size,Ks_size]) (Ks_one _ _ _) ?_))
  refine bodyPost_ret (results_row_tmp rfl _ _ (w.heap.size + 1 + 1) 32 (Ks .u8 256 z).toArray (0,0) _ rfl (Blk.setRow (z:=fun _ => 0) hR2.out z) Tryz.underlying32 rfl (info_block' _)) rfl ⟨?_,?_⟩
  ·rw [he.out];rfl
  ·exact below_setRow hb3 (by omega) _
 ·rw [Bool.not_eq_true] at hp
  have he:Hid (putErr a x = 2):=by show _ = _;unfold putErr;rw [hp];rfl
  rw [hp]
  clear hp HNO
  have hk1:w.heap.size + 1 + 1 < w1.heap.size:=hf.r.lt
  have hB2:Hid (w1.heap[w.heap.size]? = some (.cells (Ks .u8 256 z).toArray 32 (0,0))):=hf.b
  have hR2:Hid (w1.heap[w.heap.size + 1 + 1]? = some (.cells (Ks .u8 256 (fun _ => 0)).toArray 32 (0,0))):=hf.r
  have hb3:=hf.bel
  clear hf
  go_wp2_with (first | (refine wpList_load_row rfl 32 (.tmp 3) rfl w.heap.size rfl 32 (Ks .u8 256 _).toArray (0,0) _ hB2.out Tryz.underlying32 rfl (info_block' _) ?_) | (refine wpList_store_row rfl 32 (.tmp 6) (.tmp 13) rfl (w.heap.size + 1 + 1) (Ks .u8 256 z).toArray rfl rfl 32 _ hR2.out (info_block' _) (by rw [Ks_size,Ks_size]) (Ks_one _ _ _) ?_))
  refine bodyPost_ret (results_row_tmp rfl _ _ (w.heap.size + 1 + 1) 32 (Ks .u8 256 z).toArray (0,0) _ rfl (Blk.setRow (z:=fun _ => 0) hR2.out z) Tryz.underlying32 rfl (info_block' _)) rfl ⟨?_,?_⟩
  ·rw [he.out];rfl
  ·exact below_setRow hb3 (by omega) _
end Go.Proofs.YtphamecphmbipaaGreatDoor
