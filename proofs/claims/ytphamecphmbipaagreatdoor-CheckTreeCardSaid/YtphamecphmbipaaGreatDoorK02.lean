/- Texts of this claim, merged. -/
import Derived.Test.YtphamecphmbipaaGreatDoorK01
import Derived.OwnWalk
import Derived.OpenShut
import Derived.Laws.AppendOwnNone
import Derived.ChangeKeysEq
import Derived.Laws.StructEq
import Derived.RangeFuncNested
import Derived.RangeFuncBound
import Derived.RangeFuncCalls
import Derived.RangeFuncLeaves
import Derived.RangeFuncWrites
import Derived.OwnWalkIn
import Derived.RangeFuncBox
namespace Go.Proofs.YtphamecphmbipaaGreatDoor
open Go.RowKit
set_option linter.unusedVariables false
def Bs (n:Nat) (z:Nat → Int):List Value:=(List.range n).map fun i => .int .u8 (z i)
theorem Bs_length (n:Nat) (z:Nat → Int):(Bs n z).length = n:=by simp [Bs]
theorem Bs_get (n:Nat) (z:Nat → Int) (i:Nat) (h:i < n):(Bs n z)[i]? = some (.int .u8 (z i)):=by simp [Bs,h]
def cat (z:Nat → Int) (n:Nat) (y:Nat → Int):Nat → Int:=fun i => if i < n then z i else y (i - n)
theorem Bs_cat (n m:Nat) (z y:Nat → Int):Bs n z ++ Bs m y = Bs (n + m) (cat z n y):=by
 apply List.ext_getElem?
 intro i
 by_cases h:i < n
 ·rw [List.getElem?_append_left (by rw [Bs_length];exact h),Bs_get _ _ _ h,Bs_get _ _ _ (by omega)];simp [cat,h]
 ·rw [List.getElem?_append_right (by rw [Bs_length];omega),Bs_length]
  by_cases h2:i - n < m
  ·rw [Bs_get _ _ _ h2,Bs_get _ _ _ (by omega)];simp [cat,h]
  ·rw [List.getElem?_eq_none (by rw [Bs_length];omega),List.getElem?_eq_none (by rw [Bs_length];omega)]
theorem Bs_congr {n:Nat} {z y:Nat → Int} (h:∀ i,i < n → z i = y i):Bs n z = Bs n y:=by
 unfold Bs;apply List.map_congr_left;intro i hi;rw [h i (by simpa using hi)]
def Mine (w:World) (base:Nat) (e:TypeId) (sa:Option Addr) (n cap:Nat) (z:Nat → Int):Prop:=w.ownsRow base e 1 (.slice sa n cap) n (Bs n z)
theorem Mine.parts {w:World} {base:Nat} {e:TypeId} {sa:Option Addr} {n cap:Nat} {z:Nat → Int} (h:Mine w base e sa n cap z) :
  (sa = none ∧ n = 0 ∧ cap = 0) ∨ ∃ g,sa = some ⟨g,0,none⟩ ∧ base ≤ g ∧ g < w.heap.size ∧ n ≤ cap ∧ Seg w g 0 n z ∧ Soft w g 0 cap:=by
 rcases h.2 with ⟨hv,h0⟩ | ⟨g,cap',cur,hv,hb,hg,hn,hc,hs,ht⟩
 ·injection hv with h1 h2 h3;exact .inl ⟨h1,h0,h3⟩
 ·injection hv with h1 h2 h3
  subst h1 h3
  have hlt:=(Array.getElem?_eq_some_iff.1 hg).1
  refine .inr ⟨g,rfl,hb,hlt,hn,?_,?_⟩
  ·intro i hi
   have:=Bs_get n z i hi
   rw [← ht,List.getElem?_take_of_lt (by omega)] at this
   simp [World.cell?,hg];simpa using this
  ·intro i hi;simp [World.frozen?,hg]
theorem Mine.row {w:World} {base:Nat} {e:TypeId} {sa:Option Addr} {n cap:Nat} {z:Nat → Int} (h:Mine w base e sa n cap z):Row w sa n z:=by
 rcases h.parts with ⟨_,h0,_⟩ | ⟨g,rfl,_,_,_,hs,_⟩
 ·exact .inl h0
 ·exact .inr ⟨g,0,rfl,hs⟩
theorem Mine.le {w:World} {base:Nat} {e:TypeId} {sa:Option Addr} {n cap:Nat} {z:Nat → Int} (h:Mine w base e sa n cap z):∀ x,sa = some x → base ≤ x.block ∧ x.block < w.heap.size:=by
 intro x hx
 rcases h.parts with ⟨h0,_⟩ | ⟨g,h1,hb,hl,_⟩
 ·rw [h0] at hx;cases hx
 ·rw [h1] at hx;cases hx;exact ⟨hb,hl⟩
theorem Mine.drewN {w:World} {base:Nat} {e:TypeId} {sa:Option Addr} {n cap:Nat} {z:Nat → Int} (h:Mine w base e sa n cap z) (m:Nat):Mine (w.drewN m) base e sa n cap z:=h
theorem Mine.congr {w:World} {base:Nat} {e:TypeId} {sa:Option Addr} {n cap:Nat} {z y:Nat → Int} (h:Mine w base e sa n cap z) (hy:∀ i,i < n → z i = y i):Mine w base e sa n cap y:=by
 unfold Mine;rw [← Bs_congr hy];exact h
theorem Mine.nil (w:World) (base:Nat) (e:TypeId) (z:Nat → Int):Mine w base e none 0 0 z:=World.ownsRow_nil w base e 1
theorem Mine.made (w:World) (base:Nat) (e:TypeId) (z:Nat → Int) (hb:base ≤ w.heap.size):Mine (w.alloc (.cells #[] e)) base e (some ⟨w.heap.size,0,none⟩) 0 0 z :=
 World.ownsRow_made (cur:=#[]) (cap:=0) w (base:=base) (e:=e) (size:=1) hb (by unfold maxLen;omega) (by simp)
theorem wpList_append_bytes {P:Program} {w:World} {ops:Array Oper} {rest:List Oper} {o:Oper} {a:Act} {Q:Exit → Act → World → Prop} (hgd:o.guard = none) (s x:Operand) (t:TypeId)
  (ho:o.op = .call { callee:=.builtin .append,args:=#[s,x],argTypes:=#[t,t] })
  (base:Nat) (e:TypeId) (i:TypeInfo) (ht:P.underlying t = some (.slice e)) (hi:P.info? e = some i) (hz:i.zero = some (.int .u8 0)) (hsize:i.size = 1) (hby:i.bytes = 1)
  (sa:Option Addr) (n cap:Nat) (z:Nat → Int) (hs:a.eval s = .slice sa n cap) (hown:Mine w base e sa n cap z)
  (xa:Option Addr) (m c:Nat) (y:Nat → Int) (hx:a.eval x = .slice xa m c) (hc:xa = none → c = 0) (hr:Row w xa m y)
  (hm:n + m ≤ 140737488355328) (hbase:base ≤ w.heap.size)
  (h:∀ sa' cap' w',Mine w' base e sa' (n + m) cap' (cat z n y) → w.grownBy w' (Value.slice sa n cap).ownBlock → (sa' = none → n + m = 0) → wpList P ops Q rest (a.put o.dst (.slice sa' (n + m) cap')) w') :
  wpList P ops Q (o :: rest) a w:=by
 have fin:∀ v' w',w'.ownsRow base e 1 v' (n + m) (Bs n z ++ Bs m y) → w.grownBy w' (Value.slice sa n cap).ownBlock → wpList P ops Q rest (a.put o.dst v') w':=by
  intro v' w' hown' hg
  rw [Bs_cat] at hown'
  rcases hown'.2 with ⟨rfl,h0⟩ | ⟨g,cap',cur,rfl,_⟩
  ·have hM:Mine w' base e none (n + m) 0 (cat z n y):=by unfold Mine;rw [h0] at hown' ⊢;exact hown'
   have:=h none 0 w' hM hg (fun _ => h0)
   rw [h0] at this;exact this
  ·exact h _ cap' w' hown' hg (fun h => by cases h)
 have hml:n + m ≤ maxLen:=by unfold maxLen;omega
 cases xa with
 | some ad =>
  refine wpList_append_own w hgd s x t ho base e i (.int .u8 0) 1 1 ht hi hz hsize hby rfl (by decide) _ n (Bs n z) hs hown ad m c (Bs m y) hx (by simp [Bs_length]) ?_ ?_ hml (by omega) hbase (fun v' w' h1 h2 _ => fin v' w' h1 h2)
  ·intro j u hj
   have hjm:j < m:=by have:=(List.getElem?_eq_some_iff.1 hj).1;rwa [Bs_length] at this
   rw [Bs_get _ _ _ hjm] at hj
   rcases hr with h0 | ⟨b,off,he,hseg⟩
   ·omega
   ·injection he with he;subst he
    have:=hseg j hjm
    rw [← hj,← this]
    unfold Addr.add;split
    ·next h => subst h;rfl
    ·rfl
  ·intro u hu
   obtain ⟨k,_,rfl⟩:=List.mem_map.1 hu
   rfl
 | none =>
  have h0:m = 0:=by
   rcases hr with h0 | ⟨b,off,he,_⟩
   ·exact h0
   ·cases he
  have hc0:=hc rfl
  subst h0 hc0
  refine wpList_append_own_none hgd s x t ho base e i 1 ht hi _ n (Bs n z) hs hown hx (fin _ _ ?_ ?_)
  ·rw [show Bs 0 y = [] from rfl,List.append_nil];exact hown
  ·exact ⟨rfl,rfl,rfl,Nat.le_refl _,fun _ _ _ => rfl⟩
end Go.Proofs.YtphamecphmbipaaGreatDoor

namespace Go.Proofs.YtphamecphmbipaaGreatDoor
open Go.RowKit
def Ks (k:IntKind) (n:Nat) (z:Nat → Int):List Value:=(List.range n).map fun i => .int k (z i)
theorem Ks_length (k:IntKind) (n:Nat) (z:Nat → Int):(Ks k n z).length = n:=by simp [Ks]
theorem Ks_get (k:IntKind) (n:Nat) (z:Nat → Int) (i:Nat) (h:i < n):(Ks k n z)[i]? = some (.int k (z i)):=by simp [Ks,h]
theorem allRange (z y:Nat → Int) (n:Nat):((List.range n).all fun i => z i == y i) = eqB z y n:=by
 rw [Bool.eq_iff_iff,eqB_iff,List.all_eq_true]
 simp
theorem run_equalIn_ints {P:Program} (w:World) (d:Nat) {t e:TypeId} {n:Nat} {i:TypeInfo} {k:IntKind} (hu:P.underlying t = some (.array n e)) (hi:P.info? e = some i) (he:P.underlying e = some (.int k)) (hce:P.cellsOf e = 1)
  (z y:Nat → Int):(Op.equalIn (d + 2) t (.agg (Ks k n z).toArray) (.agg (Ks k n y).toArray)).run P w = .ok (eqB z y n) w:=by
 rw [show d + 2 = (d + 1) + 1 from rfl,run_equalIn_array w (d + 1) _ _ hu hi,hce,← allRange z y n]
 have hl:∀ j ∈ List.range n,j < n:=fun j hj => by simpa using hj
 generalize List.range n = l at hl ⊢
 induction l with
 | nil => simp [Op.eqItems]
 | cons j l ih =>
  have hj:j < n:=hl j (by simp)
  have px:∀ u:Nat → Int,(part e (Ks k n u).toArray (j * 1)).run P w = .ok (.int k (u j)) w:=fun u => by
   simp [part,isAgg,run_underlying he,Ks_get k n u j hj]
  simp only [Op.eqItems,Sem.run_bind,px,Result.andThen_ok,run_equalIn_int w d e k k _ _ he,List.all_cons]
  cases hb:(z j == y j)
  ·simp
  ·simp only [Bool.true_and]
   simp only [Bool.not_true,Bool.false_eq_true,if_false]
   first | exact ih (fun j hj => hl j (by simp [hj])) | (simp;exact ih (fun j hj => hl j (by simp [hj])))
theorem run_eql_ints {P:Program} (w:World) {t e:TypeId} {n:Nat} {i:TypeInfo} {k:IntKind} (hu:P.underlying t = some (.array n e)) (hi:P.info? e = some i) (he:P.underlying e = some (.int k)) (hce:P.cellsOf e = 1)
  (z y:Nat → Int):(binOp .eql t (.agg (Ks k n z).toArray) (.agg (Ks k n y).toArray)).run P w = .ok (.bool (eqB z y n)) w:=by
 rw [run_eql_struct,show (10000:Nat) = 9998 + 2 from rfl,run_equalIn_ints w 9998 hu hi he hce z y];rfl
end Go.Proofs.YtphamecphmbipaaGreatDoor

namespace Go.Proofs.YtphamecphmbipaaGreatDoor
open Go.RowKit
theorem Seg.alloc {w:World} {b off n:Nat} {z:Nat → Int} (h:Seg w b off n z) (o:Obj):Seg (w.alloc o) b off n z:=by
 intro i hi
 have h1:=h i hi
 have:=World.block_lt_of_cell? w _ h1
 rw [World.cell?_of_block (w:=w) (Below.heap_alloc w o b this)];exact h1
theorem Row.alloc {w:World} {a:Option Addr} {n:Nat} {z:Nat → Int} (h:Row w a n z) (o:Obj):Row (w.alloc o) a n z:=by
 rcases h with h | ⟨b,off,rfl,hs⟩
 ·exact .inl h
 ·exact .inr ⟨b,off,rfl,hs.alloc o⟩
theorem Seg.lt {w:World} {b off n:Nat} {z:Nat → Int} (h:Seg w b off n z) (h0:0 < n):b < w.heap.size:=World.block_lt_of_cell? w _ (h 0 h0)
theorem Seg.below {w w':World} {b off n:Nat} {z:Nat → Int} (h:Seg w b off n z) {B:Nat} (hb:Below B w w') (hB:b < B):Seg w' b off n z :=
 fun i hi => (hb.cell (p:=⟨b,off + i,none⟩) hB).trans (h i hi)
theorem Soft.below {w w':World} {b off n:Nat} (h:Soft w b off n) {B:Nat} (hb:Below B w w') (hB:b < B):Soft w' b off n :=
 fun i hi => (hb.frozen (p:=⟨b,off + i,none⟩) hB).trans (h i hi)
theorem Row.take {w:World} {a:Option Addr} {n:Nat} {z:Nat → Int} (h:Row w a n z) (m:Nat) (hm:m ≤ n):Row w a m z:=by
 rcases h with h | ⟨b,off,rfl,hs⟩
 ·exact .inl (by omega)
 ·exact .inr ⟨b,off,rfl,hs.take m hm⟩
theorem byteOf_sum2 (v:Int) (h0:0 ≤ v) (h1:v < 65536):byteOf v 0 + 256 * byteOf v 1 = v:=by
 rw [byteOf_succ,byteOf_zero,byteOf_zero];omega
theorem byteOf_sum4 (v:Int) (h0:0 ≤ v) (h1:v < 4294967296):byteOf v 0 + 256 * byteOf v 1 + 65536 * byteOf v 2 + 16777216 * byteOf v 3 = v:=by
 rw [byteOf_succ v 2,byteOf_succ (v / 256) 1,byteOf_succ v 1,byteOf_succ (v / 256) 0,byteOf_succ (v / 256 / 256) 0,byteOf_succ v 0]
 simp only [byteOf_zero];omega
theorem g32_over (z:Nat → Int) (k:Nat) (v:Int) (h0:0 ≤ v) (h1:v < 4294967296):g32 (over z k 4 (byteOf v)) k = v:=by
 unfold g32 over
 rw [if_pos (by omega),if_pos (by omega),if_pos (by omega),if_pos (by omega),Nat.sub_self,show k + 1 - k = 1 by omega,show k + 2 - k = 2 by omega,show k + 3 - k = 3 by omega]
 exact byteOf_sum4 v h0 h1
theorem g32_halves (z:Nat → Int) (k:Nat):g32 z k = g16 z k + 65536 * g16 z (k + 2):=by unfold g32 g16;rw [show k + 2 + 1 = k + 3 from rfl];omega
theorem over_out (z:Nat → Int) (k n i:Nat) (f:Nat → Int) (h:i < k ∨ k + n ≤ i):over z k n f i = z i:=by unfold over;rw [if_neg (by omega)]
theorem over_in (z:Nat → Int) (k n i:Nat) (f:Nat → Int) (h:k ≤ i ∧ i < k + n):over z k n f i = f (i - k):=by unfold over;rw [if_pos h]
theorem g32_out (z:Nat → Int) (k n i:Nat) (f:Nat → Int) (h:i + 4 ≤ k ∨ k + n ≤ i):g32 (over z k n f) i = g32 z i:=by
 unfold g32
 rw [over_out z k n i f (by omega),over_out z k n (i + 1) f (by omega),over_out z k n (i + 2) f (by omega),over_out z k n (i + 3) f (by omega)]
theorem g16_out (z:Nat → Int) (k n i:Nat) (f:Nat → Int) (h:i + 2 ≤ k ∨ k + n ≤ i):g16 (over z k n f) i = g16 z i:=by
 unfold g16
 rw [over_out z k n i f (by omega),over_out z k n (i + 1) f (by omega)]
end Go.Proofs.YtphamecphmbipaaGreatDoor

namespace Go.Proofs.YtphamecphmbipaaGreatDoor
open Go.RowKit
set_option linter.unusedVariables false
def Blk (w:World) (g:Nat) (T:TypeId) (n:Nat) (z:Nat → Int):Prop:=w.heap[g]? = some (.cells (Ks .u8 n z).toArray T (0,0))
theorem cell_of_heap {w:World} {g:Nat} {cs:Array Value} {t:TypeId} {fr:Nat × Nat} (h:w.heap[g]? = some (.cells cs t fr)) {i:Nat} {v:Value} (hi:cs[i]? = some v):w.cell? ⟨g,i,none⟩ = some v:=by
 simp only [World.cell?,h];simpa using hi
theorem soft_of_heap {w:World} {g:Nat} {cs:Array Value} {t:TypeId} (h:w.heap[g]? = some (.cells cs t (0,0))) (i:Nat):w.frozen? ⟨g,i,none⟩ = false:=by
 simp only [World.frozen?,h];simp
theorem Blk.lt {w:World} {g:Nat} {T:TypeId} {n:Nat} {z:Nat → Int} (h:Blk w g T n z):g < w.heap.size:=(Array.getElem?_eq_some_iff.1 h).1
theorem Blk.seg {w:World} {g:Nat} {T:TypeId} {n:Nat} {z:Nat → Int} (h:Blk w g T n z):Seg w g 0 n z:=fun i hi =>
 cell_of_heap h (by rw [Nat.zero_add];simpa using Ks_get .u8 n z i hi)
theorem Blk.soft {w:World} {g:Nat} {T:TypeId} {n:Nat} {z:Nat → Int} (h:Blk w g T n z) (off m:Nat):Soft w g off m:=fun i _ => soft_of_heap h _
theorem Blk.new (w:World) (T:TypeId) (n:Nat) (z:Nat → Int):Blk (w.alloc (.cells (Ks .u8 n z).toArray T)) w.heap.size T n z:=heap_alloc_new w _
theorem Blk.drewN {w:World} {g:Nat} {T:TypeId} {n:Nat} {z:Nat → Int} (h:Blk w g T n z) (m:Nat):Blk (w.drewN m) g T n z:=h
theorem Blk.congr {w:World} {g:Nat} {T:TypeId} {n:Nat} {z y:Nat → Int} (h:Blk w g T n z) (e:∀ i,i < n → z i = y i):Blk w g T n y:=by
 unfold Blk
 have:Ks .u8 n y = Ks .u8 n z:=by unfold Ks;apply List.map_congr_left;intro i hi;rw [e i (by simpa using hi)]
 rw [this];exact h
theorem Blk.of_cells {w:World} {g:Nat} {T:TypeId} {n:Nat} {z:Nat → Int} {c:Array Value} (h:w.heap[g]? = some (.cells c T (0,0))) (hc:c.size = n) (hs:Seg w g 0 n z):Blk w g T n z:=by
 unfold Blk
 rw [h]
 congr 2
 apply Array.ext'
 apply List.ext_getElem?
 intro i
 by_cases hi:i < n
 ·have:=hs i hi
  simp only [World.cell?,h,Nat.zero_add] at this
  have h2:=Ks_get .u8 n z i hi
  simp at this ⊢
  rw [this,← h2]
 ·rw [List.getElem?_eq_none (by simp;omega),List.getElem?_eq_none (by simp [Ks_length];omega)]
theorem Blk.puts {w w':World} {g:Nat} {T:TypeId} {n lo m:Nat} {z f:Nat → Int} (h:Blk w g T n z) (hp:Puts g lo m f w w'):Blk w' g T n (over z lo m f):=by
 obtain ⟨c',hc,hh⟩:=hp.only.shape _ _ _ h
 exact Blk.of_cells hh (by rw [hc];simp [Ks_length]) (hp.seg h.seg (by omega))
theorem Blk.setCell {w:World} {g:Nat} {T:TypeId} {n:Nat} {z:Nat → Int} (h:Blk w g T n z) (i:Nat) (v:Int) (hi:i < n):Blk (w.setCell ⟨g,i,none⟩ (.int .u8 v)) g T n (over z i 1 (fun _ => v)):=by
 have hp:Puts g i 1 (fun _ => v) w (w.setCell ⟨g,i + 0,none⟩ (.int .u8 v)):=(Puts.nil g i (fun _ => v) w).snoc (u:=.int .u8 (z i)) (by have:=h.seg i hi;simpa using this) rfl
 exact h.puts hp
theorem Blk.below {w w':World} {g:Nat} {T:TypeId} {n:Nat} {z:Nat → Int} (h:Blk w g T n z) {B:Nat} (hb:Below B w w') (hg:g < B):Blk w' g T n z:=(hb.block g hg).trans h
theorem Blk.only {w w':World} {g:Nat} {T:TypeId} {n:Nat} {z:Nat → Int} (h:Blk w g T n z) {b:Nat} (hb:Only b w w') (hg:g ≠ b):Blk w' g T n z:=(hb.block g hg).trans h
theorem Blk.alloc {w:World} {g:Nat} {T:TypeId} {n:Nat} {z:Nat → Int} (h:Blk w g T n z) (o:Obj):Blk (w.alloc o) g T n z:=(Below.heap_alloc w o g h.lt).trans h
theorem heap_alloc_keep {w:World} {g:Nat} {x:Obj} (h:w.heap[g]? = some x) (o:Obj):(w.alloc o).heap[g]? = some x:=(Below.heap_alloc w o g (Array.getElem?_eq_some_iff.1 h).1).trans h
theorem Ks_size (k:IntKind) (n:Nat) (z:Nat → Int):(Ks k n z).toArray.size = n:=by simp [Ks]
theorem Ks_one (k:IntKind) (n:Nat) (z:Nat → Int):(Ks k n z).toArray.all (·.oneCell') = true:=by
 rw [Array.all_eq_true]
 intro i hi
 simp [Ks]
 rfl
theorem Ks_congr {k:IntKind} {n:Nat} {z y:Nat → Int} (e:∀ i,i < n → z i = y i):Ks k n z = Ks k n y:=by
 unfold Ks;apply List.map_congr_left;intro i hi;rw [e i (by simpa using hi)]
theorem eqB_refl (z:Nat → Int) (n:Nat):eqB z z n = true:=(eqB_iff z z n).2 fun _ _ => rfl
end Go.Proofs.YtphamecphmbipaaGreatDoor

namespace Go.Proofs.YtphamecphmbipaaGreatDoor
open Go.RowKit
variable {F:Fence} {n:Nat} {P:Program}
def Turns (own:Nat → Prop) (A B:World):Prop:=∃ row,A.grownBy B row ∧ ∀ r,row = some r → own r
def IterIx (F:Fence) (n:Nat) (P:Program) (g:Nat) (lb:Array Value) (encs:Nat → Array Value) (N:Nat) (own:Nat → Prop) (Need:Nat → World → Prop):Prop :=
 ∀ (l:Nat) (J Jx:Nat → World → Prop) (W:World),
  (∀ k A B,J k A → Turns own A B → J k B) → (∀ k A B,Jx k A → Turns own A B → Jx k B) →
  (∀ k A,k < N → J k A → Need k A → YieldAt F (n - 1) P l (encs k) A fun e B => (e = .returned (.bool true) ∧ J (k + 1) B ∧ Need k B) ∨ (e = .returned (.bool false) ∧ Jx k B)) →
  J 0 W → Need 0 W →
  CallsIn F n P g (#[.func (.yield l) #[] #[]] ++ lb) W fun e B => (∃ v,e = .returned v) ∧ (J N B ∨ ∃ k,k < N ∧ Jx k B)
def roundIx (B:Nat) (J:Nat → World → Prop) (Jx:Code → Nat → World → Prop) (Need:Nat → World → Prop) (k:Nat) (W:World):Exit → Act → World → Prop
 | .normal,_,W' => KeepsFrom B W W' ∧ J (k + 1) W' ∧ Need k W'
 | .ret,_,W' => KeepsFrom B W W' ∧ Jx .ret k W'
 | .exit id,_,W' => KeepsFrom B W W' ∧ Jx (.exit id) k W'
 | .goto t,_,W' => KeepsFrom B W W' ∧ Jx (.goto t) k W'
 | .panic _,_,_ => False
 | .outgrown,_,_ => False
theorem wpIn_rangeIx {g:Operand} {ps:Array Tmp} {assign body:Code} {Q:Exit → Act → World → Prop} {a:Act} {w:World}
  (hro:F.round = none) (h1:1 ≤ n) {gf:Nat} {lb:Array Value} (hg:a.eval g = .func (.func gf) #[] lb) (hFg:F.fn gf) (eg:∀ args w,(callFunc gf args).run P w = .ok (.enter gf args) w)
  {encs:Nat → Array Value} {N:Nat} {own:Nat → Prop} {Need:Nat → World → Prop} (hit:IterIx F (n - 1) P gf lb encs N own Need)
  (hown:∀ r,own r → r < w.heap.size) (hps:∀ k,(encs k).size = ps.size)
  (J:Nat → World → Prop) (Jx:Code → Nat → World → Prop) (Ax:Nat → Act → World → Prop)
  (hJ:OwnFrom w.heap.size J) (hJx:∀ c,OwnFrom w.heap.size (Jx c)) (hN:OwnFrom w.heap.size Need) (hAx:∀ a',OwnFrom w.heap.size (fun k W => Ax k a' W))
  (hJo:∀ k A B,J k A → Turns own A B → J k B) (hJxo:∀ c k A B,Jx c k A → Turns own A B → Jx c k B)
  (h0:J 0 w) (hn0:Need 0 w)
  (hassign:∀ (l k:Nat) (W:World) (K:Act → World → Prop),k < N → J k W → Need k W →
   (∀ a' W',KeepsFrom w.heap.size W W' → J k W' → Need k W' → Ax k a' W' → K a' W') →
   assign.wpIn (F.inRound l) (n - 1 - 1) P (Exit.then K (fun _ _ _ => False)) { tmps:=(ps.zip (encs k)).foldl (fun t (p,v) => t.setIfInBounds p v) a.tmps,defers:=[] } W)
  (hbody:∀ (l k:Nat) (a':Act) (W:World),k < N → J k W → Need k W → Ax k a' W → body.wpIn (F.inRound l) (n - 1 - 1) P (roundIx w.heap.size J Jx Need k W) a' W)
  (hdone:∀ (D:Nat) (W:World),w.heap.size ≤ D → J N W → W.heap[D]? = some (.deferred (some [])) → Q .normal { a with defers:={ target:=.collected D,args:=#[] } :: a.defers } W)
  (hstop:∀ (D:Nat) (c:Code) (k:Nat) (W:World),w.heap.size ≤ D → k < N → Jx c k W → W.heap[D]? = some (.deferred (some [])) → c.wpIn F n P Q { a with defers:={ target:=.collected D,args:=#[] } :: a.defers } W) :
  (Code.rangeFunc g ps assign body).wpIn F n P Q a w:=by
 refine wpIn_rangeFunc ?_
 intro fn hfn
 rw [hro]
 generalize hrc:(fun (st:LoopState) (pe:Option Code) => ({ state:=st,pending:=pe,fn:=fn,tmps:=a.tmps,params:=ps,assign:=assign,body:=body,defers:=w.heap.size }:Loop)) = rc
 have hrcs:∀ st pe,rc st pe = { state:=st,pending:=pe,fn:=fn,tmps:=a.tmps,params:=ps,assign:=assign,body:=body,defers:=w.heap.size }:=fun st pe => by rw [← hrc]
 clear hrc
 let W1:=(w.alloc (.deferred (some []))).alloc (.loop (rc .ready none))
 have hL1:W1.heap[w.heap.size + 1]? = some (.loop (rc .ready none)):=by
  have:=World.alloc_heap_new (w.alloc (.deferred (some []))) (.loop (rc .ready none));rwa [World.size_alloc] at this
 have hK1:W1.heap[w.heap.size]? = some (.deferred (some [])):=(Below.heap_alloc _ _ _ (by simp)).trans (World.alloc_heap_new w _)
 have grow1:w.grownBy W1 none:=⟨rfl,rfl,rfl,by simp [W1];omega,fun k hk _ => by
  show ((w.alloc _).alloc _).heap[k]? = _
  rw [Below.heap_alloc _ _ _ (by simp;omega),Below.heap_alloc _ _ _ hk]⟩
 have keep:∀ {X:Nat → World → Prop},OwnFrom w.heap.size X → ∀ k,X k w → X k W1:=fun h k hx => h k w W1 none hx grow1 (fun r e => by cases e)
 have book:∀ {A B:World} {k:Nat} {o:Obj},Turns own A B → w.heap.size ≤ k → A.heap[k]? = some o → B.heap[k]? = some o:=by
  rintro A B k o ⟨row,hgr,hr⟩ hk ho
  refine (hgr.block k (Array.getElem?_eq_some_iff.1 ho).1 (fun e => ?_)).trans ho
  have:=hown k (hr k e.symm)
  omega
 refine ⟨w.heap.size + 1,[{ target:=.collected w.heap.size,args:=#[] }],W1,{ target:=.fn (.func gf) lb,args:=#[.func (.yield (w.heap.size + 1)) #[] #[]] },W1,gf,
  #[.func (.yield (w.heap.size + 1)) #[] #[]] ++ lb,W1,?_,?_,?_,?_,fun _ => h1,?_⟩
 ·show _ = Result.ok (_,_) ((w.alloc (.deferred (some []))).alloc (.loop (rc .ready none)))
  rw [hrcs];exact run_enterLoop_outer _ _ _ _ _
 ·simp only [resolve,hg]
  simp [go_sem]
 ·intro f' hf';simp [Target.leads] at hf';subst hf';exact hFg
 ·simp [invoke,go_sem,eg]
 refine (hit (w.heap.size + 1)
  (fun k W => J k W ∧ W.heap[w.heap.size + 1]? = some (.loop (rc .ready none)) ∧ W.heap[w.heap.size]? = some (.deferred (some [])))
  (fun k W => ∃ c,Jx c k W ∧ W.heap[w.heap.size + 1]? = some (.loop (rc .done (some c))) ∧ W.heap[w.heap.size]? = some (.deferred (some [])))
  W1
  (fun k A B hs ht => ⟨hJo k A B hs.1 ht,book ht (by omega) hs.2.1,book ht (Nat.le_refl _) hs.2.2⟩)
  (fun k A B hs ht => by
   obtain ⟨c,hc,hl,hk⟩:=hs
   exact ⟨c,hJxo c k A B hc ht,book ht (by omega) hl,book ht (Nat.le_refl _) hk⟩)
  ?_ ⟨keep hJ 0 h0,hL1,hK1⟩ (keep hN 0 hn0)).mono ?_
 ·
  rintro k W hkN ⟨hj,hl,hd⟩ hnd
  have hy:=run_yield (P:=P) (args:=encs k) hl (by rw [hrcs];exact hps k)
  rw [hrcs] at hy
  refine ⟨fn,_,assign,body,hy,roundIn_of_wpIn hfn (hassign _ k W _ hkN hj hnd ?_)⟩
  intro a' V hkf hjV hndV hax
  have hlV:=hkf.same _ _ (by omega) hl rfl
  have hdV:=hkf.same _ _ (Nat.le_refl _) hd rfl
  have hltV:w.heap.size + 1 < V.heap.size:=(Array.getElem?_eq_some_iff.1 hlV).1
  refine ⟨_,run_beginRound hlV (by rw [hrcs]),?_⟩
  generalize hbz:({ rc .ready none with state:=.busy }:Loop) = bz
  have hl2:(V.putObj (w.heap.size + 1) (.loop bz)).heap[w.heap.size + 1]? = some (.loop bz):=World.putObj_heap_same hltV
  have hd2:(V.putObj (w.heap.size + 1) (.loop bz)).heap[w.heap.size]? = some (.deferred (some [])):=(World.putObj_heap_other (by omega)).trans hdV
  refine wpIn_mono (hbody _ k a' _ hkN (hJ.putObj _ hjV (by omega) hlV rfl) (hN.putObj _ hndV (by omega) hlV rfl) ((hAx a').putObj _ hax (by omega) hlV rfl)) ?_
  have fin:∀ (jump:Option Code) (U:World),KeepsFrom w.heap.size (V.putObj (w.heap.size + 1) (.loop bz)) U →
    (Instr.endRound (w.heap.size + 1) jump).run P U = .ok (.bool jump.isNone) (U.putObj (w.heap.size + 1) (.loop (rc (if jump.isNone then .ready else .done) jump))) ∧
    U.heap[w.heap.size + 1]? = some (.loop bz) ∧
    (U.putObj (w.heap.size + 1) (.loop (rc (if jump.isNone then .ready else .done) jump))).heap[w.heap.size + 1]? = some (.loop (rc (if jump.isNone then .ready else .done) jump)) ∧
    (U.putObj (w.heap.size + 1) (.loop (rc (if jump.isNone then .ready else .done) jump))).heap[w.heap.size]? = some (.deferred (some [])):=by
   intro jump U hkU
   have hlU:=hkU.same _ _ (by omega) hl2 rfl
   have he:=run_endRound (P:=P) jump hlU
   refine ⟨?_,hlU,World.putObj_heap_same (Array.getElem?_eq_some_iff.1 hlU).1,(World.putObj_heap_other (by omega)).trans (hkU.same _ _ (Nat.le_refl _) hd2 rfl)⟩
   rw [he,← hbz,hrcs,hrcs]
  rintro e a3 U hp
  cases e with
  | normal =>
   obtain ⟨hkU,hjU,hndU⟩:=hp
   obtain ⟨hr,hlU,hl4,hd4⟩:=fin none U hkU
   exact ⟨_,_,hr,.inl ⟨rfl,⟨hJ.putObj _ hjU (by omega) hlU rfl,hl4,hd4⟩,hN.putObj _ hndU (by omega) hlU rfl⟩⟩
  | ret =>
   obtain ⟨hkU,hjU⟩:=hp
   obtain ⟨hr,hlU,hl4,hd4⟩:=fin (some .ret) U hkU
   exact ⟨_,_,hr,.inr ⟨rfl,.ret,(hJx _).putObj _ hjU (by omega) hlU rfl,hl4,hd4⟩⟩
  | exit id =>
   obtain ⟨hkU,hjU⟩:=hp
   obtain ⟨hr,hlU,hl4,hd4⟩:=fin (some (.exit id)) U hkU
   exact ⟨_,_,hr,.inr ⟨rfl,.exit id,(hJx _).putObj _ hjU (by omega) hlU rfl,hl4,hd4⟩⟩
  | goto t =>
   obtain ⟨hkU,hjU⟩:=hp
   obtain ⟨hr,hlU,hl4,hd4⟩:=fin (some (.goto t)) U hkU
   exact ⟨_,_,hr,.inr ⟨rfl,.goto t,(hJx _).putObj _ hjU (by omega) hlU rfl,hl4,hd4⟩⟩
  | panic ch => exact hp.elim
  | outgrown => exact hp.elim
 ·
  rintro e W2 ⟨⟨v,rfl⟩,(⟨hj,hl,hd⟩ | ⟨k,hkN,c,hj,hl,hd⟩)⟩
  ·exact ⟨none,_,by have:=run_endLoop (P:=P) hl (by rw [hrcs];simp);rw [hrcs] at this;exact this,hdone _ _ (Nat.le_refl _) (hJ.putObj _ hj (by omega) hl rfl) ((World.putObj_heap_other (by omega)).trans hd)⟩
  ·exact ⟨some c,_,by have:=run_endLoop (P:=P) hl (by rw [hrcs];simp);rw [hrcs] at this;exact this,hstop _ c k _ (Nat.le_refl _) hkN ((hJx c).putObj _ hj (by omega) hl rfl) ((World.putObj_heap_other (by omega)).trans hd)⟩
end Go.Proofs.YtphamecphmbipaaGreatDoor

namespace Go.Proofs.YtphamecphmbipaaGreatDoor
open Go.RowKit
variable {P:Program}
set_option linter.unusedVariables false
structure Still (B:Nat) (A C:World):Prop where
 os:C.os = A.os
 tape:C.tape = A.tape
 output:C.output = A.output
 size:A.heap.size ≤ C.heap.size
 block:∀ k,k < B → k < A.heap.size → C.heap[k]? = A.heap[k]?
def LocalP (B:Nat) (X:World → Prop):Prop:=∀ A C,X A → Still B A C → X C
theorem Still.of_grown {B:Nat} {A C:World} {row:Option Nat} (h:A.grownBy C row) (hr:∀ r,row = some r → B ≤ r):Still B A C :=
 ⟨h.os,h.tape,h.output,h.size,fun k hk hl => h.block k hl (fun e => by have:=hr k e.symm;omega)⟩
theorem LocalP.own {B:Nat} {J:Nat → World → Prop} (h:∀ k,LocalP B (J k)):OwnFrom B J :=
 fun s A C row hs hg hr => h s A C hs (Still.of_grown hg (fun r e => (hr r e).1))
theorem LocalP.turns {B:Nat} {X:World → Prop} (h:LocalP B X) {A C:World} (hs:X A) (ht:Turns (fun _ => False) A C):X C:=by
 obtain ⟨row,hg,hr⟩:=ht
 exact h A C hs (Still.of_grown hg (fun r e => (hr r e).elim))
theorem LocalP.and {B:Nat} {X Y:World → Prop} (h:LocalP B X) (k:LocalP B Y):LocalP B (fun W => X W ∧ Y W):=fun A C hs hg => ⟨h A C hs.1 hg,k A C hs.2 hg⟩
theorem LocalP.pure (B:Nat) (p:Prop):LocalP B (fun _ => p):=fun _ _ h _ => h
theorem LocalP.ex {B:Nat} {α:Type} {X:α → World → Prop} (h:∀ x,LocalP B (X x)):LocalP B (fun W => ∃ x,X x W):=fun A C hs hg => let ⟨x,hx⟩:=hs;⟨x,h x A C hx hg⟩
theorem LocalP.below {B n:Nat} (w:World) (hn:n ≤ B) (hw:n ≤ w.heap.size):LocalP B (fun W => Below n w W):=fun A C hs hg =>
 ⟨hg.os.trans hs.os,hg.tape.trans hs.tape,hg.output.trans hs.output,Nat.le_trans hs.size hg.size,fun k hk => (hg.block k (by omega) (by have:=hs.size;omega)).trans (hs.block k hk)⟩
theorem LocalP.cell {B:Nat} (p:Addr) (v:Value) (hb:p.block < B):LocalP B (fun W => W.cell? p = some v):=fun A C hs hg =>
 (World.cell?_of_block (w:=A) (hg.block p.block hb (World.block_lt_of_cell? A _ hs))).trans hs
theorem LocalP.seg {B b:Nat} (off n:Nat) (z:Nat → Int) (hb:b < B):LocalP B (fun W => Seg W b off n z):=fun A C hs hg i hi => LocalP.cell ⟨b,off + i,none⟩ _ hb A C (hs i hi) hg
theorem LocalP.row {B:Nat} {a:Option Addr} (n:Nat) (z:Nat → Int) (hb:∀ x,a = some x → x.block < B):LocalP B (fun W => Row W a n z):=fun A C hs hg => by
 rcases hs with h0 | ⟨b,off,rfl,hs⟩
 ·exact .inl h0
 ·exact .inr ⟨b,off,rfl,LocalP.seg off n z (hb _ rfl) A C hs hg⟩
theorem LocalP.heap {B b:Nat} (o:Obj) (hb:b < B):LocalP B (fun W => W.heap[b]? = some o):=fun A C hs hg => (hg.block b hb (Array.getElem?_eq_some_iff.1 hs).1).trans hs
theorem Below.keeps {B:Nat} {W W':World} (h:Below W.heap.size W W'):KeepsFrom B W W' :=
 ⟨h.size,fun k o _ hk _ => (h.block k (Array.getElem?_eq_some_iff.1 hk).1).trans hk⟩
theorem Only.keeps {B b:Nat} {W W':World} (h:Only b W W') {off:Nat} {v:Value} (hc:W.cell? ⟨b,off,none⟩ = some v):KeepsFrom B W W' :=
 ⟨Nat.le_of_eq h.size.symm,fun k o _ hk ho => by
  by_cases hkb:k = b
  ·subst hkb
   simp only [World.cell?,hk] at hc
   cases o with
   | cells c e f => cases ho
   | _ => cases hc
  ·exact (h.block k hkb).trans hk⟩
theorem drewN_keeps {B:Nat} (W:World) (m:Nat):KeepsFrom B W (W.drewN m):=⟨Nat.le_refl _,fun _ _ _ hk _ => hk⟩
theorem wp_rangeIx {g:Operand} {ps:Array Tmp} {assign body:Code} {Q:Exit → Act → World → Prop} {a:Act} {w:World} {gf:Nat} {lb:Array Value}
  (hg:a.eval g = .func (.func gf) #[] lb) (eg:∀ args w,(callFunc gf args).run P w = .ok (.enter gf args) w)
  {encs:Nat → Array Value} {N:Nat} {Need:Nat → World → Prop} (hit:IterIx Fence.wide 4 P gf lb encs N (fun _ => False) Need) (hps:∀ k,(encs k).size = ps.size)
  (J:Nat → World → Prop) (Jx:Code → Nat → World → Prop) (A1:Nat → Act)
  (hJ:∀ k,LocalP w.heap.size (J k)) (hJx:∀ c k,LocalP w.heap.size (Jx c k)) (hN:∀ k,LocalP w.heap.size (Need k)) (h0:J 0 w) (hn0:Need 0 w)
  (hassign:∀ (l k:Nat) (W:World) (K:Act → World → Prop),k < N → K (A1 k) W →
   assign.wpIn (Fence.wide.inRound l) 3 P (Exit.then K (fun _ _ _ => False)) { tmps:=(ps.zip (encs k)).foldl (fun t (p,v) => t.setIfInBounds p v) a.tmps,defers:=[] } W)
  (hbody:∀ (l k:Nat) (W:World),k < N → J k W → Need k W → body.wpIn (Fence.wide.inRound l) 3 P (roundIx w.heap.size J Jx Need k W) (A1 k) W)
  (hdone:∀ (D:Nat) (W:World),w.heap.size ≤ D → J N W → W.heap[D]? = some (.deferred (some [])) → Q .normal { a with defers:={ target:=.collected D,args:=#[] } :: a.defers } W)
  (hstop:∀ (D:Nat) (c:Code) (k:Nat) (W:World),w.heap.size ≤ D → k < N → Jx c k W → W.heap[D]? = some (.deferred (some [])) → c.wp P Q { a with defers:={ target:=.collected D,args:=#[] } :: a.defers } W) :
  (Code.rangeFunc g ps assign body).wp P Q a w:=by
 refine (wpIn_wide (n:=5)).1 ?_
 exact wpIn_rangeIx rfl (by decide) hg trivial eg hit (fun r h => h.elim) hps J Jx (fun k a' _ => a' = A1 k)
  (LocalP.own hJ) (fun c => LocalP.own (hJx c)) (LocalP.own hN) (fun a' => LocalP.own (fun k => LocalP.pure _ _))
  (fun k A C hs ht => (hJ k).turns hs ht) (fun c k A C hs ht => (hJx c k).turns hs ht) h0 hn0
  (fun l k W K hk hj hn hK => hassign l k W K hk (hK _ _ (KeepsFrom.refl _ _) hj hn rfl))
  (fun l k a' W hk hj hn ha => by subst ha;exact hbody l k W hk hj hn)
  hdone (fun D c k W h1 h2 h3 h4 => wpIn_wide.2 (hstop D c k W h1 h2 h3 h4))
theorem bodyPostM_done {P:Program} {fn:Func} {R:Ending → World → Prop} {n:Nat} {tmps:Array Value} {D:Nat} {W:World} {v:Value} (hD:W.heap[D]? = some (.deferred (some [])))
  (hres:(results fn tmps).run P (W.putObj D (.deferred none)) = .ok v (W.putObj D (.deferred none))) (hR:R (.returned v) (W.putObj D (.deferred none))) :
  bodyPostM Fence.wide n P fn R .ret { tmps:=tmps,defers:=[{ target:=.collected D,args:=#[] }] } W :=
 ⟨by simp,.inl ⟨_,_,rfl,run_takeDeferred hD,⟨_,hres,hR⟩⟩⟩
theorem bodyPostM_early {P:Program} {fn:Func} {R:Ending → World → Prop} {n:Nat} {tmps:Array Value} {W:World} {v:Value}
  (hres:(results fn tmps).run P W = .ok v W) (hR:R (.returned v) W) :
  bodyPostM Fence.wide n P fn R .ret { tmps:=tmps,defers:=[] } W:=⟨_,hres,hR⟩
theorem cell_putObj {W:World} {D:Nat} {o o':Obj} {p:Addr} {v:Value} (hD:W.heap[D]? = some o) (ho:o.isCells = false) (hc:W.cell? p = some v):(W.putObj D o').cell? p = some v:=by
 have hne:p.block ≠ D:=by
  intro e
  simp only [World.cell?,e,hD] at hc
  cases o with
  | cells c e f => cases ho
  | _ => cases hc
 rw [World.cell?_of_block (w:=W) (World.putObj_heap_other hne)];exact hc
theorem below_putObj {W w:World} {n D:Nat} (h:Below n w W) (o':Obj) (hn:n ≤ w.heap.size) (hD:n ≤ D):Below n w (W.putObj D o') :=
 h.grown (grownBy_putObj' W D o') (Nat.le_trans hn h.size) (fun k e => by cases e;exact hD)
end Go.Proofs.YtphamecphmbipaaGreatDoor
