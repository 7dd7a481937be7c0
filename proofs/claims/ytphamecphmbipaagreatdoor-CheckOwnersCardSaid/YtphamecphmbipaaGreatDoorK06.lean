/- Texts of this claim, merged by a program (a claim may have 60 files): At, Geo, Rw, RwA, AtIn, Parts, CopyQ, InvA. -/
import Derived.Test.YtphamecphmbipaaGreatDoorK04
import Derived.Test.YtphamecphmbipaaGreatDoorK05
import Derived.Deep.OwnRows
import Derived.Deep.MidRow
import Derived.OwnWalkIn
import Derived.TacticsInMore
import Derived.Test.YtphamecphmbipaaGreatDoorK03
import Derived.Shelf.Abstract
import Derived.LoopNIn
import Derived.LoopIn
namespace Go.Proofs.YtphamecphmbipaaGreatDoor
open Go.RowKit
set_option linter.unusedVariables false
def At (w:World) (g:Nat) (T:TypeId) (cs:Array Value):Prop:=w.heap[g]? = some (.cells cs T (0,0))
theorem At.lt {w:World} {g:Nat} {T:TypeId} {cs:Array Value} (h:At w g T cs):g < w.heap.size:=(Array.getElem?_eq_some_iff.1 h).1
theorem At.new (w:World) (T:TypeId) (cs:Array Value):At (w.alloc (.cells cs T)) w.heap.size T cs:=heap_alloc_new w _
theorem At.alloc {w:World} {g:Nat} {T:TypeId} {cs:Array Value} (h:At w g T cs) (o:Obj):At (w.alloc o) g T cs:=heap_alloc_keep h o
theorem At.below {w w':World} {g:Nat} {T:TypeId} {cs:Array Value} (h:At w g T cs) {B:Nat} (hb:Below B w w') (hg:g < B):At w' g T cs:=(hb.block g hg).trans h
theorem At.only {w w':World} {g:Nat} {T:TypeId} {cs:Array Value} (h:At w g T cs) {b:Nat} (hb:Only b w w') (hg:g ≠ b):At w' g T cs:=(hb.block g hg).trans h
theorem At.cell {w:World} {g:Nat} {T:TypeId} {cs:Array Value} (h:At w g T cs) {i:Nat} {v:Value} (hi:cs[i]? = some v):w.cell? ⟨g,i,none⟩ = some v:=cell_of_heap h hi
theorem At.range {w:World} {g:Nat} {T:TypeId} {cs:Array Value} (h:At w g T cs):w.rangeAt g 0 cs.toList:=by
 intro j v hj
 rw [Nat.zero_add]
 exact cell_of_heap h (by simpa using hj)
theorem wp_storeAt {P:Program} {w:World} {ops:Array Oper} {rest:List Oper} {o:Oper} {a:Act} {Q:Exit → Act → World → Prop} (hgd:o.guard = none) (T:TypeId) (p q:Operand) (ho:o.op = .store T p q)
  (g:Nat) (cs old:Array Value) (hx:a.eval p = .pointer (some ⟨g,0,none⟩)) (hy:a.eval q = .agg cs) (hI:At w g T old) (hi:(P.info? T).map (·.size) = some cs.size) (hs:old.size = cs.size) (h1:cs.all (·.oneCell') = true)
  (h:∀ w',At w' g T cs → Only g w w' → wpList P ops Q rest (a.put o.dst undef) w'):wpList P ops Q (o :: rest) a w :=
 wpList_store_row hgd T p q ho g cs hx hy T _ hI hi hs h1 (h _ (setRow_heap w g _ cs _ _ hI) (only_setRow w g _ hI hs.symm))
theorem wp_loadAtG {P:Program} {w:World} {ops:Array Oper} {rest:List Oper} {o:Oper} {a:Act} {Q:Exit → Act → World → Prop} (hw:Region.wanted o (yielded ops a.tmps) = true) (T:TypeId) (p:Operand) (ho:o.op = .load T p)
  (g:Nat) (cs:Array Value) (d:TypeDesc) (hx:a.eval p = .pointer (some ⟨g,0,none⟩)) (hI:At w g T cs) (hu:P.underlying T = some d) (hd:(match d with | .struct _ | .array _ _ => true | _ => false) = true) (hi:(P.info? T).map (·.size) = some cs.size)
  (h:wpList P ops Q rest (a.put o.dst (.agg cs)) w):wpList P ops Q (o :: rest) a w :=
 BigFrame.wpList_want hw fun _ hK => wp_load_row T p ho g hx T cs (0,0) d hI hu hd hi (hK _ _ h)
theorem wp_loadBlkG {w:World} {ops:Array Oper} {rest:List Oper} {o:Oper} {a:Act} {Q:Exit → Act → World → Prop} (hw:Region.wanted o (yielded ops a.tmps) = true) (p:Operand) (ho:o.op = .load 32 p)
  (g:Nat) (z:Nat → Int) (hx:a.eval p = .pointer (some ⟨g,0,none⟩)) (hB:Blk w g 32 256 z)
  (h:wpList Tryz.prog ops Q rest (a.put o.dst (bval z)) w):wpList Tryz.prog ops Q (o :: rest) a w :=
 BigFrame.wpList_want hw fun _ hK => wp_load_row 32 p ho g hx 32 (Ks .u8 256 z).toArray (0,0) _ hB Tryz.underlying32 rfl (info_block' _) (hK _ _ h)
abbrev gval (G S I J:Int):Value:=.agg #[.int .i64 G,.int .i64 S,.int .i64 I,.int .i64 J]
abbrev gcells (G S I J:Int):Array Value:=#[.int .i64 G,.int .i64 S,.int .i64 I,.int .i64 J]
def mayG (G S I J:Int):Bool:=decide (1 ≤ G ∧ G ≤ 4 ∧ 16 ≤ S ∧ S ≤ 512 ∧ 4 ≤ I ∧ I ≤ 64 ∧ I % 4 = 0 ∧ 40 ≤ J ∧ J ≤ 256 ∧ 3 + I / 4 ≤ S ∧ 2 + J + G * S ≤ 2048)
theorem mayG_iff (G S I J:Int):mayG G S I J = true ↔ 1 ≤ G ∧ G ≤ 4 ∧ 16 ≤ S ∧ S ≤ 512 ∧ 4 ≤ I ∧ I ≤ 64 ∧ I % 4 = 0 ∧ 40 ≤ J ∧ J ≤ 256 ∧ 3 + I / 4 ≤ S ∧ 2 + J + G * S ≤ 2048:=by unfold mayG;exact decide_eq_true_iff
theorem mayG_no {G S I J:Int} (h:¬ (1 ≤ G ∧ G ≤ 4 ∧ 16 ≤ S ∧ S ≤ 512 ∧ 4 ≤ I ∧ I ≤ 64 ∧ I % 4 = 0 ∧ 40 ≤ J ∧ J ≤ 256 ∧ 3 + I / 4 ≤ S ∧ 2 + J + G * S ≤ 2048)):mayG G S I J = false:=by unfold mayG;exact decide_eq_false h
theorem i64_quo4 (I:Int) (h:4 ≤ I):I.tdiv 4 = I / 4:=Int.tdiv_eq_ediv_of_nonneg (by omega)
theorem i64_rem4 (I:Int) (h:4 ≤ I):I.tmod 4 = I % 4:=Int.tmod_eq_emod_of_nonneg (by omega)
theorem GS_bd {G S:Int} (h1:1 ≤ G) (h2:G ≤ 4) (h3:16 ≤ S) (h4:S ≤ 512):0 ≤ G * S ∧ G * S ≤ 2048:=by
 have:0 ≤ G * S:=Int.mul_nonneg (by omega) (by omega)
 have h:=Int.mul_le_mul h2 h4 (by omega) (by omega:(0:Int) ≤ 4)
 omega
set_option maxRecDepth 100000 in
set_option maxHeartbeats 4000000 in
theorem geoMay_any (G S I J:Int) (w:World):Calls Tryz.prog 38 #[gval G S I J] w fun e w' => e = .returned (.bool (mayG G S I J)) ∧ Below w.heap.size w w':=by
 have HA:=Lib.hid (At.new w 23 (gcells G S I J))
 have HL:Hid (Below w.heap.size w (w.alloc (.cells (gcells G S I J) 23))):=(Below.refl _ _).alloc (Nat.le_refl _) _
 have c0:(w.alloc (.cells #[.int .i64 G,.int .i64 S,.int .i64 I,.int .i64 J] 23)).cell? ⟨w.heap.size,0,none⟩ = some (.int .i64 G):=HA.out.cell (i:=0) rfl
 have c1:(w.alloc (.cells #[.int .i64 G,.int .i64 S,.int .i64 I,.int .i64 J] 23)).cell? ⟨w.heap.size,1,none⟩ = some (.int .i64 S):=HA.out.cell (i:=1) rfl
 have c2:(w.alloc (.cells #[.int .i64 G,.int .i64 S,.int .i64 I,.int .i64 J] 23)).cell? ⟨w.heap.size,2,none⟩ = some (.int .i64 I):=HA.out.cell (i:=2) rfl
 have c3:(w.alloc (.cells #[.int .i64 G,.int .i64 S,.int .i64 I,.int .i64 J] 23)).cell? ⟨w.heap.size,3,none⟩ = some (.int .i64 J):=HA.out.cell (i:=3) rfl
 go_enter Tryz.func38,Tryz.ntmps38
 by_cases h1:1 ≤ G
 rotate_left
 ·have HN:Hid (mayG G S I J = false):=mayG_no fun h => by omega
  have nh1:G < 1:=by omega
  go_wp2_with fail
  go_ret
  exact ⟨by rw [HN.out];rfl,HL.out⟩
 have nh1:¬ G < 1:=by omega
 by_cases h2:G ≤ 4
 rotate_left
 ·have HN:Hid (mayG G S I J = false):=mayG_no fun h => by omega
  have nh2:4 < G:=by omega
  go_wp2_with fail
  go_ret
  exact ⟨by rw [HN.out];rfl,HL.out⟩
 have nh2:¬ 4 < G:=by omega
 by_cases h3:16 ≤ S
 rotate_left
 ·have HN:Hid (mayG G S I J = false):=mayG_no fun h => by omega
  have nh3:S < 16:=by omega
  go_wp2_with fail
  go_ret
  exact ⟨by rw [HN.out];rfl,HL.out⟩
 have nh3:¬ S < 16:=by omega
 by_cases h4:S ≤ 512
 rotate_left
 ·have HN:Hid (mayG G S I J = false):=mayG_no fun h => by omega
  have nh4:512 < S:=by omega
  go_wp2_with fail
  go_ret
  exact ⟨by rw [HN.out];rfl,HL.out⟩
 have nh4:¬ 512 < S:=by omega
 by_cases h5:4 ≤ I
 rotate_left
 ·have HN:Hid (mayG G S I J = false):=mayG_no fun h => by omega
  have nh5:I < 4:=by omega
  go_wp2_with fail
  go_ret
  exact ⟨by rw [HN.out];rfl,HL.out⟩
 have nh5:¬ I < 4:=by omega
 have t1:=i64_quo4 I h5
 have t2:=i64_rem4 I h5
 by_cases h6:I ≤ 64
 rotate_left
 ·have HN:Hid (mayG G S I J = false):=mayG_no fun h => by omega
  have nh6:64 < I:=by omega
  go_wp2_with fail
  go_ret
  exact ⟨by rw [HN.out];rfl,HL.out⟩
 have nh6:¬ 64 < I:=by omega
 by_cases h7:I % 4 = 0
 rotate_left
 ·have HN:Hid (mayG G S I J = false):=mayG_no fun h => by omega
  have q7:(I % 4 != 0) = true:=by simpa using h7
  go_wp2_with fail
  go_ret
  exact ⟨by rw [HN.out];rfl,HL.out⟩
 have q7:(I % 4 != 0) = false:=by simpa using h7
 by_cases h8:40 ≤ J
 rotate_left
 ·have HN:Hid (mayG G S I J = false):=mayG_no fun h => by omega
  have nh8:J < 40:=by omega
  go_wp2_with fail
  go_ret
  exact ⟨by rw [HN.out];rfl,HL.out⟩
 have nh8:¬ J < 40:=by omega
 by_cases h9:J ≤ 256
 rotate_left
 ·have HN:Hid (mayG G S I J = false):=mayG_no fun h => by omega
  have nh9:256 < J:=by omega
  go_wp2_with fail
  go_ret
  exact ⟨by rw [HN.out];rfl,HL.out⟩
 have nh9:¬ 256 < J:=by omega
 obtain ⟨g0,g1⟩:=GS_bd h1 h2 h3 h4
 have w1:IntKind.i64.wrap (G * S) = G * S:=IntWalk.i64_in _ (by omega)
 by_cases h10:3 + I / 4 ≤ S
 rotate_left
 ·have HN:Hid (mayG G S I J = false):=mayG_no fun h => by omega
  have n10:S < 2 + I / 4 + 1:=by omega
  have n11:¬ 3 + I / 4 ≤ S:=by omega
  go_wp2_with fail
  go_ret
  exact ⟨by rw [HN.out];rfl,HL.out⟩
 have n10:¬ S < 2 + I / 4 + 1:=by omega
 have HY:Hid (mayG G S I J = decide (2 + J + G * S ≤ 2048)):=by
  show _ = _
  rw [Bool.eq_iff_iff,mayG_iff,decide_eq_true_eq]
  exact ⟨fun h => h.2.2.2.2.2.2.2.2.2.2,fun h => ⟨h1,h2,h3,h4,h5,h6,h7,h8,h9,h10,h⟩⟩
 go_wp2_with fail
 go_ret
 exact ⟨by rw [HY.out];rfl,HL.out⟩
set_option maxRecDepth 100000 in
set_option maxHeartbeats 4000000 in
theorem rMay5_any (G S I J:Int) (w:World):Calls Tryz.prog 56 #[gval G S I J] w fun e w' => e = .returned (.bool (mayG G S I J)) ∧ Below w.heap.size w w':=by
 have HA:=Lib.hid (At.new w 23 (gcells G S I J))
 have HL:Hid (Below w.heap.size w (w.alloc (.cells (gcells G S I J) 23))):=(Below.refl _ _).alloc (Nat.le_refl _) _
 have c0:(w.alloc (.cells #[.int .i64 G,.int .i64 S,.int .i64 I,.int .i64 J] 23)).cell? ⟨w.heap.size,0,none⟩ = some (.int .i64 G):=HA.out.cell (i:=0) rfl
 have c1:(w.alloc (.cells #[.int .i64 G,.int .i64 S,.int .i64 I,.int .i64 J] 23)).cell? ⟨w.heap.size,1,none⟩ = some (.int .i64 S):=HA.out.cell (i:=1) rfl
 have c2:(w.alloc (.cells #[.int .i64 G,.int .i64 S,.int .i64 I,.int .i64 J] 23)).cell? ⟨w.heap.size,2,none⟩ = some (.int .i64 I):=HA.out.cell (i:=2) rfl
 have c3:(w.alloc (.cells #[.int .i64 G,.int .i64 S,.int .i64 I,.int .i64 J] 23)).cell? ⟨w.heap.size,3,none⟩ = some (.int .i64 J):=HA.out.cell (i:=3) rfl
 go_enter Tryz.func56,Tryz.ntmps56
 by_cases h1:1 ≤ G
 rotate_left
 ·have HN:Hid (mayG G S I J = false):=mayG_no fun h => by omega
  have nh1:G < 1:=by omega
  go_wp2_with fail
  go_ret
  exact ⟨by rw [HN.out];rfl,HL.out⟩
 have nh1:¬ G < 1:=by omega
 by_cases h2:G ≤ 4
 rotate_left
 ·have HN:Hid (mayG G S I J = false):=mayG_no fun h => by omega
  have nh2:4 < G:=by omega
  go_wp2_with fail
  go_ret
  exact ⟨by rw [HN.out];rfl,HL.out⟩
 have nh2:¬ 4 < G:=by omega
 by_cases h3:16 ≤ S
 rotate_left
 ·have HN:Hid (mayG G S I J = false):=mayG_no fun h => by omega
  have nh3:S < 16:=by omega
  go_wp2_with fail
  go_ret
  exact ⟨by rw [HN.out];rfl,HL.out⟩
 have nh3:¬ S < 16:=by omega
 by_cases h4:S ≤ 512
 rotate_left
 ·have HN:Hid (mayG G S I J = false):=mayG_no fun h => by omega
  have nh4:512 < S:=by omega
  go_wp2_with fail
  go_ret
  exact ⟨by rw [HN.out];rfl,HL.out⟩
 have nh4:¬ 512 < S:=by omega
 by_cases h5:4 ≤ I
 rotate_left
 ·have HN:Hid (mayG G S I J = false):=mayG_no fun h => by omega
  have nh5:I < 4:=by omega
  go_wp2_with fail
  go_ret
  exact ⟨by rw [HN.out];rfl,HL.out⟩
 have nh5:¬ I < 4:=by omega
 have t1:=i64_quo4 I h5
 have t2:=i64_rem4 I h5
 by_cases h6:I ≤ 64
 rotate_left
 ·have HN:Hid (mayG G S I J = false):=mayG_no fun h => by omega
  have nh6:64 < I:=by omega
  go_wp2_with fail
  go_ret
  exact ⟨by rw [HN.out];rfl,HL.out⟩
 have nh6:¬ 64 < I:=by omega
 by_cases h7:I % 4 = 0
 rotate_left
 ·have HN:Hid (mayG G S I J = false):=mayG_no fun h => by omega
  have q7:(I % 4 != 0) = true:=by simpa using h7
  go_wp2_with fail
  go_ret
  exact ⟨by rw [HN.out];rfl,HL.out⟩
 have q7:(I % 4 != 0) = false:=by simpa using h7
 by_cases h8:40 ≤ J
 rotate_left
 ·have HN:Hid (mayG G S I J = false):=mayG_no fun h => by omega
  have nh8:J < 40:=by omega
  go_wp2_with fail
  go_ret
  exact ⟨by rw [HN.out];rfl,HL.out⟩
 have nh8:¬ J < 40:=by omega
 by_cases h9:J ≤ 256
 rotate_left
 ·have HN:Hid (mayG G S I J = false):=mayG_no fun h => by omega
  have nh9:256 < J:=by omega
  go_wp2_with fail
  go_ret
  exact ⟨by rw [HN.out];rfl,HL.out⟩
 have nh9:¬ 256 < J:=by omega
 obtain ⟨g0,g1⟩:=GS_bd h1 h2 h3 h4
 have w1:IntKind.i64.wrap (G * S) = G * S:=IntWalk.i64_in _ (by omega)
 by_cases h10:3 + I / 4 ≤ S
 rotate_left
 ·have HN:Hid (mayG G S I J = false):=mayG_no fun h => by omega
  have n10:S < 2 + I / 4 + 1:=by omega
  have n11:¬ 3 + I / 4 ≤ S:=by omega
  go_wp2_with fail
  go_ret
  exact ⟨by rw [HN.out];rfl,HL.out⟩
 have n10:¬ S < 2 + I / 4 + 1:=by omega
 have HY:Hid (mayG G S I J = decide (2 + J + G * S ≤ 2048)):=by
  show _ = _
  rw [Bool.eq_iff_iff,mayG_iff,decide_eq_true_eq]
  exact ⟨fun h => h.2.2.2.2.2.2.2.2.2.2,fun h => ⟨h1,h2,h3,h4,h5,h6,h7,h8,h9,h10,h⟩⟩
 go_wp2_with fail
 go_ret
 exact ⟨by rw [HY.out];rfl,HL.out⟩
def Cs (f:Nat → List Value):Nat → List Value
 | 0 => []
 | k + 1 => Cs f k ++ f k
theorem Cs_succ (f:Nat → List Value) (n:Nat):Cs f (n + 1) = Cs f n ++ f n:=rfl
theorem Cs_length {f:Nat → List Value} {m:Nat} (hf:∀ i,(f i).length = m) (n:Nat):(Cs f n).length = n * m:=by
 induction n with
 | zero => simp [Cs]
 | succ n ih => rw [Cs,List.length_append,ih,hf,Nat.succ_mul]
theorem Cs_get {f:Nat → List Value} {m:Nat} (hf:∀ i,(f i).length = m) {n i j:Nat} (hi:i < n) (hj:j < m):(Cs f n)[i * m + j]? = (f i)[j]?:=by
 induction n with
 | zero => omega
 | succ n ih =>
  rw [Cs]
  by_cases h:i < n
  ·rw [List.getElem?_append_left,ih h]
   rw [Cs_length hf]
   have:(i + 1) * m ≤ n * m:=Nat.mul_le_mul_right m h
   rw [Nat.succ_mul] at this
   omega
  ·obtain rfl:i = n:=by omega
   rw [List.getElem?_append_right (by rw [Cs_length hf];omega),Cs_length hf]
   congr 1;omega
theorem Cs_congr {f g:Nat → List Value} {n:Nat} (h:∀ i,i < n → f i = g i):Cs f n = Cs g n:=by
 induction n with
 | zero => rfl
 | succ n ih => rw [Cs,Cs,ih fun i hi => h i (by omega),h n (by omega)]
theorem Cs_cat (f:Nat → List Value) (k m:Nat):Cs f k ++ Cs (fun i => f (k + i)) m = Cs f (k + m):=by
 induction m with
 | zero => simp [Cs]
 | succ m ih => show _ ++ (_ ++ _) = Cs f (k + m) ++ _;rw [← List.append_assoc,ih];rfl
def RSeg (w:World) (b off m n:Nat) (f:Nat → List Value):Prop:=∀ i,i < n → ∀ j v,(f i)[j]? = some v → w.cell? ⟨b,off + i * m + j,none⟩ = some v
def RRow (w:World) (a:Option Addr) (m n:Nat) (f:Nat → List Value):Prop:=n = 0 ∨ ∃ b off,a = some ⟨b,off,none⟩ ∧ RSeg w b off m n f
theorem RSeg.range {w:World} {b off m n:Nat} {f:Nat → List Value} (h:RSeg w b off m n f) (i:Nat) (hi:i < n):w.rangeAt b (off + i * m) (f i):=fun j v hv => h i hi j v hv
theorem RSeg.below {w w':World} {b off m n:Nat} {f:Nat → List Value} (h:RSeg w b off m n f) {B:Nat} (hb:Below B w w') (hB:b < B):RSeg w' b off m n f :=
 fun i hi j v hv => (hb.cell (p:=⟨b,off + i * m + j,none⟩) hB).trans (h i hi j v hv)
theorem RSeg.lt {w:World} {b off m n:Nat} {f:Nat → List Value} (h:RSeg w b off m n f) (hn:0 < n) (hf:f 0 ≠ []):b < w.heap.size:=by
 cases e:f 0 with
 | nil => exact absurd e hf
 | cons x xs => exact World.block_lt_of_cell? w _ (h 0 hn 0 x (by rw [e];rfl))
theorem RRow.below {w w':World} {a:Option Addr} {m n:Nat} {f:Nat → List Value} (h:RRow w a m n f) (hf:f 0 ≠ []) (hb:Below w.heap.size w w'):RRow w' a m n f:=by
 by_cases h0:n = 0
 ·exact .inl h0
 rcases h with h | ⟨b,off,rfl,h⟩
 ·exact .inl h
 ·exact .inr ⟨b,off,rfl,h.below hb (h.lt (by omega) hf)⟩
def RMine (w:World) (base:Nat) (e:TypeId) (m:Nat) (v:Value) (n:Nat) (f:Nat → List Value):Prop:=w.ownsRow base e m v n (Cs f n)
section
variable {w w':World} {base:Nat} {e:TypeId} {m:Nat} {v:Value} {n:Nat} {f:Nat → List Value}
theorem RMine.nil (w:World) (base:Nat) (e:TypeId) (m:Nat) (f:Nat → List Value):RMine w base e m (.slice none 0 0) 0 f:=World.ownsRow_nil w base e m
theorem RMine.below (h:RMine w base e m v n f) (hb:Below w.heap.size w w'):RMine w' base e m v n f:=World.ownsRow.kept h (grown_below (row:=none) hb) (Classical.em _)
theorem RMine.alloc (h:RMine w base e m v n f) (o:Obj):RMine (w.alloc o) base e m v n f:=World.ownsRow.alloc h o
theorem RMine.kept {row:Option Nat} (h:RMine w base e m v n f) (hg:w.grownBy w' row) (hne:v.ownBlock = none ∨ v.ownBlock ≠ row):RMine w' base e m v n f:=World.ownsRow.kept h hg hne
theorem RMine.low {base':Nat} (h:RMine w base e m v n f) (hb:base' ≤ base):RMine w base' e m v n f:=by
 refine ⟨h.1,?_⟩
 rcases h.2 with h' | ⟨g',cap',cur,hv,hbb,hr⟩
 ·exact .inl h'
 ·exact .inr ⟨g',cap',cur,hv,by omega,hr⟩
theorem RMine.form (h:RMine w base e m v n f):∃ a cap,v = .slice a n cap:=by
 rcases h.2 with ⟨rfl,rfl⟩ | ⟨g,cap,cur,rfl,_⟩
 ·exact ⟨none,0,rfl⟩
 ·exact ⟨_,cap,rfl⟩
theorem RMine.form' (h:RMine w base e m v n f) (hn:0 < n):∃ g cap,v = .slice (some ⟨g,0,none⟩) n cap ∧ base ≤ g ∧ g < w.heap.size ∧ n ≤ cap ∧ cap ≤ maxLen:=by
 rcases h.2 with ⟨_,h0⟩ | ⟨g,cap,cur,hv,hb,hg,hn,hc,_⟩
 ·omega
 ·exact ⟨g,cap,hv,hb,(Array.getElem?_eq_some_iff.1 hg).1,hn,hc⟩
theorem RMine.congr {g:Nat → List Value} (h:RMine w base e m v n f) (he:∀ i,i < n → f i = g i):RMine w base e m v n g:=by
 unfold RMine;rw [← Cs_congr he];exact h
theorem RMine.row {a:Option Addr} {cap:Nat} (h:RMine w base e m (.slice a n cap) n f) (hf:∀ i,(f i).length = m):RRow w a m n f:=by
 rcases h.2 with ⟨hv,h0⟩ | ⟨g,cap',cur,hv,hb,hg,hn,hc,hs,ht⟩
 ·exact .inl h0
 ·injection hv with h1 h2 h3
  subst h1
  refine .inr ⟨g,0,rfl,fun i hi j v hj => ?_⟩
  have hjm:j < m:=by have:=(List.getElem?_eq_some_iff.1 hj).1;rwa [hf] at this
  rw [← Cs_get hf hi hjm,← ht] at hj
  have hlt:=(List.getElem?_eq_some_iff.1 hj).1
  rw [List.getElem?_take_of_lt (by rw [List.length_take] at hlt;omega)] at hj
  rw [Nat.zero_add]
  exact cell_of_heap hg (by simpa using hj)
theorem RMine.seg {g cap:Nat} (h:RMine w base e m (.slice (some ⟨g,0,none⟩) n cap) n f) (hf:∀ i,(f i).length = m):RSeg w g 0 m n f:=by
 rcases h.row hf with h0 | ⟨b,off,he,hs⟩
 ·intro i hi;omega
 ·injection he with he;injection he with h1 h2;subst h1 h2;exact hs
theorem RMine.append {k:Nat} {news:List Value} (h:w.ownsRow base e m v (n + k) (Cs f n ++ news)) (hk:news = Cs (fun i => f (n + i)) k):RMine w base e m v (n + k) f:=by
 unfold RMine;rw [← Cs_cat,← hk];exact h
end
theorem cells_news (w:World) (vs:List Value) (T:TypeId):∀ (j:Nat) (u:Value),vs[j]? = some u → (w.alloc (.cells vs.toArray T)).cell? ((⟨w.heap.size,0,none⟩:Addr).add j) = some u:=by
 intro j u hj
 rw [addr_add,Nat.zero_add]
 exact cell_of_heap (heap_alloc_new w _) (by simpa using hj)
structure RArr (W:World) (g:Nat) (T:TypeId) (m n:Nat) (f:Nat → List Value):Prop where
 blk:∃ cs,W.heap[g]? = some (.cells cs T (0,0)) ∧ cs.size = n * m
 seg:RSeg W g 0 m n f
section
variable {W W':World} {g:Nat} {T:TypeId} {m n:Nat} {f:Nat → List Value}
theorem RArr.lt (h:RArr W g T m n f):g < W.heap.size:=by obtain ⟨cs,h,_⟩:=h.blk;exact (Array.getElem?_eq_some_iff.1 h).1
theorem RArr.of_block (h:RArr W g T m n f) (e:W'.heap[g]? = W.heap[g]?):RArr W' g T m n f :=
 ⟨by obtain ⟨cs,h1,h2⟩:=h.blk;exact ⟨cs,e.trans h1,h2⟩,fun i hi j v hv => (World.cell?_of_block (w:=W) e).trans (h.seg i hi j v hv)⟩
theorem RArr.below (h:RArr W g T m n f) (hb:Below W.heap.size W W'):RArr W' g T m n f:=h.of_block (hb.block g h.lt)
theorem RArr.grown (h:RArr W g T m n f) {row:Option Nat} (hb:W.grownBy W' row) (hg:some g ≠ row):RArr W' g T m n f:=h.of_block (hb.block g h.lt hg)
theorem RArr.only (h:RArr W g T m n f) {b:Nat} (hb:Only b W W') (hg:g ≠ b):RArr W' g T m n f:=h.of_block (hb.block g hg)
theorem RArr.alloc (h:RArr W g T m n f) (o:Obj):RArr (W.alloc o) g T m n f:=h.below ((Below.refl _ _).alloc (Nat.le_refl _) o)
theorem RArr.congr {f':Nat → List Value} (h:RArr W g T m n f) (e:∀ i,i < n → f i = f' i):RArr W g T m n f':=⟨h.blk,fun i hi j v hv => h.seg i hi j v (by rw [e i hi];exact hv)⟩
theorem RArr.there (h:RArr W g T m n f) {k:Nat} (hk:k < n):W.there g (k * m) m:=fun j hj => by
 obtain ⟨cs,h1,h2⟩:=h.blk
 have hlt:k * m + j < cs.size:=by
  rw [h2]
  have:(k + 1) * m ≤ n * m:=Nat.mul_le_mul_right m hk
  rw [Nat.succ_mul] at this
  omega
 exact ⟨by rw [cell_of_heap h1 (Array.getElem?_eq_getElem hlt)];rfl,soft_of_heap h1 _⟩
theorem RArr.set (h:RArr W g T m n f) {k:Nat} (hk:k < n) {vs:List Value} (hv:vs.length = m) (hf:∀ i,(f i).length = m):RArr (W.setCells g (k * m) vs) g T m n (fun j => if j = k then vs else f j) ∧ Only g W (W.setCells g (k * m) vs):=by
 have ho:=only_setCells g vs (k * m) W
 have hth:=h.there hk
 obtain ⟨cs,h1,h2⟩:=h.blk
 obtain ⟨c',hc1,hc2⟩:=ho.shape _ _ _ h1
 refine ⟨⟨⟨c',hc2,by rw [hc1,h2]⟩,fun i hi j v hj => ?_⟩,ho⟩
 rw [Nat.zero_add]
 by_cases e:i = k
 ·subst e
  rw [if_pos rfl] at hj
  exact World.rangeAt_setCells_same W g (i * m) vs (by rw [hv];exact hth) j v hj
 ·rw [if_neg e] at hj
  have hr:W.rangeAt g (i * m) (f i):=by have:=h.seg.range i hi;rwa [Nat.zero_add] at this
  refine World.rangeAt_setCells_apart hr g (k * m) vs ?_ j v hj
  rw [hf,hv]
  rcases Nat.lt_or_gt_of_ne e with h' | h'
  ·have:(i + 1) * m ≤ k * m:=Nat.mul_le_mul_right m h'
   rw [Nat.succ_mul] at this;omega
  ·have:(k + 1) * m ≤ i * m:=Nat.mul_le_mul_right m h'
   rw [Nat.succ_mul] at this;omega
theorem RArr.mine (h:RArr W g T m n f) (hf:∀ i,(f i).length = m) {base:Nat} (hb:base ≤ g) (hn:n ≤ maxLen):RMine W base T m (.slice (some ⟨g,0,none⟩) n n) n f:=by
 obtain ⟨cs,h1,h2⟩:=h.blk
 refine ⟨Cs_length hf n,.inr ⟨g,n,cs,rfl,hb,h1,Nat.le_refl _,hn,h2,?_⟩⟩
 rw [List.take_of_length_le (by rw [Array.length_toList,h2];exact Nat.le_refl _)]
 apply List.ext_getElem?
 intro p
 by_cases hp:p < n * m
 ·have hm:0 < m:=by
   rcases Nat.eq_zero_or_pos m with e | e
   ·rw [e,Nat.mul_zero] at hp;omega
   ·exact e
  have hq:p / m < n:=(Nat.div_lt_iff_lt_mul hm).2 hp
  have hr:p % m < m:=Nat.mod_lt _ hm
  have he:p / m * m + p % m = p:=by rw [Nat.mul_comm];exact Nat.div_add_mod p m
  obtain ⟨v,hv⟩:∃ v,(f (p / m))[p % m]? = some v:=⟨_,List.getElem?_eq_getElem (by rw [hf];exact hr)⟩
  have h3:=h.seg (p / m) hq (p % m) v hv
  rw [Nat.zero_add,he] at h3
  have h4:=Cs_get hf hq hr
  rw [he] at h4
  rw [h4,hv,Array.getElem?_toList,Array.getElem?_eq_getElem (by rw [h2];exact hp)]
  have h5:=cell_of_heap h1 (Array.getElem?_eq_getElem (show p < cs.size by rw [h2];exact hp))
  rw [h3] at h5
  exact h5.symm
 ·rw [List.getElem?_eq_none (by rw [Array.length_toList,h2];omega),List.getElem?_eq_none (by rw [Cs_length hf];omega)]
theorem RArr.made (w:World) (z:Array Value) (hz:z.size = m) (hm:0 < m) (n:Nat) (T:TypeId):RArr (w.alloc (.cells (madeCells z (n * m)) T)) w.heap.size T m n (fun _ => z.toList) :=
 ⟨⟨_,heap_alloc_new w _,size_madeCells _ _⟩,fun i hi j v hj => by
  rw [Nat.zero_add]
  have hj':j < m:=by have:=(List.getElem?_eq_some_iff.1 hj).1;rw [Array.length_toList,hz] at this;exact this
  have hlt:i * m + j < n * m:=by
   have:(i + 1) * m ≤ n * m:=Nat.mul_le_mul_right m hi
   rw [Nat.succ_mul] at this;omega
  refine cell_of_heap (heap_alloc_new w _) ?_
  have hmod:(i * m + j) % m = j:=by rw [Nat.mul_comm,Nat.mul_add_mod,Nat.mod_eq_of_lt hj']
  have hz':z[j]? = some v:=by rw [← hj,Array.getElem?_toList]
  simp only [madeCells,Array.getElem?_map,Array.getElem?_range,hlt,if_true,Option.map_some,hz,hmod]
  rw [getElem!_def,hz']⟩
theorem run_mkrow {P:Program} (t e:TypeId) (z:Value) (m bytes:Nat) (ht:P.underlying t = some (.slice e)) (hinfo:(P.info? e).map (fun i => (i.zero,i.size,i.bytes)) = some (some z,m,bytes))
  (kl kc:IntKind) (n:Nat) (hbytes:bytes * n ≤ 281474976710656) (h63:n ≤ 9223372036854775807) (w:World) :
  (Instr.makeSlice t (.int kl (n:Int)) (.int kc (n:Int))).run P w = .ok (.slice (some ⟨w.heap.size,0,none⟩) n n) (w.alloc (.cells (madeCells z.cells (n * m)) e)):=by
 obtain ⟨i,hi,hzz⟩:=Option.map_eq_some_iff.1 hinfo
 simp only [Prod.mk.injEq] at hzz
 obtain ⟨hz,hs,hb⟩:=hzz
 have hb':(i.bytes:Int) * (n:Int) ≤ 281474976710656:=by
  have h:((i.bytes * n:Nat):Int) ≤ 281474976710656:=by rw [hb];omega
  rwa [Int.natCast_mul] at h
 have hr:=run_make (P:=P) w t e i z ht hi hz kl kc n n (by omega) (Int.le_refl _) hb' (by omega)
 simp only [Int.toNat_natCast,hs] at hr
 exact hr
end
section
variable {P:Program} {F:Fence} {nF:Nat} {ops:Array Oper} {rest:List Oper} {o:Oper} {a:Act} {w:World} {Q:Exit → Act → World → Prop}
theorem wpListIn_value (hw:Region.wanted o (yielded ops a.tmps) = true) (hc:∀ c,o.op ≠ .call c) (hd:∀ c,o.op ≠ .defer c) {v:Value} {w':World} (hr:(execOp a.eval o).run P w = .ok (.value v) w')
  (h:wpListIn F nF P ops Q rest (a.put o.dst v) w'):wpListIn F nF P ops Q (o :: rest) a w:=by
 refine wpListIn_step fun K hK => ?_
 simp only [hw,if_true]
 unfold Oper.wpIn
 refine ⟨?_,?_⟩
 ·intro f hf
  unfold Oper.about at hf
  split at hf
  ·rename_i c ho;exact absurd ho (hc c)
  ·cases hf
 ·rw [Oper.semAt_plain F _ _ hd,hr]
  exact hK _ _ h
theorem wpListIn_skipped (hw:Region.wanted o (yielded ops a.tmps) = true) (hc:∀ c,o.op ≠ .call c) (hd:∀ c,o.op ≠ .defer c) {w':World} (hr:(execOp a.eval o).run P w = .ok .skip w')
  (h:wpListIn F nF P ops Q rest (a.put o.dst undef) w'):wpListIn F nF P ops Q (o :: rest) a w:=by
 refine wpListIn_step fun K hK => ?_
 simp only [hw,if_true]
 unfold Oper.wpIn
 refine ⟨?_,?_⟩
 ·intro f hf
  unfold Oper.about at hf
  split at hf
  ·rename_i c ho;exact absurd ho (hc c)
  ·cases hf
 ·rw [Oper.semAt_plain F _ _ hd,hr]
  exact hK _ _ h
theorem wpIn_loadAt (hw:Region.wanted o (yielded ops a.tmps) = true) (T:TypeId) (p:Operand) (ho:o.op = .load T p)
  (g:Nat) (cs:Array Value) (d:TypeDesc) (hx:a.eval p = .pointer (some ⟨g,0,none⟩)) (hI:At w g T cs) (hu:P.underlying T = some d) (hd:(match d with | .struct _ | .array _ _ => true | _ => false) = true) (hi:(P.info? T).map (·.size) = some cs.size)
  (h:wpListIn F nF P ops Q rest (a.put o.dst (.agg cs)) w):wpListIn F nF P ops Q (o :: rest) a w:=by
 refine wpListIn_value hw (by rw [ho];intro c h;cases h) (by rw [ho];intro c h;cases h) ?_ h
 unfold execOp
 simp only [ho,hx,Instr.loadAt,Instr.sureAddr,Sem.run_bind,Sem.run_pure,Result.andThen_ok,run_loadVar_row w g T T cs (0,0) d hI hu hd hi]
theorem wpIn_storeAt (hw:Region.wanted o (yielded ops a.tmps) = true) (T:TypeId) (p q:Operand) (ho:o.op = .store T p q)
  (g:Nat) (cs old:Array Value) (hx:a.eval p = .pointer (some ⟨g,0,none⟩)) (hy:a.eval q = .agg cs) (hI:At w g T old) (hi:(P.info? T).map (·.size) = some cs.size) (hs:old.size = cs.size) (h1:cs.all (·.oneCell') = true)
  (h:∀ w',At w' g T cs → Only g w w' → wpListIn F nF P ops Q rest (a.put o.dst undef) w'):wpListIn F nF P ops Q (o :: rest) a w:=by
 refine wpListIn_skipped hw (by rw [ho];intro c h;cases h) (by rw [ho];intro c h;cases h) (w':=w.setRow g cs) ?_ (h _ (setRow_heap w g _ cs _ _ hI) (only_setRow w g _ hI hs.symm))
 unfold execOp
 simp only [ho,hx,hy,Instr.storeAt,Instr.sureAddr,Sem.run_bind,Sem.run_pure,Result.andThen_ok,run_storeVar_row w g T T old cs hI hi hs h1]
end
end Go.Proofs.YtphamecphmbipaaGreatDoor

namespace Go.Proofs.YtphamecphmbipaaGreatDoor
open Go.RowKit Go.Shelf
set_option linter.unusedVariables false
attribute [local go_sem] Oper.semAt_some
abbrev pcells (kind group from' size place:Int):Array Value:=#[.int .u8 kind,.int .i64 group,.int .i64 from',.int .i64 size,.int .i64 place]
def ptF (S t J:Int) (k:Nat):Array Value :=
 if k = 0 then pcells 1 0 0 1 0 else if k = 1 then pcells 2 0 1 1 0 else if k = 2 then pcells 3 0 2 J 0 else
 if (k - 3) % 4 = 0 then pcells 4 ((k - 3) / 4:Nat) (2 + J + ((k - 3) / 4:Nat) * S) 1 0 else
 if (k - 3) % 4 = 1 then pcells 5 ((k - 3) / 4:Nat) (2 + J + ((k - 3) / 4:Nat) * S + 1) 1 1 else
 if (k - 3) % 4 = 2 then pcells 6 ((k - 3) / 4:Nat) (2 + J + ((k - 3) / 4:Nat) * S + 2) t 2 else
 pcells 7 ((k - 3) / 4:Nat) (2 + J + ((k - 3) / 4:Nat) * S + 2 + t) (S - 2 - t) (2 + t)
theorem ptF_at (S t J:Int) (γ:Nat) {i:Nat} (hi:i < 4):ptF S t J (3 + 4 * γ + i) = if i = 0 then pcells 4 γ (2 + J + (γ:Int) * S) 1 0 else if i = 1 then pcells 5 γ (2 + J + (γ:Int) * S + 1) 1 1 else if i = 2 then pcells 6 γ (2 + J + (γ:Int) * S + 2) t 2 else pcells 7 γ (2 + J + (γ:Int) * S + 2 + t) (S - 2 - t) (2 + t):=by
 have e1:(3 + 4 * γ + i - 3) % 4 = i:=by omega
 have e2:(3 + 4 * γ + i - 3) / 4 = γ:=by omega
 unfold ptF
 rw [if_neg (by omega),if_neg (by omega),if_neg (by omega),e1,e2]
def PtNeed (B:Nat) (G S I J:Int):Nat → World → Prop:=fun _ W => At W B 23 (gcells G S I J)
theorem zero_part (W:World):(zeroValue 117).run Tryz.prog W = .ok (.agg (pcells 0 0 0 0 0)) W:=by kernel_rfl
theorem idx3_0 (J:Int) (W:World):(Instr.index 164 (.agg #[.int .u8 1,.int .i64 0,.int .i64 0,.int .i64 1,.int .i64 0,.int .u8 2,.int .i64 0,.int .i64 1,.int .i64 1,.int .i64 0,.int .u8 3,.int .i64 0,.int .i64 2,.int .i64 J,.int .i64 0]) (.int .i64 0)).run Tryz.prog W = .ok (.agg (pcells 1 0 0 1 0)) W:=by kernel_rfl
theorem idx3_1 (J:Int) (W:World):(Instr.index 164 (.agg #[.int .u8 1,.int .i64 0,.int .i64 0,.int .i64 1,.int .i64 0,.int .u8 2,.int .i64 0,.int .i64 1,.int .i64 1,.int .i64 0,.int .u8 3,.int .i64 0,.int .i64 2,.int .i64 J,.int .i64 0]) (.int .i64 1)).run Tryz.prog W = .ok (.agg (pcells 2 0 1 1 0)) W:=by kernel_rfl
theorem idx3_2 (J:Int) (W:World):(Instr.index 164 (.agg #[.int .u8 1,.int .i64 0,.int .i64 0,.int .i64 1,.int .i64 0,.int .u8 2,.int .i64 0,.int .i64 1,.int .i64 1,.int .i64 0,.int .u8 3,.int .i64 0,.int .i64 2,.int .i64 J,.int .i64 0]) (.int .i64 2)).run Tryz.prog W = .ok (.agg (pcells 3 0 2 J 0)) W:=by kernel_rfl
theorem idx4_0 (g a b c d t s p:Int) (W:World):(Instr.index 165 (.agg #[.int .u8 4,.int .i64 g,.int .i64 a,.int .i64 1,.int .i64 0,.int .u8 5,.int .i64 g,.int .i64 b,.int .i64 1,.int .i64 1,.int .u8 6,.int .i64 g,.int .i64 c,.int .i64 t,.int .i64 2,.int .u8 7,.int .i64 g,.int .i64 d,.int .i64 s,.int .i64 p]) (.int .i64 0)).run Tryz.prog W = .ok (.agg (pcells 4 g a 1 0)) W:=by kernel_rfl
theorem idx4_1 (g a b c d t s p:Int) (W:World):(Instr.index 165 (.agg #[.int .u8 4,.int .i64 g,.int .i64 a,.int .i64 1,.int .i64 0,.int .u8 5,.int .i64 g,.int .i64 b,.int .i64 1,.int .i64 1,.int .u8 6,.int .i64 g,.int .i64 c,.int .i64 t,.int .i64 2,.int .u8 7,.int .i64 g,.int .i64 d,.int .i64 s,.int .i64 p]) (.int .i64 1)).run Tryz.prog W = .ok (.agg (pcells 5 g b 1 1)) W:=by kernel_rfl
theorem idx4_2 (g a b c d t s p:Int) (W:World):(Instr.index 165 (.agg #[.int .u8 4,.int .i64 g,.int .i64 a,.int .i64 1,.int .i64 0,.int .u8 5,.int .i64 g,.int .i64 b,.int .i64 1,.int .i64 1,.int .u8 6,.int .i64 g,.int .i64 c,.int .i64 t,.int .i64 2,.int .u8 7,.int .i64 g,.int .i64 d,.int .i64 s,.int .i64 p]) (.int .i64 2)).run Tryz.prog W = .ok (.agg (pcells 6 g c t 2)) W:=by kernel_rfl
theorem idx4_3 (g a b c d t s p:Int) (W:World):(Instr.index 165 (.agg #[.int .u8 4,.int .i64 g,.int .i64 a,.int .i64 1,.int .i64 0,.int .u8 5,.int .i64 g,.int .i64 b,.int .i64 1,.int .i64 1,.int .u8 6,.int .i64 g,.int .i64 c,.int .i64 t,.int .i64 2,.int .u8 7,.int .i64 g,.int .i64 d,.int .i64 s,.int .i64 p]) (.int .i64 3)).run Tryz.prog W = .ok (.agg (pcells 7 g d s p)) W:=by kernel_rfl
theorem info_part:(Tryz.prog.info? 117).map (·.size) = some 5:=by kernel_rfl
theorem info_parts3:(Tryz.prog.info? 164).map (·.size) = some 15:=by kernel_rfl
theorem info_parts4:(Tryz.prog.info? 165).map (·.size) = some 20:=by kernel_rfl
abbrev h15 (J:Int):Array Value:=#[.int .u8 1,.int .i64 0,.int .i64 0,.int .i64 1,.int .i64 0,.int .u8 2,.int .i64 0,.int .i64 1,.int .i64 1,.int .i64 0,.int .u8 3,.int .i64 0,.int .i64 2,.int .i64 J,.int .i64 0]
theorem all_h15 (J:Int):(h15 J).all (·.oneCell') = true:=by kernel_rfl
theorem all_p (a b c d e:Int):(pcells a b c d e).all (·.oneCell') = true:=by kernel_rfl
abbrev z15:Array Value:=#[.int .u8 0,.int .i64 0,.int .i64 0,.int .i64 0,.int .i64 0,.int .u8 0,.int .i64 0,.int .i64 0,.int .i64 0,.int .i64 0,.int .u8 0,.int .i64 0,.int .i64 0,.int .i64 0,.int .i64 0]
abbrev h20 (γ a b c d t s p:Int):Array Value:=#[.int .u8 4,.int .i64 γ,.int .i64 a,.int .i64 1,.int .i64 0,.int .u8 5,.int .i64 γ,.int .i64 b,.int .i64 1,.int .i64 1,.int .u8 6,.int .i64 γ,.int .i64 c,.int .i64 t,.int .i64 2,.int .u8 7,.int .i64 γ,.int .i64 d,.int .i64 s,.int .i64 p]
theorem all_h20 (γ a b c d t s p:Int):(h20 γ a b c d t s p).all (·.oneCell') = true:=by kernel_rfl
abbrev z20:Array Value:=#[.int .u8 0,.int .i64 0,.int .i64 0,.int .i64 0,.int .i64 0,.int .u8 0,.int .i64 0,.int .i64 0,.int .i64 0,.int .i64 0,.int .u8 0,.int .i64 0,.int .i64 0,.int .i64 0,.int .i64 0,.int .u8 0,.int .i64 0,.int .i64 0,.int .i64 0,.int .i64 0]
theorem zero_arr4 (W:World):(zeroValue 165).run Tryz.prog W = .ok (.agg z20) W:=by kernel_rfl
theorem zero_arr3 (W:World):(zeroValue 164).run Tryz.prog W = .ok (.agg z15) W:=by kernel_rfl
theorem storedP {w w':World} {o:Obj} (ho:Only w.heap.size (w.alloc o) w'):Below w.heap.size w w':=((Below.refl _ _).alloc (Nat.le_refl _) o).trans (ho.below (Nat.le_refl _))
set_option maxRecDepth 100000 in
set_option maxHeartbeats 2000000 in
theorem parts_iter (n:Nat) (hn:1 ≤ n) (B:Nat) (G S I J:Int) (hm:mayG G S I J = true) :
  IterIx Fence.wide n Tryz.prog 90 #[.pointer (some ⟨B,0,none⟩)] (fun k => #[.agg (ptF S (I / 4) J k)]) (3 + 4 * G.toNat) (fun _ => False) (PtNeed B G S I J):=by
 obtain ⟨h1,h2,h3,h4,h5,h6,h7,h8,h9,h10,h11⟩:=(mayG_iff G S I J).1 hm
 obtain ⟨g,rfl⟩:∃ g:Nat,G = (g:Int):=⟨G.toNat,by omega⟩
 rw [Int.toNat_natCast]
 intro l F Fx W hJo hJxo hY h0 hN
 have HY:=Lib.hid hY
 have HJO:=Lib.hid hJo
 clear hY hJo hJxo
 have hc0:W.cell? ⟨B,0,none⟩ = some (.int .i64 (g:Int)):=hN.cell (i:=0) rfl
 have hc1:W.cell? ⟨B,1,none⟩ = some (.int .i64 S):=hN.cell (i:=1) rfl
 have hc2:W.cell? ⟨B,2,none⟩ = some (.int .i64 I):=hN.cell (i:=2) rfl
 have hc3:W.cell? ⟨B,3,none⟩ = some (.int .i64 J):=hN.cell (i:=3) rfl
 have t1:=i64_quo4 I h5
 refine callsIn_of_wp Tryz.func90 rfl trivial ?_ rfl
 simp only [Tryz.ntmps90,List.size_toArray,List.length_cons,List.length_nil,Nat.reduceAdd,Nat.reduceSub,Array.replicate_succ,Array.replicate_zero,List.push_toArray,List.append_toArray,List.nil_append,List.cons_append]
 have HJB:Hid (∀ k (A A':World),F k A → Below A.heap.size A A' → F k A'):=fun k A A' h hb => HJO.out k A _ h ⟨none,grown_below hb,fun r e => by cases e⟩
 have hal3:=zero_arr3
 have hA0:=At.new W 164 z15
 gi_wp2_with (first | (refine wpIn_storeAt rfl 164 (.tmp 4) (.tmp 20) rfl W.heap.size (h15 J) z15 rfl rfl hA0 info_parts3 rfl (all_h15 J) ?_))
 intro w1 hA1 ho1
 have hN1:PtNeed B g S I J 0 w1:=At.below hN (storedP ho1) hN.lt
 have hF1:=HJB.out _ _ _ h0 (storedP ho1)
 clear hc0 hc1 hc2 hc3 hA0 hN h0 ho1
 gi_wp2_with (first | (refine wpIn_loadAt rfl 164 (.tmp 4) rfl W.heap.size (h15 J) _ rfl hA1 Tryz.underlying164 rfl info_parts3 ?_))
 clear hA1
 gi_loopw [22] (fun u wr => ∃ k:Nat,k ≤ 3 ∧ u = .int .i64 (k:Int) ∧ F k wr ∧ PtNeed B g S I J 0 wr) (fun u _ => 3 - (intOf u).toNat)
 case atStart => exact ⟨0,by omega,rfl,hF1,hN1⟩
 case round =>
  clear hF1 hN1
  obtain ⟨k,hk,rfl,hF,hnd⟩:=hrel
  by_cases hlt:k < 3
  ·have HPK:Hid (k = 0 ∧ ptF S (I / 4) J k = pcells 1 0 0 1 0 ∨ k = 1 ∧ ptF S (I / 4) J k = pcells 2 0 1 1 0 ∨ k = 2 ∧ ptF S (I / 4) J k = pcells 3 0 2 J 0):=by
    have:k = 0 ∨ k = 1 ∨ k = 2:=by omega
    rcases this with rfl | rfl | rfl
    ·exact .inl ⟨rfl,rfl⟩
    ·exact .inr (.inl ⟨rfl,rfl⟩)
    ·exact .inr (.inr ⟨rfl,rfl⟩)
   have hY1:=fun A h1 h2 => HY.out k A (by omega) h1 h2
   obtain ⟨cs,hcs⟩:∃ cs,ptF S (I / 4) J k = cs:=⟨_,rfl⟩
   rw [hcs] at hY1
   have HY1:=Lib.hid hY1
   have hix:∀ W,(Instr.index 164 (.agg (h15 J)) (.int .i64 (k:Int))).run Tryz.prog W = .ok (.agg cs) W:=fun W => by
    rcases HPK.out with ⟨rfl,e⟩ | ⟨rfl,e⟩ | ⟨rfl,e⟩
    ·rw [← hcs,e];exact idx3_0 J W
    ·rw [← hcs,e];exact idx3_1 J W
    ·rw [← hcs,e];exact idx3_2 J W
   have hcsz:cs.size = 5:=by rcases HPK.out with ⟨rfl,e⟩ | ⟨rfl,e⟩ | ⟨rfl,e⟩ <;> (rw [← hcs,e];rfl)
   have hc1:cs.all (·.oneCell') = true:=by rcases HPK.out with ⟨rfl,e⟩ | ⟨rfl,e⟩ | ⟨rfl,e⟩ <;> (rw [← hcs,e];exact all_p _ _ _ _ _)
   clear hcs HPK hY1
   have hinf:(Tryz.prog.info? 117).map (·.size) = some cs.size:=by rw [hcsz];exact info_part
   have hA:=At.new wr 117 (pcells 0 0 0 0 0)
   have hal:=zero_part
   have hs0:(pcells 0 0 0 0 0).size = cs.size:=by rw [hcsz];rfl
   have l3:(k:Int) < 3:=by omega
   have HFN:Hid (F k wr ∧ PtNeed B g S I J 0 wr):=⟨hF,hnd⟩
   clear hF hnd hcsz
   gi_wp2_with (first | (refine wpIn_storeAt rfl 117 (.tmp 6) (.tmp 24) rfl wr.heap.size cs (pcells 0 0 0 0 0) rfl rfl hA hinf hs0 hc1 ?_))
   intro w2 hA2 ho2
   have hN2:PtNeed B g S I J 0 w2:=At.below HFN.out.2 (storedP ho2) (At.lt HFN.out.2)
   have hF2:=HJB.out _ _ _ HFN.out.1 (storedP ho2)
   obtain ⟨fn,tmps,assign,body,hy,hR⟩:=HY1.out w2 hF2 hN2
   clear HFN hA ho2 hix HY1 hc1 hs0
   gi_wp2_with (first | (refine wpIn_loadAt rfl 117 (.tmp 6) rfl wr.heap.size cs _ rfl hA2 Tryz.underlying117 rfl hinf ?_))
   refine hR.mono ?_
   rintro e W3 (⟨rfl,hJ3,hN3⟩ | ⟨rfl,hJx3⟩)
   ·gi_wp2
    go_roundw
    case rel => exact ⟨k + 1,by omega,int_eq (by omega),hJ3,hN3⟩
    case measure => simp [intOf];omega
   ·gi_wp2
    refine bodyPost_ret (results_none rfl _ _ _) rfl ?_
    exact ⟨⟨_,rfl⟩,.inr ⟨k,by omega,hJx3⟩⟩
  ·obtain rfl:k = 3:=by omega
   have hc0:wr.cell? ⟨B,0,none⟩ = some (.int .i64 (g:Int)):=hnd.cell (i:=0) rfl
   gi_wp2
   clear hc0
   gi_loopw [32] (fun u wr => ∃ γ:Nat,γ ≤ g ∧ u = .int .i64 (γ:Int) ∧ F (3 + 4 * γ) wr ∧ PtNeed B g S I J 0 wr) (fun u _ => g - (intOf u).toNat)
   case atStart => exact ⟨0,by omega,rfl,hF,hnd⟩
   case round =>
    clear hF hnd
    obtain ⟨γ,hγ,rfl,hF,hnd⟩:=hrel
    by_cases hlt2:γ < g
    ·have hc1:wr.cell? ⟨B,1,none⟩ = some (.int .i64 S):=hnd.cell (i:=1) rfl
     have hc3:wr.cell? ⟨B,3,none⟩ = some (.int .i64 J):=hnd.cell (i:=3) rfl
     have hgs:0 ≤ (γ:Int) * S ∧ (γ:Int) * S ≤ 2048:=by
      refine ⟨Int.mul_nonneg (by omega) (by omega),?_⟩
      have:=Int.mul_le_mul (show (γ:Int) ≤ 4 by omega) h4 (by omega) (by omega:(0:Int) ≤ 4)
      omega
     obtain ⟨hgs0,hgs1⟩:=hgs
     have l4:(γ:Int) < (g:Int):=by omega
     have hal4:=zero_arr4
     have HFN:Hid (F (3 + 4 * γ) wr ∧ PtNeed B g S I J 0 wr):=⟨hF,hnd⟩
     have hA0:=At.new wr 165 z20
     have HT4:Hid (0 ≤ I / 4 ∧ I / 4 ≤ 16):=by show _ ∧ _;omega
     have HPT:=Lib.hid (fun i hi => ptF_at S (I / 4) J γ (i:=i) hi)
     have HHT:Hid (3 + I / 4 ≤ S):=h10
     clear hF hnd t1 h10
     generalize I / 4 = t at *
     obtain ⟨ht0,ht1⟩:=HT4.out
     have ht2:=HHT.out
     have e1:IntKind.i64.wrap ((γ:Int) * S) = (γ:Int) * S:=IntWalk.i64_in _ (by omega)
     have e2:IntKind.i64.wrap (2 + J + (γ:Int) * S) = 2 + J + (γ:Int) * S:=IntWalk.i64_in _ (by omega)
     have e3:IntKind.i64.wrap (2 + J + (γ:Int) * S + 1) = 2 + J + (γ:Int) * S + 1:=IntWalk.i64_in _ (by omega)
     have e4:IntKind.i64.wrap (2 + J + (γ:Int) * S + 2) = 2 + J + (γ:Int) * S + 2:=IntWalk.i64_in _ (by omega)
     have e5:IntKind.i64.wrap (2 + J + (γ:Int) * S + 2 + t) = 2 + J + (γ:Int) * S + 2 + t:=IntWalk.i64_in _ (by omega)
     have e6:IntKind.i64.wrap (S - 2 - t) = S - 2 - t:=IntWalk.i64_in _ (by omega)
     have e7:IntKind.i64.wrap (2 + t) = 2 + t:=IntWalk.i64_in _ (by omega)
     gi_wp2_with (first | (refine wpIn_storeAt rfl 165 (.tmp 9) (.tmp 68) rfl wr.heap.size (h20 γ (2 + J + (γ:Int) * S) (2 + J + (γ:Int) * S + 1) (2 + J + (γ:Int) * S + 2) (2 + J + (γ:Int) * S + 2 + t) t (S - 2 - t) (2 + t)) z20 rfl rfl hA0 info_parts4 rfl (all_h20 _ _ _ _ _ _ _ _) ?_))
     intro w4 hA4 ho4
     have hN4:PtNeed B g S I J 0 w4:=At.below HFN.out.2 (storedP ho4) (At.lt HFN.out.2)
     have hF4:=HJB.out _ _ _ HFN.out.1 (storedP ho4)
     clear HFN hA0 ho4 hc1 hc3 e1 e2 e3 e4 e5 e6 e7
     obtain ⟨p1,hp1⟩:∃ p,2 + J + (γ:Int) * S = p:=⟨_,rfl⟩
     have HPT2:Hid (∀ i:Nat,i < 4 → ptF S t J (3 + 4 * γ + i) = if i = 0 then pcells 4 γ p1 1 0 else if i = 1 then pcells 5 γ (p1 + 1) 1 1 else if i = 2 then pcells 6 γ (p1 + 2) t 2 else pcells 7 γ (p1 + 2 + t) (S - 2 - t) (2 + t)):=fun i hi => by rw [HPT.out i hi,hp1]
     rw [hp1] at hA4 ⊢
     clear HPT hp1 hgs0 hgs1
     gi_wp2_with (first | (refine wpIn_loadAt rfl 165 (.tmp 9) rfl wr.heap.size (h20 γ p1 (p1 + 1) (p1 + 2) (p1 + 2 + t) t (S - 2 - t) (2 + t)) _ rfl hA4 Tryz.underlying165 rfl info_parts4 ?_))
     clear hA4 hal4
     gi_loopw [70] (fun u wr => ∃ i:Nat,i ≤ 4 ∧ u = .int .i64 (i:Int) ∧ F (3 + 4 * γ + i) wr ∧ PtNeed B g S I J 0 wr) (fun u _ => 4 - (intOf u).toNat)
     case atStart => exact ⟨0,by omega,rfl,hF4,hN4⟩
     case round =>
      clear hF4 hN4
      obtain ⟨i,hi,rfl,hF,hnd⟩:=hrel
      by_cases hlt3:i < 4
      ·have HPK:Hid (i = 0 ∧ ptF S t J (3 + 4 * γ + i) = pcells 4 γ p1 1 0 ∨ i = 1 ∧ ptF S t J (3 + 4 * γ + i) = pcells 5 γ (p1 + 1) 1 1 ∨ i = 2 ∧ ptF S t J (3 + 4 * γ + i) = pcells 6 γ (p1 + 2) t 2 ∨ i = 3 ∧ ptF S t J (3 + 4 * γ + i) = pcells 7 γ (p1 + 2 + t) (S - 2 - t) (2 + t)):=by
        have:i = 0 ∨ i = 1 ∨ i = 2 ∨ i = 3:=by omega
        rcases this with rfl | rfl | rfl | rfl
        ·exact .inl ⟨rfl,HPT2.out 0 (by omega)⟩
        ·exact .inr (.inl ⟨rfl,HPT2.out 1 (by omega)⟩)
        ·exact .inr (.inr (.inl ⟨rfl,HPT2.out 2 (by omega)⟩))
        ·exact .inr (.inr (.inr ⟨rfl,HPT2.out 3 (by omega)⟩))
       have hY1:=fun A h1 h2 => HY.out (3 + 4 * γ + i) A (by omega) h1 h2
       obtain ⟨cs,hcs⟩:∃ cs,ptF S t J (3 + 4 * γ + i) = cs:=⟨_,rfl⟩
       rw [hcs] at hY1
       have HY1:=Lib.hid hY1
       have hix:∀ W,(Instr.index 165 (.agg (h20 γ p1 (p1 + 1) (p1 + 2) (p1 + 2 + t) t (S - 2 - t) (2 + t))) (.int .i64 (i:Int))).run Tryz.prog W = .ok (.agg cs) W:=fun W => by
        rcases HPK.out with ⟨rfl,e⟩ | ⟨rfl,e⟩ | ⟨rfl,e⟩ | ⟨rfl,e⟩
        ·rw [← hcs,e];exact idx4_0 _ _ _ _ _ _ _ _ W
        ·rw [← hcs,e];exact idx4_1 _ _ _ _ _ _ _ _ W
        ·rw [← hcs,e];exact idx4_2 _ _ _ _ _ _ _ _ W
        ·rw [← hcs,e];exact idx4_3 _ _ _ _ _ _ _ _ W
       have hcsz:cs.size = 5:=by rcases HPK.out with ⟨rfl,e⟩ | ⟨rfl,e⟩ | ⟨rfl,e⟩ | ⟨rfl,e⟩ <;> (rw [← hcs,e];rfl)
       have hc1:cs.all (·.oneCell') = true:=by rcases HPK.out with ⟨rfl,e⟩ | ⟨rfl,e⟩ | ⟨rfl,e⟩ | ⟨rfl,e⟩ <;> (rw [← hcs,e];exact all_p _ _ _ _ _)
       clear hcs HPK hY1
       have hinf:(Tryz.prog.info? 117).map (·.size) = some cs.size:=by rw [hcsz];exact info_part
       have hA:=At.new wr 117 (pcells 0 0 0 0 0)
       have hal:=zero_part
       have hs0:(pcells 0 0 0 0 0).size = cs.size:=by rw [hcsz];rfl
       have l5:(i:Int) < 4:=by omega
       have HFN:Hid (F (3 + 4 * γ + i) wr ∧ PtNeed B g S I J 0 wr):=⟨hF,hnd⟩
       clear hF hnd hcsz
       gi_wp2_with (first | (refine wpIn_storeAt rfl 117 (.tmp 11) (.tmp 72) rfl wr.heap.size cs (pcells 0 0 0 0 0) rfl rfl hA hinf hs0 hc1 ?_))
       intro w2 hA2 ho2
       have hN2:PtNeed B g S I J 0 w2:=At.below HFN.out.2 (storedP ho2) (At.lt HFN.out.2)
       have hF2:=HJB.out _ _ _ HFN.out.1 (storedP ho2)
       obtain ⟨fn,tmps,assign,body,hy,hR⟩:=HY1.out w2 hF2 hN2
       clear HFN hA ho2 hix HY1 hc1 hs0
       gi_wp2_with (first | (refine wpIn_loadAt rfl 117 (.tmp 11) rfl wr.heap.size cs _ rfl hA2 Tryz.underlying117 rfl hinf ?_))
       refine hR.mono ?_
       rintro e W3 (⟨rfl,hJ3,hN3⟩ | ⟨rfl,hJx3⟩)
       ·gi_wp2
        go_roundw
        case rel => exact ⟨i + 1,by omega,int_eq (by omega),hJ3,hN3⟩
        case measure => simp [intOf];omega
       ·gi_wp2
        refine bodyPost_ret (results_none rfl _ _ _) rfl ?_
        exact ⟨⟨_,rfl⟩,.inr ⟨3 + 4 * γ + i,by omega,hJx3⟩⟩
      ·obtain rfl:i = 4:=by omega
       have l5:¬ ((4:Nat):Int) < 4:=by omega
       gi_wp2
       go_roundw
       case rel =>
        rw [show 3 + 4 * γ + 4 = 3 + 4 * (γ + 1) by omega] at hF
        exact ⟨_,_,_,_,.int .i64 ((γ:Int) + 1),⟨γ + 1,by omega,int_eq (by omega),hF⟩,rfl,rfl,rfl,rfl,rfl⟩
       case measure => simp [intOf];omega
    ·obtain rfl:γ = g:=by omega
     have l4:¬ (γ:Int) < (γ:Int):=by omega
     gi_wp2
     refine bodyPost_end (results_none rfl _ _ _) rfl ?_
     exact ⟨⟨_,rfl⟩,.inl (hF)⟩
end Go.Proofs.YtphamecphmbipaaGreatDoor

namespace Go.Proofs.YtphamecphmbipaaGreatDoor.Tb
open Go.RowKit
set_option linter.unusedVariables false
theorem wpOp_of {P:Program} {ops:Array Oper} {Q:Exit → Act → World → Prop} {i:Nat} {o:Oper} {K:Act → World → Prop} {a:Act} {w:World} (hi:ops[i]? = some o) (hg:o.guard = none) (h:o.wp P a w K Q):wpOp P ops Q i K a w:=by
 unfold wpOp
 rw [hi]
 have:Region.wanted o (yielded ops a.tmps) = true:=by unfold Region.wanted;rw [hg]
 simp only [this,if_true]
 exact .inl h
theorem put_size (a:Act) (d:Nat) (v:Value):(a.put (some d) v).tmps.size = a.tmps.size:=by simp [Act.put]
theorem put_same (a:Act) (d:Nat) (v:Value) (h:d < a.tmps.size):(a.put (some d) v).tmps.getD d undef = v:=by simp [Act.put,Array.getD_eq_getD_getElem?,h]
theorem put_other (a:Act) (d s:Nat) (v:Value) (h:s ≠ d):(a.put (some d) v).tmps.getD s undef = a.tmps.getD s undef:=by
 simp only [Act.put,Array.getD_eq_getD_getElem?,Array.getElem?_setIfInBounds_ne (Ne.symm h)]
end Go.Proofs.YtphamecphmbipaaGreatDoor.Tb

namespace Go.Proofs.YtphamecphmbipaaGreatDoor
open Go.RowKit
set_option linter.unusedVariables false
section
variable {P:Program} {w w':World} {o:Oper} {a:Act} {K:Act → World → Prop} {Q:Exit → Act → World → Prop}
theorem op_val {v:Value} (hr:(execOp a.eval o).run P w = .ok (.value v) w') (h:K (a.put o.dst v) w'):o.wp P a w K Q:=by
 unfold Oper.wp;rw [hr];exact h
theorem op_skip (hr:(execOp a.eval o).run P w = .ok .skip w') (h:K (a.put o.dst undef) w'):o.wp P a w K Q:=by
 unfold Oper.wp;rw [hr];exact h
theorem op_up {l:Nat → Bool} (hu:upB .any o l = true) (k:Nat) (hk:(o.after.any fun e => Region.binds .any e && e.on == k) = true):l k = true:=by
 unfold upB at hu
 rw [Array.all_eq_true'] at hu
 rw [Array.any_eq_true'] at hk
 obtain ⟨e,he,hb⟩:=hk
 rw [Bool.and_eq_true] at hb
 have:=hu e he
 rw [hb.1] at this
 have e2:e.on = k:=by simpa using hb.2
 rw [e2] at this
 simpa using this
end
end Go.Proofs.YtphamecphmbipaaGreatDoor
