/- Texts of this claim, merged by a program (a claim may have 60 files): R8a, Pl0, R8b, R8c, R8d, Rb4. -/
import Derived.Test.YtphamecphmbipaaGreatDoorK14
import Derived.Test.YtphamecphmbipaaGreatDoorK03
import Derived.Test.YtphamecphmbipaaGreatDoorK15
import Derived.Test.YtphamecphmbipaaGreatDoorK12
import Derived.Test.YtphamecphmbipaaGreatDoorK16
import Derived.Test.YtphamecphmbipaaGreatDoorK04
import Derived.Test.YtphamecphmbipaaGreatDoorK19
import Derived.Test.YtphamecphmbipaaGreatDoorK08
import Derived.Test.YtphamecphmbipaaGreatDoorK10
import Derived.Test.YtphamecphmbipaaGreatDoorK06
import Derived.Test.YtphamecphmbipaaGreatDoorK09
import Derived.Test.YtphamecphmbipaaGreatDoorK22
namespace Go.Proofs.YtphamecphmbipaaGreatDoor
open Go.RowKit
set_option linter.unusedVariables false
def bS (ino:Int) (s:ByteArray):Nat → Int:=if ino = 0 then fun _ => 0 else mkS s ino
def mkP (s:ByteArray) (ino:Int) (i:Nat):Nat → Int:=fun j => if j < 4 then byteOf ino j else if j = 4 then (s.size:Int) else if j - 5 < i then bz s (j - 5) else 0
theorem mkP_zero (s:ByteArray) (ino:Int) (j:Nat):over (over (fun _ => 0) 0 4 (byteOf ino)) 4 1 (fun _ => (s.size:Int)) j = mkP s ino 0 j:=by
 unfold over mkP
 by_cases h:j < 4
 ·rw [if_neg (by omega),if_pos (by omega),if_pos h];rfl
 ·rw [if_neg h]
  by_cases h4:j = 4
  ·rw [if_pos (by omega),if_pos h4]
  ·rw [if_neg (by omega),if_neg (by omega),if_neg h4,if_neg (by omega)]
theorem mkP_succ (s:ByteArray) (ino:Int) (i j:Nat):over (mkP s ino i) (5 + i) 1 (fun _ => bz s i) j = mkP s ino (i + 1) j:=by
 unfold over mkP
 by_cases h:j < 4
 ·rw [if_neg (by omega),if_pos h,if_pos h]
 ·by_cases h4:j = 4
  ·rw [if_neg (by omega),if_neg h,if_pos h4,if_neg h,if_pos h4]
  ·by_cases h5:j - 5 = i
   ·rw [if_pos (by omega),if_neg h,if_neg h4,if_pos (by omega),h5]
   ·rw [if_neg (by omega),if_neg h,if_neg h4,if_neg h,if_neg h4]
    by_cases h6:j - 5 < i
    ·rw [if_pos h6,if_pos (by omega)]
    ·rw [if_neg h6,if_neg (by omega)]
theorem Mine.blk {w:World} {base g n:Nat} {e:TypeId} {z:Nat → Int} (h:Mine w base e (some ⟨g,0,none⟩) n n z):Blk w g e n z ∧ base ≤ g:=by
 rcases h.2 with ⟨hv,_⟩ | ⟨g',cap',cur,hv,hb,hg,hn,hc,hs,ht⟩
 ·cases hv
 ·injection hv with h1 h2 h3
  injection h1 with h1
  injection h1 with h1
  subst h1 h3
  refine ⟨?_,hb⟩
  have:cur = (Ks .u8 n z).toArray:=by
   apply Array.ext'
   rw [← show (Bs n z) = Ks .u8 n z from rfl,← ht,List.take_of_length_le (by simp;omega)]
  unfold Blk
  rw [hg,this]
structure ByB (w:World) (ino:Int) (s:ByteArray) (W:World):Prop where
 x:At W w.heap.size 90 #[.int .u32 ino,.string s]
 bel:Below w.heap.size w W
structure ByS (w:World) (ino:Int) (s:ByteArray) (G:Nat) (z:Nat → Int) (W:World):Prop extends ByB w ino s W where
 b:Blk W G 5 32 z
 ge:w.heap.size < G
theorem ByS.only {w:World} {ino:Int} {s:ByteArray} {G:Nat} {z y:Nat → Int} {W W':World} (h:ByS w ino s G z W) (hB:Blk W' G 5 32 y) (ho:Only G W W'):ByS w ino s G y W' :=
 ⟨⟨h.x.only ho (by have:=h.ge;omega),h.bel.trans (ho.below (Nat.le_of_lt h.ge))⟩,hB,h.ge⟩
set_option maxRecDepth 100000 in
set_option maxHeartbeats 4000000 in
theorem rBytes_any (ino:Int) (s:ByteArray) (hi:0 ≤ ino ∧ ino < 4294967296) (hs:ino = 0 ∨ s.size ≤ 27) (w:World) :
  Calls Tryz.prog 107 #[sv ino s] w fun e w' => ∃ g,w.heap.size ≤ g ∧ e = .returned (.slice (some ⟨g,0,none⟩) 32 32) ∧ Blk w' g 5 32 (bS ino s) ∧ Below w.heap.size w w':=by
 obtain ⟨hi0,hi1⟩:=hi
 have HS:Hid (ByB w ino s (w.alloc (.cells #[.int .u32 ino,.string s] 90))):=⟨At.new _ _ _,(Below.refl _ _).alloc (Nat.le_refl _) _⟩
 go_enter Tryz.func107,Tryz.ntmps107
 go_wp2_with (first | (refine wp_makeB rfl _ _ rfl (w.heap.size + 1) 32 32 rfl rfl rfl (by omega) (by simp) ?_))
 intro w1 hm1 hg1
 have st0:=HS.out
 have hsz:(w.alloc (.cells #[.int .u32 ino,.string s] 90)).heap.size = w.heap.size + 1:=by simp
 obtain ⟨hb1,hge1⟩:=hm1.blk
 have hlt1:w.heap.size < w.heap.size + 1:=by omega
 have st1:ByS w ino s (w.heap.size + 1) (fun _ => 0) w1:=⟨⟨(hg1.block _ st0.x.lt (by simp)).trans st0.x,st0.bel.grown hg1 st0.bel.size (fun k e => by cases e)⟩,hb1,hlt1⟩
 clear st0 HS hm1 hg1 hb1 hge1 hlt1 hsz
 generalize w.heap.size + 1 = G at *
 have c0:w1.cell? ⟨w.heap.size,0,none⟩ = some (.int .u32 ino):=st1.x.cell (i:=0) rfl
 have c1:w1.cell? ⟨w.heap.size,1,none⟩ = some (.string s):=st1.x.cell (i:=1) rfl
 by_cases h0:ino = 0
 ·subst h0
  have fin:Hid (∃ g,w.heap.size ≤ g ∧ (Ending.returned (.slice (some ⟨G,0,none⟩) 32 32)) = .returned (.slice (some ⟨g,0,none⟩) 32 32) ∧ Blk w1 g 5 32 (bS 0 s) ∧ Below w.heap.size w w1):=⟨G,by have:=st1.ge;omega,rfl,st1.b,st1.bel⟩
  clear hs
  go_wp2_with fail
  go_ret
  exact fin.out
 have hs27:s.size ≤ 27:=by
  rcases hs with h | h
  ·exact absurd h h0
  ·exact h
 have q0:(ino == 0) = false:=by simpa using h0
 have HB:Hid (bS ino s = mkS s ino):=by show _ = _;unfold bS;rw [if_neg h0]
 clear h0 hs
 go_wp2_with fail
 refine (rput32_yes G 0 32 32 0 ino (fun _ => 0) _ (by decide) (by decide) (by decide) hi0 hi1 st1.b.seg byt_zero (st1.b.soft _ _)).mono ?_
 rintro e w2 ⟨rfl,hp2⟩
 have st2:=st1.only (st1.b.puts hp2) hp2.only
 clear st1 hp2 c0 c1
 have c0:w2.cell? ⟨w.heap.size,0,none⟩ = some (.int .u32 ino):=st2.x.cell (i:=0) rfl
 have c1:w2.cell? ⟨w.heap.size,1,none⟩ = some (.string s):=st2.x.cell (i:=1) rfl
 have l6:IntKind.u8.wrap (s.size:Int) = (s.size:Int):=IntWalk.u8_in _ (by omega)
 have hB:=st2.b
 go_wp2_with (first | (refine wp_storeByte rfl _ _ rfl _ 4 (s.size:Int) rfl rfl hB (by omega) ?_))
 intro w3 hB3 ho3
 have st3:ByS w ino s G (mkP s ino 0) w3:=st2.only (hB3.congr fun j _ => mkP_zero s ino j) ho3
 clear st2 hB hB3 ho3 c0 c1
 go_wp2_with fail
 go_loopw [4] (fun u wr => ∃ k:Nat,k ≤ s.size ∧ u = .int .i64 (k:Int) ∧ ByS w ino s G (mkP s ino k) wr) (fun u _ => s.size - (intOf u).toNat)
 case atStart => exact ⟨0,by omega,rfl,st3⟩
 case round =>
  clear st3
  obtain ⟨k,hk,rfl,st⟩:=hrel
  have c1:wr.cell? ⟨w.heap.size,1,none⟩ = some (.string s):=st.x.cell (i:=1) rfl
  by_cases hlt:k < s.size
  ·have hidx:s.data.size = s.size:=rfl
   have l0:(0:Int) ≤ (k:Int):=by omega
   have l1:(k:Int) < (s.size:Int):=by omega
   have hB:=st.b
   have HZ:Hid ((s[k].toNat:Int) = bz s k):=by
    show _ = _
    unfold bz
    rw [List.getD,List.getElem?_eq_getElem (by simpa using hlt)];rfl
   go_wp2_with (first | (refine wp_storeByte rfl _ _ rfl _ (5 + k) (s[k].toNat:Int) rfl rfl hB (by omega) ?_))
   intro w4 hB4 ho4
   have st4:ByS w ino s G (mkP s ino (k + 1)) w4:=st.only (hB4.congr fun j _ => by rw [HZ.out];exact mkP_succ s ino k j) ho4
   clear st hB hB4 ho4 c1
   go_wp2_with fail
   go_roundw
   case rel => first | exact ⟨k + 1,by omega,by go_num,st4⟩ | ((repeat apply Exists.intro);exact ⟨⟨k + 1,by omega,by go_num,st4⟩,rfl⟩)
   case measure => simp [intOf];omega
  ·obtain rfl:k = s.size:=by omega
   have fin:Hid (∃ g,w.heap.size ≤ g ∧ (Ending.returned (.slice (some ⟨G,0,none⟩) 32 32)) = .returned (.slice (some ⟨g,0,none⟩) 32 32) ∧ Blk wr g 5 32 (bS ino s) ∧ Below w.heap.size w wr):=⟨G,by have:=st.ge;omega,rfl,by rw [HB.out];exact st.b,st.bel⟩
   go_wp2_with fail
   go_ret
   exact fin.out
structure MS where
 L:Nat → Nat → Int
 next:Nat
def turnZ (z:Nat → Int) (i:Nat):Nat → Int:=bZ (setB (bt z) i)
namespace MS
def put (m:MS) (b:Nat) (z:Nat → Int):MS:={ m with L:=updN m.L b z }
def set (x:Im) (m:MS) (k d bit:Nat):MS:=m.put (x.st k + d) (turnZ (m.L (x.st k + d)) bit)
def grp (x:Im) (b:Nat):Nat:=(b - (2 + x.j)) / x.s
def plc (x:Im) (b:Nat):Nat:=(b - (2 + x.j)) % x.s
def takeF (x:Im):Nat → MS → Nat × MS
 | 0,m => (0,m)
 | f + 1,m => if x.data m.next = true then (m.next,set x { m with next:=m.next + 1 } (grp x m.next) 0 (plc x m.next)) else takeF x f { m with next:=m.next + 1 }
def take (x:Im) (m:MS):Nat × MS:=takeF x (x.n - m.next) m
def down (x:Im):List Nat → Nat → MS → Nat × MS
 | [],b,m => (b,m)
 | k :: ks,b,m =>
  if b = 0 then (0,m)
  else if (g32 (m.L b) (4 * k)).toNat = 0 then
   down x ks (m.take x).1 ((m.take x).2.put b (over ((m.take x).2.L b) (4 * k) 4 (byteOf ((m.take x).1:Nat))))
  else down x ks (g32 (m.L b) (4 * k)).toNat m
def hang (x:Im) (y:Ino) (i:Int) (m:MS):Nat × Ino × MS :=
 if i < 0 ∨ 65536 ≤ i then (0,y,m)
 else if y.p (Im.wayP i.toNat) = 0 then
  ((down x (Im.wayB i.toNat) (m.take x).1 (m.take x).2).1,{ y with p:=fun q => if q = Im.wayP i.toNat then (((m.take x).1:Nat):Int) else y.p q },(down x (Im.wayB i.toNat) (m.take x).1 (m.take x).2).2)
 else ((down x (Im.wayB i.toNat) (y.p (Im.wayP i.toNat)).toNat m).1,y,(down x (Im.wayB i.toNat) (y.p (Im.wayP i.toNat)).toNat m).2)
end MS
structure PF where
 kind:Int
 size:Int
 nb:Nat
 bl:Nat → Int
 nn:Nat
 dir:Nat → Int
 nm:Nat → ByteArray
 orp:Bool
 links:Int
structure PlanD where
 nf:Nat
 f:Nat → PF
 nc:Nat
 cb:Nat → Int
 ca:Nat → Int
 co:Nat → Int
 sums:Bool
abbrev Slt:=Nat × ByteArray
namespace PlanD
variable (P:PlanD)
def n (x:Im):Nat:=min P.nf (x.ni - 1)
structure IS where
 ino:Nat → Ino
 sl:Nat → List Slt
def nameF (N i k:Nat) (a:IS):IS :=
 if 0 ≤ (P.f (i - 1)).dir k ∧ (P.f (i - 1)).dir k ≤ (N:Int) then
  ⟨updN a.ino i { a.ino i with links:=IntKind.i64.wrap ((a.ino i).links + 1) },updN a.sl ((P.f (i - 1)).dir k).toNat (a.sl ((P.f (i - 1)).dir k).toNat ++ [(i + 1,(P.f (i - 1)).nm k)])⟩
 else a
def itr {α:Type} (f:Nat → α → α):Nat → α → α
 | 0,a => a
 | n + 1,a => f n (itr f n a)
def fileF (N i:Nat) (a:IS):IS :=
 itr (P.nameF N i) (P.f (i - 1)).nn { a with ino:=updN a.ino i ⟨(P.f (i - 1)).kind,(P.f (i - 1)).links,(i:Int),(P.f (i - 1)).size,fun _ => 0,0⟩ }
def is0:IS:=⟨updN (fun _ => Ino.nil) 0 ⟨2,1,1,0,fun _ => 0,0⟩,fun _ => []⟩
def isF (N:Nat) (k:Nat):IS:=itr (fun i a => P.fileF N (i + 1) a) k is0
structure HS where
 y:Ino
 m:MS
def slotH (x:Im) (l:List Slt) (k:Nat) (h:HS):HS :=
 let r:=MS.hang x h.y ((k / 8:Nat):Int) h.m
 ⟨r.2.1,if 0 < r.1 ∧ (l.getD k default).2.size ≤ 27 then r.2.2.put r.1 (putS (r.2.2.L r.1) (k % 8) (bS ((l.getD k default).1:Nat) (l.getD k default).2)) else r.2.2⟩
def blockH (x:Im) (bl:Nat → Int) (k:Nat) (h:HS):HS :=
 let r:=MS.hang x h.y (bl k) h.m
 ⟨r.2.1,if 0 < r.1 then r.2.2.put r.1 (over (r.2.2.L r.1) 0 1 (fun _ => ((k + 1:Nat):Int) % 256)) else r.2.2⟩
def inoH (x:Im) (l:List Slt) (i:Nat) (h:HS):HS :=
 if h.y.kind = 2 then itr (slotH x l) l.length { h with y:={ h.y with size:=256 * (((l.length + 7) / 8:Nat):Int) } }
 else if i = 0 then h else itr (blockH x (P.f (i - 1)).bl) (P.f (i - 1)).nb h
structure FS where
 ino:Nat → Ino
 m:MS
def fillF (x:Im) (sl:Nat → List Slt) (i:Nat) (a:FS):FS :=
 let h:=P.inoH x (sl i) i ⟨a.ino i,a.m⟩
 ⟨updN a.ino i h.y,h.m⟩
def fill (x:Im) (a:IS) (m:MS) (k:Nat):FS:=itr (P.fillF x a.sl) k ⟨a.ino,m⟩
structure OS where
 o:Nat
 last:Nat
 ino:Nat → Ino
def orpG (i:Nat) (a:OS):OS :=
 if (P.f i).orp = true then
  (if a.last = 0 then ⟨i + 2,i + 1,a.ino⟩ else ⟨a.o,i + 1,updN a.ino a.last { a.ino a.last with next:=((i + 2:Nat):Int) }⟩)
 else a
def orps (ino:Nat → Ino) (k:Nat):OS:=itr P.orpG k ⟨0,0,ino⟩
structure TS where
 L:Nat → Nat → Int
 d:Nat → Int
def tabF (x:Im) (ino:Nat → Ino) (i:Nat) (a:TS):TS :=
 let L1:=updN a.L (x.ib (i + 1)) (putZ (a.L (x.ib (i + 1))) (x.ia (i + 1):Nat) (ino i))
 ⟨if (ino i).kind ≠ 0 then updN L1 (x.st (i / x.i) + 1) (turnZ (L1 (x.st (i / x.i) + 1)) (i % x.i)) else L1,if (ino i).kind = 2 then updN a.d (i / x.i) (a.d (i / x.i) + 1) else a.d⟩
def tab (x:Im) (L:Nat → Nat → Int) (ino:Nat → Ino) (k:Nat):TS:=itr (tabF x ino) k ⟨L,fun _ => 0⟩
def headsL (x:Im) (o:Nat) (t:TS):Nat → Nat → Int :=
 updN (updN t.L 0 (supZ x.g x.s x.i x.j (o:Nat))) 1 (descZ x.g x.s x.i x.j x.g (fun k => (x.s:Int) - (cntB (bt (t.L (x.st k))) x.s:Nat)) (fun k => (x.i:Int) - (cntB (bt (t.L (x.st k + 1))) x.i:Nat)) t.d)
def chgF (n:Nat) (k:Nat) (L:Nat → Nat → Int):Nat → Nat → Int :=
 if 0 ≤ P.cb k ∧ P.cb k < (n:Int) then
  updN L (P.cb k).toNat (over (L (P.cb k).toNat) (P.ca k % 256).toNat 1 (fun _ => (((L (P.cb k).toNat (P.ca k % 256).toNat).toNat ^^^ (P.co k).toNat:Nat):Int)))
 else L
def sumF (k:Nat) (L:Nat → Nat → Int):Nat → Nat → Int:=updN L k (sealZ (L k))
def img (x:Im):Nat → Nat → Int :=
 let N:=P.n x
 let a:=P.isF N N
 let h:=P.fill x a ⟨mkB x.g x.s x.i x.j,0⟩ (N + 1)
 let s:=P.orps h.ino N
 let t:=tab x h.m.L s.ino (N + 1)
 let L:=itr (P.chgF x.n) P.nc (headsL x s.o t)
 if P.sums then sumF 1 (sumF 0 L) else L
end PlanD
theorem info_slot':(Tryz.prog.info? 90).map (fun i => (i.zero,i.size,i.bytes)) = some (some (.agg #[.int .u32 0,.string ByteArray.empty]),2,24):=by kernel_rfl
theorem run_slot1 (x:Int) (s:ByteArray) (w:World):(Instr.buildSlice 88 1 #[(0,.agg #[.int .u32 x,.string s])]).run Tryz.prog w = .ok (.slice (some ⟨w.heap.size,0,none⟩) 1 1) (w.alloc (.cells #[.int .u32 x,.string s] 90)):=by kernel_rfl
theorem slotOne (x:Int) (s:ByteArray):∀ u ∈ ([.int .u32 x,.string s]:List Value),u.oneCell' = true:=by
 intro u hu
 simp only [List.mem_cons,List.not_mem_nil,or_false] at hu
 rcases hu with rfl | rfl <;> rfl
structure PtS (w:World) (z:Nat → Int) (g:Nat) (y:Nat → Int) (W:World):Prop where
 b:Blk W w.heap.size 32 256 z
 p:Blk W g 5 32 y
 r:Blk W (w.heap.size + 1 + 1) 32 256 (fun _ => 0)
 bel:Below w.heap.size w W
 ge:w.heap.size < g
theorem PtS.put {w:World} {z z':Nat → Int} {g:Nat} {y:Nat → Int} {W W':World} (h:PtS w z g y W) (hB:Blk W' w.heap.size 32 256 z') (ho:Only w.heap.size W W'):PtS w z' g y W' :=
 ⟨hB,h.p.only ho (Nat.ne_of_gt h.ge),h.r.only ho (by omega),h.bel.trans (ho.below (Nat.le_refl _)),h.ge⟩
def putN (z:Nat → Int) (i:Nat) (y:Nat → Int) (n:Nat):Nat → Int:=over z (32 * i) n y
theorem putN_succ (z:Nat → Int) (i:Nat) (y:Nat → Int) (n j:Nat):over (putN z i y n) (32 * i + n) 1 (fun _ => y n) j = putN z i y (n + 1) j:=by
 unfold putN over
 by_cases h:32 * i + n = j
 ·subst h
  rw [if_pos (by omega),if_pos (by omega),show 32 * i + n - 32 * i = n by omega]
 ·rw [if_neg (by omega)]
  by_cases h2:32 * i ≤ j ∧ j < 32 * i + n
  ·rw [if_pos h2,if_pos (by omega)]
  ·rw [if_neg h2,if_neg (by omega)]
set_option maxRecDepth 100000 in
set_option maxHeartbeats 4000000 in
theorem rPut_any (z:Nat → Int) (i:Nat) (hi8:i < 8) (ino:Int) (s:ByteArray) (hi:0 ≤ ino ∧ ino < 4294967296) (hs:ino = 0 ∨ s.size ≤ 27) (w:World) :
  Calls Tryz.prog 65 #[bval z,.int .i64 (i:Int),sv ino s] w fun e w' => e = .returned (bval (putS z i (bS ino s))) ∧ Below w.heap.size w w':=by
 have hal:=zero_block
 obtain ⟨hi0,hi1⟩:=hi
 have HS:Hid (Blk (((w.alloc (.cells (Ks .u8 256 z).toArray 32)).alloc (.cells #[.int .u32 ino,.string s] 90)).alloc (.cells (Ks .u8 256 (fun _ => 0)).toArray 32)) w.heap.size 32 256 z ∧
   Blk (((w.alloc (.cells (Ks .u8 256 z).toArray 32)).alloc (.cells #[.int .u32 ino,.string s] 90)).alloc (.cells (Ks .u8 256 (fun _ => 0)).toArray 32)) (w.heap.size + 1 + 1) 32 256 (fun _ => 0) ∧
   Below w.heap.size w (((w.alloc (.cells (Ks .u8 256 z).toArray 32)).alloc (.cells #[.int .u32 ino,.string s] 90)).alloc (.cells (Ks .u8 256 (fun _ => 0)).toArray 32))):=by
  refine ⟨((Blk.new w _ 256 z).alloc _).alloc _,?_,(((Below.refl _ _).alloc (Nat.le_refl _) _).alloc (by simp) _).alloc (by simp;omega) _⟩
  have:=Blk.new ((w.alloc (.cells (Ks .u8 256 z).toArray 32)).alloc (.cells #[.int .u32 ino,.string s] 90)) 32 256 (fun _ => 0)
  simpa using this
 go_enter Tryz.func65,Tryz.ntmps65
 go_wp2_with fail
 generalize ((w.alloc (.cells (Ks .u8 256 z).toArray 32)).alloc (.cells #[.int .u32 ino,.string s] 90)).alloc (.cells (Ks .u8 256 (fun _ => 0)).toArray 32) = w0 at *
 refine (rBytes_any ino s ⟨hi0,hi1⟩ hs _).mono ?_
 rintro e w1 ⟨g,hg,rfl,hp,hb1⟩
 obtain ⟨h1,h2,h3⟩:=HS.out
 have st1:PtS w (putN z i (bS ino s) 0) g (bS ino s) w1:=⟨(h1.below hb1 h1.lt).congr fun j _ => by unfold putN over;rw [if_neg (by omega)],hp,h2.below hb1 h2.lt,h3.trans (hb1.mono h3.size),by have:=h1.lt;omega⟩
 have HPS:Hid (putN z i (bS ino s) 32 = putS z i (bS ino s)):=rfl
 generalize hyy:bS ino s = y at *
 have HYY:=Lib.hid hyy
 clear hyy
 clear HS h1 h2 h3 hp hb1 hg
 go_wp2_with fail
 go_loopw [8] (fun u wr => ∃ k:Nat,k ≤ 32 ∧ u = .int .i64 (k:Int) ∧ PtS w (putN z i y k) g y wr) (fun u _ => 32 - (intOf u).toNat)
 case atStart => exact ⟨0,by omega,rfl,st1⟩
 case round =>
  clear st1
  obtain ⟨k,hk,rfl,st⟩:=hrel
  by_cases hlt:k < 32
  ·have l0:(0:Int) ≤ (k:Int):=by omega
   have l1:(k:Int) < 32:=by omega
   have hB:=st.b
   have c0:wr.cell? ⟨g,k,none⟩ = some (.int .u8 (y k)):=by have:=st.p.seg k hlt;rwa [Nat.zero_add] at this
   have e1:(32 * (i:Int) + (k:Int)).toNat = 32 * i + k:=by omega
   have e2:(32 * (i:Int) + (k:Int)) < 256:=by omega
   have e3:(0:Int) ≤ 32 * (i:Int) + (k:Int):=by omega
   go_wp2_with (first | (refine wp_storeByte rfl _ _ rfl _ (32 * i + k) (y k) rfl rfl hB (by omega) ?_))
   intro w4 hB4 ho4
   have st4:PtS w (putN z i y (k + 1)) g y w4:=st.put (hB4.congr fun j _ => putN_succ z i y k j) ho4
   clear st hB hB4 ho4 c0
   go_wp2_with fail
   go_roundw
   case rel => first | exact ⟨k + 1,by omega,by go_num,st4⟩ | ((repeat apply Exists.intro);exact ⟨⟨k + 1,by omega,by go_num,st4⟩,rfl⟩)
   case measure => simp [intOf];omega
  ·obtain rfl:k = 32:=by omega
   have hB:=st.b
   have hR:=st.r
   rw [HPS.out] at hB
   go_wp2_with (first | (refine wp_loadBlkG rfl _ rfl _ _ rfl hB ?_) | (refine wp_storeBlk rfl _ _ rfl (w.heap.size + 1 + 1) _ _ rfl rfl hR ?_))
   intro w9 hB9 ho9
   go_wp2_with fail
   exact bodyPost_ret (results_blk rfl _ _ (w.heap.size + 1 + 1) _ rfl hB9) rfl ⟨by rw [HYY.out],st.bel.trans (ho9.below (by omega))⟩
theorem results_blk_tmp {fn:Func} {p u:Tmp} (h:fn.results = #[.cell p 32,.tmp u]) (tmps:Array Value) (w:World) (g:Nat) (z:Nat → Int)
  (hp:tmps.getD p undef = .pointer (some ⟨g,0,none⟩)) (hg:Blk w g 32 256 z):(results fn tmps).run Tryz.prog w = .ok (.tuple #[bval z,tmps.getD u undef]) w :=
 results_row_tmp h tmps w g 32 _ (0,0) _ hp hg Tryz.underlying32 rfl (info_block' _)
theorem info_bool18:(Tryz.prog.info? 4).map (fun i => (i.zero,i.size,i.bytes)) = some (some (.bool false),1,1):=by kernel_rfl
theorem run_mkbools (W:World):(Instr.makeSlice 132 (.int .i64 2048) (.int .i64 2048)).run Tryz.prog W = .ok (.slice (some ⟨W.heap.size,0,none⟩) 2048 2048) (W.alloc (.cells (madeCells #[.bool false] (2048 * 1)) 4)) :=
 run_mkrow (P:=Tryz.prog) 132 4 (.bool false) 1 1 Tryz.underlying132 info_bool18 .i64 .i64 2048 (by omega) (by omega) W
theorem bt_div (z:Nat → Int) (i:Nat):bt z i = decide ((z (i / 8)).toNat / 2 ^ (i % 8) % 2 = 1):=by
 unfold bt;rw [Nat.testBit_eq_decide_div_mod_eq]
def btK (z:Nat → Int) (k i:Nat):Bool:=if i < k then bt z i else false
theorem btK_next (z:Nat → Int) (k i:Nat):(if i = k then bt z k else btK z k i) = btK z (k + 1) i:=by
 unfold btK
 by_cases e:i = k
 ·subst e;rw [if_pos rfl,if_pos (by omega)]
 ·rw [if_neg e]
  by_cases h:i < k
  ·rw [if_pos h,if_pos (by omega)]
  ·rw [if_neg h,if_neg (by omega)]
structure O4S (w:World) (z:Nat → Int) (q:Nat) (P:Nat → Bool) (W:World):Prop where
 b:Blk W w.heap.size 32 256 z
 l:RArr W q 4 1 2048 (boF P)
 n:w.heap.size < q
 bel:Below w.heap.size w W
theorem bo_set {W:World} {q k n:Nat} {P:Nat → Bool} {T:TypeId} (h:RArr W q T 1 n (boF P)) (hk:k < n) (v:Bool):RArr (W.setCell ⟨q,k,none⟩ (.bool v)) q T 1 n (boF (updN P k v)):=by
 have:=h.cellset (k:=k) (j:=0) hk (by decide) (fun i => boF_len P i) (.bool v)
 rw [Nat.mul_one,Nat.add_zero] at this
 refine this.congr fun i hi => ?_
 unfold boF updN
 by_cases e:i = k
 ·rw [if_pos e,if_pos e];rfl
 ·rw [if_neg e,if_neg e]
theorem O4S.set {w:World} {z:Nat → Int} {q k:Nat} {W:World} (h:O4S w z q (btK z k) W) (hk:k < 2048):O4S w z q (btK z (k + 1)) (W.setCell ⟨q,k,none⟩ (.bool (bt z k))):=by
 have ho:=Only.setCell W ⟨q,k,none⟩ (.bool (bt z k))
 have hn:=h.n
 refine ⟨Blk.only h.b ho (by show w.heap.size ≠ q;omega),(bo_set h.l hk (bt z k)).congr fun i hi => ?_,h.n,h.bel.trans (ho.below (by show w.heap.size ≤ q;omega))⟩
 unfold boF updN
 rw [← btK_next]
set_option maxRecDepth 100000 in
set_option maxHeartbeats 4000000 in
theorem rOf4_any (z:Nat → Int) (hz:Byt z) (w:World):Calls Tryz.prog 110 #[bval z] w fun e w' => ∃ q,e = .returned (.slice (some ⟨q,0,none⟩) 2048 2048) ∧ w.heap.size ≤ q ∧ RArr w' q 4 1 2048 (boF (bt z)) ∧ Below w.heap.size w w':=by
 have hmk:=run_mkbools
 have hB0:=Blk.new w 32 256 z
 have hb0:Below w.heap.size w (w.alloc (.cells (Ks .u8 256 z).toArray 32)):=(Below.refl _ _).alloc (Nat.le_refl _) _
 obtain ⟨W0,hW0⟩:∃ W0,W0 = w.alloc (.cells (Ks .u8 256 z).toArray 32):=⟨_,rfl⟩
 have hsz:W0.heap.size = w.heap.size + 1:=by rw [hW0,World.size_alloc]
 obtain ⟨q,hq⟩:∃ q,q = w.heap.size + 1:=⟨_,rfl⟩
 obtain ⟨W1,hW1⟩:∃ W1,W1 = W0.alloc (.cells (madeCells #[.bool false] 2048) 4):=⟨_,rfl⟩
 rw [← hW0] at hB0 hb0
 have ST0:Hid (O4S w z q (btK z 0) W1):=by
  rw [hW1]
  refine ⟨hB0.alloc _,?_,by omega,hb0.alloc (by omega) _⟩
  have:=RArr.made (m:=1) W0 #[.bool false] rfl (by omega) 2048 4
  rw [hsz,← hq] at this
  exact this.congr fun i hi => rfl
 have HW0:=Lib.hid (And.intro hW0 (And.intro hq hW1))
 have HZ:=Lib.hid hz
 clear hB0 hb0 hsz hW0 hq hW1 hz
 go_enter Tryz.func110,Tryz.ntmps110
 go_wp2_with fail
 rw [← HW0.out.1,← HW0.out.2.1,← HW0.out.2.2]
 clear HW0 hmk
 go_loopw [4,5,6] (fun u _ _ wr => ∃ i:Nat,i ≤ 2048 ∧ u = .int .i64 (i:Int) ∧ O4S w z q (btK z i) wr) (fun u _ _ _ => 2048 - (intOf u).toNat)
 case atStart => exact ⟨0,by omega,rfl,ST0.out⟩
 case round =>
  clear ST0
  obtain ⟨i,hi,rfl,st⟩:=hrel
  by_cases hlt:i < 2048
  ·have hlt':(i:Int) < 2048:=by omega
   have h0:(i:Int).tdiv 8 = ((i / 8:Nat):Int):=by rw [Int.tdiv_eq_ediv_of_nonneg (by omega)];omega
   have h1:(i:Int).tmod 8 = ((i % 8:Nat):Int):=by rw [Int.tmod_eq_emod_of_nonneg (by omega)];omega
   have hk8:i / 8 < 256:=by omega
   have hm8:i % 8 < 8:=Nat.mod_lt _ (by decide)
   obtain ⟨X,hX⟩:∃ X:Nat,X = (z (i / 8)).toNat:=⟨_,rfl⟩
   have hX9:X < 256:=by have:=HZ.out (i / 8);omega
   have c0:wr.cell? ⟨w.heap.size,i / 8,none⟩ = some (.int .u8 (X:Int)):=by
    have:=st.b.seg (i / 8) hk8
    rw [Nat.zero_add] at this
    rw [this,hX,Int.toNat_of_nonneg (HZ.out (i / 8)).1]
   have HBT:Hid (bt z i = decide (X / 2 ^ (i % 8) % 2 = 1)):=by show _ = _;rw [bt_div,← hX]
   have ST:=Lib.hid st
   obtain ⟨k,hk⟩:∃ k,k = i / 8:=⟨_,rfl⟩
   obtain ⟨m,hm⟩:∃ m,m = i % 8:=⟨_,rfl⟩
   rw [← hk] at h0 c0 hk8
   rw [← hm] at h1 HBT hm8
   have hk0:(0:Int) ≤ (k:Int):=by omega
   have hk1:(k:Int) < 256:=by omega
   clear hX hk hm st
   go_wp2_with fail
   clear c0 h0
   go_loopw [5,6] (fun u5 u6 wr => ∃ k:Nat,k ≤ m ∧ u6 = .int .i64 (k:Int) ∧ u5 = .int .i64 ((X / 2 ^ k:Nat):Int) ∧ O4S w z q (btK z i) wr) (fun _ u6 _ => m - (intOf u6).toNat)
   case atStart => exact ⟨0,by omega,rfl,by rw [Nat.pow_zero,Nat.div_one],ST.out⟩
   case round =>
    clear ST
    obtain ⟨k',hk',rfl,rfl,st⟩:=hrel
    have hY:X / 2 ^ k' ≤ X:=Nat.div_le_self _ _
    have HN:Hid (X / 2 ^ k' / 2 = X / 2 ^ (k' + 1)):=by show _ = _;rw [Nat.div_div_eq_div_mul,Nat.pow_succ]
    obtain ⟨Y,hYd⟩:∃ Y,Y = X / 2 ^ k':=⟨_,rfl⟩
    rw [← hYd] at hY HN ⊢
    have HYD:=Lib.hid hYd
    clear hYd
    have ST:=Lib.hid st
    by_cases hlk:k' < m
    ·have hlk':(k':Int) < (m:Int):=by omega
     have hd:(Y:Int).tdiv 2 = ((Y / 2:Nat):Int):=by rw [Int.tdiv_eq_ediv_of_nonneg (by omega)];omega
     clear st
     go_wp2_with fail
     go_roundw
     case rel => exact ⟨k' + 1,by omega,by go_num,by rw [← HN.out];congr 1,ST.out⟩
     case measure => simp [intOf];omega
    ·obtain rfl:k' = m:=by omega
     obtain ⟨R,hR⟩:∃ R,R = (Y:Int).tmod 2:=⟨_,rfl⟩
     have hRB:(R == 1) = bt z i:=by
      rw [HBT.out,← HYD.out,hR,Int.tmod_eq_emod_of_nonneg (by omega)]
      rw [Bool.eq_iff_iff,beq_iff_eq,decide_eq_true_eq]
      omega
     have ci:wr.cell? ⟨q,i,none⟩ = some (.bool (btK z i i)):=by
      have:=st.l.seg i hlt 0 _ rfl
      rwa [Nat.zero_add,Nat.mul_one,Nat.add_zero] at this
     have fi:wr.frozen? ⟨q,i,none⟩ = false:=st.l.soft i
     have HS:=Lib.hid (st.set hlt)
     have hR2:=hR.symm
     clear st ST hR HN HYD HBT
     obtain ⟨V,hV⟩:∃ V,V = bt z i:=⟨_,rfl⟩
     rw [← hV] at hRB
     have HV:=Lib.hid hV
     clear hV
     cases V with
     | true =>
      go_wp2_with fail
      go_roundw
      case rel => exact ⟨i + 1,by omega,by go_num,by have:=HS.out;rw [← HV.out] at this;exact this⟩
      case measure => simp [intOf];omega
     | false =>
      go_wp2_with fail
      go_roundw
      case rel => exact ⟨i + 1,by omega,by go_num,by have:=HS.out;rw [← HV.out] at this;exact this⟩
      case measure => simp [intOf];omega
  ·obtain rfl:i = 2048:=by omega
   have ST:=Lib.hid st
   clear st hlt
   go_wp2_with fail
   go_ret
   exact ⟨q,rfl,by have:=ST.out.n;omega,ST.out.l.congr fun i hi => by unfold boF btK;rw [if_pos hi],ST.out.bel⟩
structure TnS (w:World) (z:Nat → Int) (q:Nat) (P:Nat → Bool) (W:World):Prop where
 b:Blk W w.heap.size 32 256 z
 r:Blk W (w.heap.size + 1) 32 256 (fun _ => 0)
 l:RArr W q 4 1 2048 (boF P)
 n:w.heap.size + 2 ≤ q
 bel:Below w.heap.size w W
theorem setB_id {P:Nat → Bool} {i:Nat} (h:P i = true):setB P i = P:=by
 funext j;unfold setB;split
 ·rename_i e;rw [e,h]
 ·rfl
theorem bZ_bt_fun {z:Nat → Int} (hz:Byt z):bZ (bt z) = z:=funext (bZ_bt hz)
theorem boRow_of {W:World} {q:Nat} {P:Nat → Bool} {T:TypeId} (h:RArr W q T 1 2048 (boF P)):RRow W (some ⟨q,0,none⟩) 1 2048 (boF P):=.inr ⟨q,0,rfl,h.seg⟩
set_option maxRecDepth 100000 in
set_option maxHeartbeats 4000000 in
theorem rTurn4_any (z:Nat → Int) (hz:Byt z) (i:Nat) (hi:i < 2048) (w:World):Calls Tryz.prog 109 #[bval z,.int .i64 (i:Int),.bool true] w fun e w' => e = .returned (.tuple #[bval (bZ (setB (bt z) i)),.bool (!bt z i)]) ∧ Below w.heap.size w w':=by
 have hal:=zero_block
 have hB:=(Blk.new w 32 256 z).alloc (.cells (Ks .u8 256 (fun _ => 0)).toArray 32)
 have hR:=Blk.new (w.alloc (.cells (Ks .u8 256 z).toArray 32)) 32 256 (fun _ => 0)
 rw [World.size_alloc] at hR
 have hb0:Below w.heap.size w ((w.alloc (.cells (Ks .u8 256 z).toArray 32)).alloc (.cells (Ks .u8 256 (fun _ => 0)).toArray 32)):=((Below.refl _ _).alloc (Nat.le_refl _) _).alloc (by simp) _
 have hsz:((w.alloc (.cells (Ks .u8 256 z).toArray 32)).alloc (.cells (Ks .u8 256 (fun _ => 0)).toArray 32)).heap.size = w.heap.size + 2:=by simp
 have H0:=Lib.hid (And.intro hR (And.intro hb0 hsz))
 have d1:decide ((i:Int) < 0) = false:=decide_eq_false (by omega)
 have d2:decide ((2048:Int) ≤ (i:Int)) = false:=decide_eq_false (by omega)
 have d2':decide (2048 ≤ i) = false:=decide_eq_false (by omega)
 clear hR hb0 hsz
 go_enter Tryz.func109,Tryz.ntmps109
 go_wp2_with (first | (refine wp_loadBlk rfl _ rfl _ _ rfl hB ?_))
 refine (rOf4_any z hz _).mono ?_
 rintro e w1 ⟨q,rfl,hq,hl,hb1⟩
 have st1:TnS w z q (bt z) w1:=⟨hB.below hb1 hB.lt,H0.out.1.below hb1 H0.out.1.lt,hl,by have:=H0.out.2.2;omega,H0.out.2.1.trans (hb1.mono H0.out.2.1.size)⟩
 have hB1:=st1.b
 have hR1:=st1.r
 have ci:w1.cell? ⟨q,i,none⟩ = some (.bool (bt z i)):=by
  have:=st1.l.seg i hi 0 _ rfl
  rwa [Nat.zero_add,Nat.mul_one,Nat.add_zero] at this
 have fi:w1.frozen? ⟨q,i,none⟩ = false:=st1.l.soft i
 have hi0:(i:Int) < 2048:=by omega
 have ST1:=Lib.hid st1
 have HZ:=Lib.hid hz
 clear hB hl hb1 H0 st1 hq hz
 obtain ⟨V,hV⟩:∃ V,V = bt z i:=⟨_,rfl⟩
 rw [← hV] at ci
 have HV:=Lib.hid hV
 clear hV
 cases V with
 | true =>
  go_wp2_with (first | (refine wp_loadBlk rfl _ rfl _ _ rfl hB1 ?_) | (refine wp_storeBlk rfl _ _ rfl _ z _ rfl rfl hR1 ?_))
  intro w2 hR2 ho2
  go_wp2_with fail
  exact bodyPost_ret (results_blk_tmp rfl _ _ (w.heap.size + 1) _ rfl hR2) rfl ⟨by rw [setB_id HV.out.symm,bZ_bt_fun HZ.out,← HV.out];rfl,ST1.out.bel.trans (ho2.below (by omega))⟩
 | false =>
  have HL:=Lib.hid (bo_set ST1.out.l hi true)
  have ho:=Only.setCell w1 ⟨q,i,none⟩ (.bool true)
  have hn:=ST1.out.n
  have hR2:=hR1.only ho (by show w.heap.size + 1 ≠ q;omega)
  have HB2:=Lib.hid (ST1.out.bel.trans (ho.below (by show w.heap.size ≤ q;omega)))
  have HQ:Hid (q < (w1.setCell ⟨q,i,none⟩ (.bool true)).heap.size):=HL.out.lt
  clear hR1 hB1 ho
  go_wp2_with fail
  refine (rBits4_any (updN (bt z) i true) (some ⟨q,0,none⟩) 2048 _ (boRow_of HL.out) (fun b off e => by injection e with e;injection e with e;subst e;exact HQ.out)).mono ?_
  rintro e w3 ⟨rfl,hb3⟩
  have hR3:=hR2.below hb3 hR2.lt
  have HB3:=Lib.hid (HB2.out.trans (hb3.mono HB2.out.size))
  clear hR2 HB2 hb3 ci fi
  go_wp2_with (first | (refine wp_storeBlk rfl _ _ rfl _ (bZ (updN (bt z) i true)) _ rfl rfl hR3 ?_))
  intro w4 hR4 ho4
  go_wp2_with fail
  exact bodyPost_ret (results_blk_tmp rfl _ _ (w.heap.size + 1) _ rfl hR4) rfl ⟨by rw [← HV.out];rfl,HB3.out.trans (ho4.below (by omega))⟩
set_option maxRecDepth 100000 in
set_option maxHeartbeats 4000000 in
theorem rCount4_any (z:Nat → Int) (hz:Byt z) (n:Nat) (hn:n ≤ 2048) (w:World):Calls Tryz.prog 70 #[bval z,.int .i64 (n:Int)] w fun e w' => e = .returned (.int .i64 ((cntB (bt z) n:Nat):Int)) ∧ Below w.heap.size w w':=by
 have hB:=Blk.new w 32 256 z
 have HL0:Hid (Below w.heap.size w (w.alloc (.cells (Ks .u8 256 z).toArray 32))):=(Below.refl _ _).alloc (Nat.le_refl _) _
 go_enter Tryz.func70,Tryz.ntmps70
 go_wp2_with (first | (refine wp_loadBlk rfl _ rfl _ _ rfl hB ?_))
 refine (rOf4_any z hz _).mono ?_
 rintro e w1 ⟨q,rfl,hq,hl,hb1⟩
 have HLL:=Lib.hid hl
 have HL1:=Lib.hid (HL0.out.trans (hb1.mono HL0.out.size))
 have HCL:Hid (∀ k,cntB (bt z) k ≤ k):=fun k => cntB_le _ k
 clear hB hl hb1 HL0 hq hz
 go_wp2_with fail
 go_loop [6,7] (fun u v => ∃ i:Nat,i ≤ 2048 ∧ v = .int .i64 (i:Int) ∧ u = .int .i64 ((cntB (bt z) (min i n):Nat):Int)) (fun _ v => 2048 - (intOf v).toNat)
 case atStart => exact ⟨0,by omega,rfl,by rw [Nat.zero_min];rfl⟩
 case round =>
  obtain ⟨i,hi,rfl,rfl⟩:=hrel
  by_cases hlt:i < 2048
  ·have hlt':(i:Int) < 2048:=by omega
   have ci:w1.cell? ⟨q,i,none⟩ = some (.bool (bt z i)):=by
    have:=HLL.out.seg i hlt 0 _ rfl
    rwa [Nat.zero_add,Nat.mul_one,Nat.add_zero] at this
   by_cases hin:i < n
   ·have e1:min i n = i:=by omega
    have e2:min (i + 1) n = i + 1:=by omega
    rw [e1]
    have HN:Hid (cntB (bt z) (min (i + 1) n) = cntB (bt z) i + if bt z i then 1 else 0):=by show _ = _;rw [e2,cntB]
    have hc:=HCL.out i
    obtain ⟨C,hC⟩:∃ C,C = cntB (bt z) i:=⟨_,rfl⟩
    obtain ⟨V,hV⟩:∃ V,V = bt z i:=⟨_,rfl⟩
    rw [← hC] at HN hc ⊢
    rw [← hV] at HN ci
    have hin':(i:Int) < (n:Int):=by omega
    have hd:decide ((i:Int) < (n:Int)) = true:=decide_eq_true hin'
    have hd':decide (i < n) = true:=decide_eq_true hin
    clear hC hV e1 e2
    cases V with
    | true =>
     have HN2:Hid (cntB (bt z) (min (i + 1) n) = C + 1):=by show _ = _;rw [HN.out,if_pos rfl]
     clear HN
     go_wp2_with fail
     go_round
     case rel => exact ⟨i + 1,by omega,by go_num,by rw [HN2.out];go_num⟩
     case measure => simp [intOf];omega
    | false =>
     have HN2:Hid (cntB (bt z) (min (i + 1) n) = C):=by show _ = _;rw [HN.out,if_neg (by decide)];rfl
     clear HN
     go_wp2_with fail
     go_round
     case rel => exact ⟨i + 1,by omega,by go_num,by rw [HN2.out]⟩
     case measure => simp [intOf];omega
   ·have e1:min i n = n:=by omega
    have HN2:Hid (min (i + 1) n = min i n):=by show _ = _;omega
    have hd:decide ((i:Int) < (n:Int)) = false:=decide_eq_false (by omega)
    have hd':decide (i < n) = false:=decide_eq_false hin
    clear e1
    go_wp2_with fail
    go_round
    case rel => exact ⟨i + 1,by omega,by go_num,by rw [HN2.out]⟩
    case measure => simp [intOf];omega
  ·obtain rfl:i = 2048:=by omega
   have HE:Hid (min 2048 n = n):=by show _ = _;omega
   go_wp2_with fail
   go_ret
   exact ⟨rfl,HL1.out⟩
end Go.Proofs.YtphamecphmbipaaGreatDoor
