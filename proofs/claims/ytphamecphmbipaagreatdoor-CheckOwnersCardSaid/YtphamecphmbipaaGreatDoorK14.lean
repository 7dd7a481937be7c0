/- Texts of this claim, merged by a program (a claim may have 60 files): Open, Door, InoG, S8e, Ck0, S8f, S8g, W8a, S8h, W8b, S8i, S8j, Open15. -/
import Derived.WalkKit
import Derived.ProofKit
import Derived.OpenShut
import Derived.ChangeOld
import Derived.Below
import Derived.Deep.MidRow
import Derived.Test.YtphamecphmbipaaGreatDoorK02
import Derived.Test.YtphamecphmbipaaGreatDoorK06
import Derived.Test.YtphamecphmbipaaGreatDoorK10
import Derived.Deep.Slices
import Derived.ChangeSlices
import Derived.LaidMore
import Derived.MakeChecks
import Derived.Lib.LaidTab
import Derived.Test.YtphamecphmbipaaGreatDoorK04
import Derived.Test.YtphamecphmbipaaGreatDoorK03
import Derived.Test.YtphamecphmbipaaGreatDoorK13
import Derived.Test.YtphamecphmbipaaGreatDoorK11
import Derived.Lib.LazyBuf
import Derived.Test.YtphamecphmbipaaGreatDoorK08
import Derived.Test.YtphamecphmbipaaGreatDoorK12
namespace Go.Proofs.YtphamecphmbipaaGreatDoor
open Go.RowKit
set_option linter.unusedVariables false
variable {P:Program} {W:World} {base:Nat} {t:TypeId} {v:Value}
end Go.Proofs.YtphamecphmbipaaGreatDoor

namespace Go.Proofs.YtphamecphmbipaaGreatDoor
open Go.RowKit Go.ChangeShapes Go.WideShapes Go.ChangeAt Go.Deep
set_option linter.unusedVariables false
theorem tab_of_laid {W:World} (h:laidMetH Tryz.prog [("quern/crc.steps",Rows.laid_quern_crc_steps)] W):Tab W:=by
 rw [MakeChecks.laidMetH_plain _ _ _ (by kernel_rfl)] at h
 have hT:=Lib.tabIs_of_head (zs:=tabN.map fun (x:Nat) => (x:Int)) (k:=.u32) (g:=0) (by kernel_rfl) (by kernel_rfl) Tryz.underlying224 Tryz.underlying45 (by kernel_rfl) (by kernel_rfl) h
 intro i hi
 have:=hT.cell (g:=0) (by kernel_rfl) i (by simpa [tabN] using hi)
 rw [this]
 have key:∀ i,i < 16 → (tabN.map fun (x:Nat) => (x:Int)).getD i 0 = ((tabN.getD i 0:Nat):Int):=by decide
 rw [key i hi]
theorem door_met (os:Os) (args:Array Value):laidMetH Tryz.prog [("quern/crc.steps",Rows.laid_quern_crc_steps)] ((World.doorLaid Tryz.prog 14 os).forCall (fun _ _ => 0) ⟨#[],args,[]⟩).memory :=
 laidMetH_of_parts3 (fuel:=8) (laidMet_of_run' 8 (by kernel_rfl) (by kernel_rfl)) (by kernel_rfl) (by kernel_rfl)
end Go.Proofs.YtphamecphmbipaaGreatDoor

namespace Go.Proofs.YtphamecphmbipaaGreatDoor
open Go.RowKit Go.Shelf
set_option linter.unusedVariables false
def Ino.nil:Ino:=⟨0,0,0,0,fun _ => 0,0⟩
def inoOf (z:Nat → Int) (i:Nat):Ino:=⟨z i,g16 z (i + 2),g32 z (i + 4),g32 z (i + 8),fun k => g32 z (i + 12 + 4 * k),g32 z (i + 56)⟩
def inoAt' (z:Nat → Int) (i k:Nat):Ino:=⟨z i,g16 z (i + 2),g32 z (i + 4),g32 z (i + 8),fun j => if j < k then g32 z (i + 12 + 4 * j) else 0,0⟩
def getOkB (z:Nat → Int) (i:Nat):Bool:=z (i + 1) == 0 && (allZ (fun k => z (i + 60 + k)) 4 && decide (inoOf z i).May)
def getErr (z:Nat → Int) (a:Int):Int:=if placeB a then (if getOkB z a.toNat then 0 else 70) else 2
def getIno (z:Nat → Int) (a:Int):Ino:=if placeB a then (if getOkB z a.toNat then inoOf z a.toNat else .nil) else .nil
theorem inoOf_ok {z:Nat → Int} (hz:Byt z) (i:Nat):(inoOf z i).Ok:=by
 have h2:=g16_bd hz (i + 2)
 have h4:=g32_bd hz (i + 4)
 have h8:=g32_bd hz (i + 8)
 have h56:=g32_bd hz (i + 56)
 have h0:=hz i
 refine ⟨by simp only [inoOf];omega,by simp only [inoOf];omega,by simp only [inoOf];omega,by simp only [inoOf];omega,fun k => by have:=g32_bd hz (i + 12 + 4 * k);simp only [inoOf];omega,by simp only [inoOf];omega⟩
theorem nil_ok:Ino.nil.Ok:=by
 refine ⟨by simp [Ino.nil],by simp [Ino.nil],by simp [Ino.nil],by simp [Ino.nil],fun k => by simp [Ino.nil],by simp [Ino.nil]⟩
theorem getIno_ok {z:Nat → Int} (hz:Byt z) (a:Int):(getIno z a).Ok:=by
 unfold getIno
 split
 ·split
  ·exact inoOf_ok hz _
  ·exact nil_ok
 ·exact nil_ok
theorem heap_setCell_at {w:World} {g:Nat} {cs:Array Value} {T:TypeId} {fr:Nat × Nat} (h:w.heap[g]? = some (.cells cs T fr)) (j:Nat) (v:Value):(w.setCell ⟨g,j,none⟩ v).heap[g]? = some (.cells (cs.setIfInBounds j v) T fr):=by
 have hlt:=(Array.getElem?_eq_some_iff.1 h).1
 have hv:=(Array.getElem?_eq_some_iff.1 h).2
 rw [Array.getElem?_eq_getElem (by simpa [World.setCell] using hlt)]
 simp only [World.setCell,Array.getElem_modify,hv,if_true]
 rfl
theorem InoAt.set {w:World} {g:Nat} {T:TypeId} {x y:Ino} (h:InoAt w g T x) (j:Nat) (v:Value) (hy:x.arr.setIfInBounds j v = y.arr):InoAt (w.setCell ⟨g,j,none⟩ v) g T y:=by
 have:=heap_setCell_at h j v
 rw [hy] at this
 exact this
theorem arr_ptr (z:Nat → Int) (i k:Nat) (hk:k < 11):(inoAt' z i k).arr.setIfInBounds (4 + k) (.int .u32 (g32 z (i + 12 + 4 * k))) = (inoAt' z i (k + 1)).arr:=by
 obtain rfl | rfl | rfl | rfl | rfl | rfl | rfl | rfl | rfl | rfl | rfl:k = 0 ∨ k = 1 ∨ k = 2 ∨ k = 3 ∨ k = 4 ∨ k = 5 ∨ k = 6 ∨ k = 7 ∨ k = 8 ∨ k = 9 ∨ k = 10:=by omega
 all_goals rfl
theorem InoAt.new (w:World) (x:Ino):InoAt (w.alloc (.cells x.arr 63)) w.heap.size 63 x:=heap_alloc_new w _
theorem InoAt.alloc {w:World} {g:Nat} {T:TypeId} {x:Ino} (h:InoAt w g T x) (o:Obj):InoAt (w.alloc o) g T x:=heap_alloc_keep h o
theorem arr_one (x:Ino):x.arr.all (·.oneCell') = true:=by simp [Ino.arr,Value.oneCell']
theorem info_ino (x:Ino):(Tryz.prog.info? 63).map (·.size) = some x.arr.size:=by kernel_rfl
theorem wp_loadIno {w:World} {ops:Array Oper} {rest:List Oper} {o:Oper} {a:Act} {Q:Exit → Act → World → Prop} (hgd:o.guard = none) (p:Operand) (ho:o.op = .load 63 p)
  (g:Nat) (x:Ino) (hx:a.eval p = .pointer (some ⟨g,0,none⟩)) (hI:InoAt w g 63 x)
  (h:wpList Tryz.prog ops Q rest (a.put o.dst x.val) w):wpList Tryz.prog ops Q (o :: rest) a w :=
 wpList_load_row hgd 63 p ho g hx 63 x.arr (0,0) _ hI Tryz.underlying63 rfl (info_ino x) h
theorem wp_storeIno {w:World} {ops:Array Oper} {rest:List Oper} {o:Oper} {a:Act} {Q:Exit → Act → World → Prop} (hgd:o.guard = none) (p q:Operand) (ho:o.op = .store 63 p q)
  (g:Nat) (x old:Ino) (hx:a.eval p = .pointer (some ⟨g,0,none⟩)) (hy:a.eval q = x.val) (hI:InoAt w g 63 old)
  (h:∀ w',InoAt w' g 63 x → Only g w w' → wpList Tryz.prog ops Q rest (a.put o.dst undef) w'):wpList Tryz.prog ops Q (o :: rest) a w :=
 wpList_store_row hgd 63 p q ho g x.arr hx hy 63 _ hI (info_ino x) rfl (arr_one x) (h _ (setRow_heap w g _ x.arr _ _ hI) (only_setRow w g _ hI rfl))
theorem zero_ino (W:World):(zeroValue 63).run Tryz.prog W = .ok (.agg Ino.nil.arr) W:=by kernel_rfl
theorem results_ino {fn:Func} {p u:Tmp} (h:fn.results = #[.cell p 63,.tmp u]) (tmps:Array Value) (w:World) (g:Nat) (x:Ino)
  (hp:tmps.getD p undef = .pointer (some ⟨g,0,none⟩)) (hg:InoAt w g 63 x):(results fn tmps).run Tryz.prog w = .ok (.tuple #[x.val,tmps.getD u undef]) w :=
 results_row_tmp h tmps w g _ x.arr (0,0) _ hp hg Tryz.underlying63 rfl (info_ino x)
end Go.Proofs.YtphamecphmbipaaGreatDoor

namespace Go.Proofs.YtphamecphmbipaaGreatDoor
open Go.RowKit
set_option linter.unusedVariables false
def fS (z:Nat → Int) (s:ByteArray):Int:=firstB (hitB (sdI z) (sdN z) s) 8
def fI (z:Nat → Int) (s:ByteArray):Int:=if fS z s = -1 then 0 else sdI z (fS z s).toNat
def ListRead (w:World) (z:Nat → Int) (e:Ending) (w':World):Prop :=
 Below w.heap.size w w' ∧ (dirB z = false ∧ e = .returned (.tuple #[.slice none 0 0,.int .i64 80]) ∨
  dirB z = true ∧ ∃ g,w.heap.size ≤ g ∧ e = .returned (.tuple #[.slice (some ⟨g,0,none⟩) 8 8,.int .i64 0]) ∧ At w' g 172 (Sc (dI z) (dM z) 8).toArray)
theorem run_slotsAll (g:Nat) (W:World):(Instr.sliceAt 172 (.pointer (some ⟨g,0,none⟩)) none none none).run Tryz.prog W = .ok (.slice (some ⟨g,0,none⟩) 8 8) W:=by kernel_rfl
theorem read_yes {z:Nat → Int} (h:dirB z = true):Sc (sdI z) (sdN z) 8 = Sc (dI z) (dM z) 8:=Sc_congr fun i _ => by unfold sdI sdN;rw [h];exact ⟨rfl,rfl⟩
set_option maxRecDepth 100000 in
set_option maxHeartbeats 1000000 in
theorem list_any (z:Nat → Int) (hz:Byt z) (w:World):Calls Tryz.prog 54 #[bval z] w (ListRead w z):=by
 have hal:=zero_slots
 have hB:=Blk.new w 32 256 z
 have hL:Below w.heap.size w (w.alloc (.cells (Ks .u8 256 z).toArray 32)):=(Below.refl _ _).alloc (Nat.le_refl _) _
 have HB:=Lib.hid hB
 have HL:=Lib.hid hL
 clear hB hL
 go_enter Tryz.func54,Tryz.ntmps54
 go_wp2_with fail
 refine (read_any w.heap.size z hz _ HB.out).mono ?_
 rintro e w1 ⟨rfl,hb1⟩
 have hL1:Below w.heap.size w w1:=HL.out.trans (hb1.mono HL.out.size)
 have hA1:=At.new w1 172 (Sc noI noN 8).toArray
 clear HB HL hb1
 have hsl:=fun W => run_slotsAll w1.heap.size W
 cases hd:dirB z with
 | false =>
  have HD:=Lib.hid hd
  clear hd
  go_wp2_with (first | (refine wp_storeAt rfl 172 _ _ rfl _ (Sc (sdI z) (sdN z) 8).toArray _ rfl rfl hA1 (info_slots _ _) (by rw [Sc_size,Sc_size]) (one_slots _ _) ?_))
  intro w2 hA2 ho2
  have hL2:Below w.heap.size w w2:=(hL1.alloc hL1.size _).trans (ho2.below hL1.size)
  clear hA1 hL1 ho2 hal
  go_wp2_with fail
  go_ret2
  exact ⟨hL2,.inl ⟨HD.out,rfl⟩⟩
 | true =>
  have HD:=Lib.hid hd
  clear hd
  go_wp2_with (first | (refine wp_storeAt rfl 172 _ _ rfl _ (Sc (sdI z) (sdN z) 8).toArray _ rfl rfl hA1 (info_slots _ _) (by rw [Sc_size,Sc_size]) (one_slots _ _) ?_))
  intro w2 hA2 ho2
  have hL2:Below w.heap.size w w2:=(hL1.alloc hL1.size _).trans (ho2.below hL1.size)
  have hfin:Hid (ListRead w z (.returned (.tuple #[.slice (some ⟨w1.heap.size,0,none⟩) 8 8,.int .i64 0])) w2):=⟨hL2,.inr ⟨HD.out,_,hL1.size,rfl,by rw [← read_yes HD.out];exact hA2⟩⟩
  clear hA1 hL1 ho2 hal
  go_wp2_with fail
  go_ret2
  exact hfin.out
def bt (z:Nat → Int) (i:Nat):Bool:=(z (i / 8)).toNat.testBit (i % 8)
def foldO {σ:Type} (f:Nat → σ → Option σ):Nat → σ → Option σ
 | 0,o => some o
 | n + 1,o => (foldO f n o).bind (f n)
def updN {α:Type} (f:Nat → α) (k:Nat) (v:α):Nat → α:=fun b => if b = k then v else f b
def cntB (p:Nat → Bool):Nat → Nat
 | 0 => 0
 | n + 1 => cntB p n + (if p n then 1 else 0)
structure Im where
 L:Nat → Nat → Int
 n:Nat
 g:Nat
 s:Nat
 i:Nat
 j:Nat
 o:Nat
namespace Im
variable (x:Im)
def st (k:Nat):Nat:=2 + x.j + k * x.s
def own:Nat:=2 + x.i / 4
def ni:Nat:=x.g * x.i
def ib (t:Nat):Nat:=x.st ((t - 1) / x.i) + 2 + (t - 1) % x.i / 4
def ia (t:Nat):Nat:=(t - 1) % x.i % 4 * 64
def ino (t:Nat):Ino:=if 1 ≤ t ∧ t ≤ x.ni then getIno (x.L (x.ib t)) (x.ia t) else Ino.nil
def data (b:Nat):Bool:=decide (2 + x.j ≤ b) && (decide (b < x.n) && decide (x.own ≤ (b - (2 + x.j)) % x.s))
def ck1:Bool:=decide (0 < x.n) && (readE (x.L 0) == 0 && ((x.n:Int) == nBl (hd (x.L 0) 4) (hd (x.L 0) 5) (hd (x.L 0) 6) (hd (x.L 0) 7)))
def ck2:Bool:=rdOk x.g x.s x.i x.j (x.L 1)
def allS (P:Nat → Bool) (lo hi:Nat):Bool:=allB (fun k => P (lo + k)) (hi - lo)
def ck3 (k:Nat):Bool:=allS (bt (x.L (x.st k))) 0 x.own && (allS (bt (x.L (x.st k))) x.s 2048 && allS (bt (x.L (x.st k + 1))) x.i 2048)
def used (t:Nat):Bool:=bt (x.L (x.st ((t - 1) / x.i) + 1)) ((t - 1) % x.i)
def ck4 (t:Nat):Bool:=getErr (x.L (x.ib t)) (x.ia t) == 0 && (x.used t == ((x.ino t).kind != 0))
def orpF:Nat → Nat → (Nat → Bool) → Option (Nat → Bool)
 | 0,_,_ => none
 | f + 1,t,m => if t = 0 then some m else if t ≤ x.ni ∧ m t = false ∧ (x.ino t).kind = 1 then orpF f (x.ino t).next.toNat (updN m t true) else none
def orph:Option (Nat → Bool):=x.orpF (x.ni + 2) x.o (fun _ => false)
def ck6 (m:Nat → Bool) (t:Nat):Bool:=m t || ((x.ino t).next == 0 && ((x.ino t).kind != 1 || (x.ino t).links != 0))
def lvl (q:Nat):Nat:=if q < 8 then 0 else q - 7
def fst (q:Nat):Nat:=if q < 9 then q else if q = 9 then 72 else 4168
def spn (l:Nat):Nat:=64 ^ l
def wrd (b k:Nat):Nat:=(g32 (x.L b) (4 * k)).toNat
def ptrF (t:Nat):Nat → Nat → Nat → Nat → (Nat → Nat) → Option (Nat → Nat)
 | 0,p,first,en,o => if p = 0 then some o else if first < min en 65536 ∧ x.data p = true ∧ o p = 0 then some (updN o p t) else none
 | l + 1,p,first,en,o => if p = 0 then some o else if first < min en 65536 ∧ x.data p = true ∧ o p = 0 then foldO (fun k o => ptrF t l (x.wrd p k) (first + k * spn l) en o) 64 (updN o p t) else none
def en (m:Nat → Bool) (t:Nat):Nat:=if m t then 65536 else ((x.ino t).size.toNat + 255) / 256
def treeF (m:Nat → Bool) (t:Nat) (o:Nat → Nat):Option (Nat → Nat) :=
 if (x.ino t).kind = 0 then some o else foldO (fun q o => x.ptrF t (lvl q) ((x.ino t).p q).toNat (fst q) (x.en m t) o) 11 o
def trees (m:Nat → Bool):Option (Nat → Nat):=foldO (fun t o => x.treeF m (t + 1) o) x.ni (fun _ => 0)
def ck8 (o:Nat → Nat) (k:Nat):Bool:=allB (fun d => bt (x.L (x.st k)) (x.own + d) == (o (x.st k + (x.own + d)) != 0)) (x.s - x.own)
def wayP (i:Nat):Nat:=if i < 8 then i else if i < 72 then 8 else if i < 4168 then 9 else 10
def wayB (i:Nat):List Nat:=if i < 8 then [] else if i < 72 then [i - 8] else if i < 4168 then [(i - 72) / 64,(i - 72) % 64] else [(i - 4168) / 4096,(i - 4168) % 4096 / 64,(i - 4168) % 64]
def step (b k:Nat):Nat:=if b = 0 then 0 else x.wrd b k
def blk (t i:Nat):Nat:=(wayB i).foldl x.step ((x.ino t).p (wayP i)).toNat
def slotF (z:Nat → Int) (k:Nat) (r:List (List UInt8) × List Nat):Option (List (List UInt8) × List Nat) :=
 if dI z k = 0 then some r else if (dM z k).data.toList ∉ r.1 ∧ (dI z k).toNat ≤ x.ni ∧ (x.ino (dI z k).toNat).kind ≠ 0 then some (r.1 ++ [(dM z k).data.toList],r.2 ++ [(dI z k).toNat]) else none
def dirB' (t i:Nat) (r:List (List UInt8) × List Nat):Option (List (List UInt8) × List Nat) :=
 if x.blk t i ≠ 0 ∧ dirB (x.L (x.blk t i)) = true then foldO (x.slotF (x.L (x.blk t i))) 8 r else none
def dirF (t:Nat):Option (List (List UInt8) × List Nat):=foldO (x.dirB' t) ((x.ino t).size.toNat / 256) ([],[])
def dirs:Option (Nat → List Nat):=foldO (fun t u => if (x.ino (t + 1)).kind = 2 then (x.dirF (t + 1)).map (fun r => updN u (t + 1) r.2) else some u) x.ni (fun _ => [])
def cnt (u:Nat → List Nat) (t:Nat):Nat → Nat
 | 0 => 0
 | n + 1 => cnt u t n + (u n).count t
def ck10 (u:Nat → List Nat) (t:Nat):Bool :=
 if t = 1 then cnt u t (x.ni + 1) == 0 else if (x.ino t).kind = 2 then cnt u t (x.ni + 1) == 1 else if (x.ino t).kind = 1 then ((cnt u t (x.ni + 1):Nat):Int) == (x.ino t).links else true
def come1 (c:(Nat → Bool) × List Nat) (t:Nat):(Nat → Bool) × List Nat:=if (x.ino t).kind = 2 ∧ c.1 t = false then (updN c.1 t true,t :: c.2) else c
def popF (u:Nat → List Nat):Nat → (Nat → Bool) × List Nat → Nat → Bool
 | 0,c => c.1
 | f + 1,(c,[]) => c
 | f + 1,(c,t :: r) => popF u f ((u t).foldl x.come1 (c,r))
def reach (u:Nat → List Nat):Nat → Bool:=x.popF u (x.ni + 2) (updN (fun _ => false) 1 true,[1])
def ck11 (c:Nat → Bool) (t:Nat):Bool:=(x.ino t).kind != 2 || c t
def free (k:Nat):Int:=(x.s:Int) - (cntB (bt (x.L (x.st k))) x.s:Nat)
def freeI (k:Nat):Int:=(x.i:Int) - (cntB (bt (x.L (x.st k + 1))) x.i:Nat)
def nDir (k:Nat):Nat:=cntB (fun b => (x.ino (k * x.i + b + 1)).kind == 2) x.i
def ck12 (k:Nat):Bool:=x.free k == rB (x.L 1) k && (x.freeI k == rI (x.L 1) k && ((x.nDir k:Nat):Int) == rD (x.L 1) k)
def exam:Nat × (Nat → Nat) :=
 if x.ck1 = false then (1,fun _ => 0) else if x.ck2 = false then (2,fun _ => 0) else if allB x.ck3 x.g = false then (3,fun _ => 0)
 else if allB (fun t => x.ck4 (t + 1)) x.ni = false then (4,fun _ => 0) else if (x.ino 1).kind ≠ 2 then (5,fun _ => 0)
 else match x.orph with
 | none => (6,fun _ => 0)
 | some m =>
  if allB (fun t => x.ck6 m (t + 1)) x.ni = false then (6,fun _ => 0) else match x.trees m with
  | none => (7,fun _ => 0)
  | some o => if allB (x.ck8 o) x.g = false then (8,fun _ => 0) else match x.dirs with
   | none => (9,fun _ => 0)
   | some u =>
    if allB (fun t => x.ck10 u (t + 1)) x.ni = false then (10,fun _ => 0) else if allB (x.ck11 (x.reach u)) (x.ni + 1) = false then (11,fun _ => 0)
    else if allB x.ck12 x.g = false then (12,fun _ => 0) else (0,o)
def of (L:Nat → Nat → Int) (n:Nat):Im:=⟨L,n,(hd (L 0) 4).toNat,(hd (L 0) 5).toNat,(hd (L 0) 6).toNat,(hd (L 0) 7).toNat,(g32 (L 0) 16).toNat⟩
end Im
def bz (s:ByteArray):Nat → Int:=fun j => ((s.data.toList.getD j 0).toNat:Int)
theorem byt_bz (s:ByteArray):Byt (bz s):=fun j => by unfold bz;have:=(s.data.toList.getD j 0).toNat_lt;omega
def mkS (s:ByteArray) (ino:Int):Nat → Int:=fun j => if j < 4 then byteOf ino j else if j = 4 then (s.size:Int) else if j - 5 < s.size then bz s (j - 5) else 0
def putS (z:Nat → Int) (i:Nat) (y:Nat → Int):Nat → Int:=over z (32 * i) 32 y
def freeS (z:Nat → Int):Int:=firstB (fun i => sdI z i == 0) 8
def addE (z:Nat → Int) (s:ByteArray) (ino:Int):Int :=
 if dirB z = false then 80 else if mayB s = false ∨ ino = 0 ∨ fS z s ≠ -1 then 2 else if freeS z = -1 then 4 else 0
def addZ (z:Nat → Int) (s:ByteArray) (ino:Int):Nat → Int:=if addE z s ino = 0 then putS z (freeS z).toNat (mkS s ino) else z
def remB (z:Nat → Int) (s:ByteArray):Bool:=fS z s != -1
def remZ (z:Nat → Int) (s:ByteArray):Nat → Int:=if remB z s then putS z (fS z s).toNat (fun _ => 0) else z
theorem byt_mkS {s:ByteArray} (ino:Int) (h:s.size ≤ 27):Byt (mkS s ino):=fun j => by
 unfold mkS
 split
 ·exact byteOf_bd _ _
 ·split
  ·omega
  ·split
   ·exact byt_bz s _
   ·decide
theorem byt_zero:Byt (fun _ => 0):=fun _ => (by decide:(0:Int) ≤ 0 ∧ (0:Int) < 256)
def sAb:ByteArray:=⟨#[97,98]⟩
def sC:ByteArray:=⟨#[99]⟩
def sDot:ByteArray:=⟨#[46]⟩
def sD:ByteArray:=⟨#[100]⟩
def z0:Nat → Int:=fun _ => 0
def z1:Nat → Int:=addZ z0 sAb 7
def z2:Nat → Int:=addZ z1 sC 8
def z3:Nat → Int:=remZ z2 sAb
def z4:Nat → Int:=addZ z3 sD 9
theorem a4:fI z2 sC = 8:=by decide +kernel
theorem a5:addE z2 sC 1 = 2:=by decide +kernel
theorem a6:addE z2 sDot 1 = 2:=by decide +kernel
theorem a7:remB z2 sAb = true:=by decide +kernel
theorem a8:addE z3 sD 9 = 0:=by decide +kernel
theorem a9:fS z4 sD = 0:=by decide +kernel
end Go.Proofs.YtphamecphmbipaaGreatDoor

namespace Go.Proofs.YtphamecphmbipaaGreatDoor
open Go.RowKit Go.ChangeShapes Go.WideShapes Go.ChangeAt Go.Deep
set_option linter.unusedVariables false
theorem ints_in {H:Type} {enc:TypeId × Value → H} {W:World} {a:Option Addr} {len cap:Nat} {d:DataW H} {p:List MemPlace} (h:DataW.Trod enc Tryz.prog W 0 (fun _ => true) true 37 (.slice a len cap) d p) :
  ∃ m:Nat → Int,RRow W a 1 len (inF m) ∧ (∀ i,-9223372036854775808 ≤ m i ∧ m i ≤ 9223372036854775807) ∧ (len:Int) ≤ 9223372036854775807 ∧ (a = none → len = 0 ∧ cap = 0):=by
 obtain ⟨fuel,hf⟩:=h
 rcases open_ints Tryz.underlying37 Tryz.underlying3 (by kernel_rfl) hf with ⟨hcs,_⟩ | ⟨x,l,c,zs,hcs,_,hl,hm,hz,_,hcell,hwz⟩
 ·simp [Value.cells] at hcs
  obtain ⟨rfl,rfl,rfl⟩:=hcs
  exact ⟨fun _ => 0,.inl rfl,fun _ => ⟨(by decide:(-9223372036854775808:Int) ≤ 0),(by decide:(0:Int) ≤ 9223372036854775807)⟩,by omega,fun _ => ⟨rfl,rfl⟩⟩
 ·simp [Value.cells] at hcs
  obtain ⟨rfl,rfl,rfl⟩:=hcs
  have hmax:maxLen = 9223372036854775807:=rfl
  have hzl:len ≤ zs.length:=by rw [hz];split <;> omega
  refine ⟨fun i => zs.getD i 0,?_,?_,by omega,fun h => by cases h⟩
  ·by_cases h0:len = 0
   ·exact .inl h0
   ·obtain ⟨b,off,spot⟩:=x
    have hc:=hcell 0 (by omega)
    have hspot:spot = none:=by simpa [Addr.add] using World.cell?_spot hc
    subst hspot
    refine .inr ⟨b,off,rfl,fun i hi j v hv => ?_⟩
    have hc:=hcell i (by omega)
    rw [addr_add] at hc
    cases j with
    | zero => rw [Nat.mul_one,Nat.add_zero,hc];exact hv
    | succ j => cases hv
  ·intro i
   show _ ≤ zs.getD i 0 ∧ zs.getD i 0 ≤ _
   by_cases hi:i < zs.length
   ·exact bounds_i64 (hwz (zs.getD i 0) (by rw [List.getD_eq_getElem?_getD,List.getElem?_eq_getElem hi];exact List.getElem_mem _))
   ·have:zs.getD i 0 = 0:=by rw [List.getD_eq_getElem?_getD,List.getElem?_eq_none (by omega)];rfl
    rw [this];decide
set_option maxRecDepth 100000 in
theorem chs_in {H:Type} {enc:TypeId × Value → H} {W:World} {a:Option Addr} {len cap:Nat} {d:DataW H} {p:List MemPlace} (h:DataW.Trod enc Tryz.prog W 0 (fun _ => true) true 25 (.slice a len cap) d p) :
  ∃ (xb xt xo:Nat → Int),RRow W a 3 len (chF xb xt xo) ∧ (∀ i,-9223372036854775808 ≤ xb i ∧ xb i ≤ 9223372036854775807) ∧ (∀ i,-9223372036854775808 ≤ xt i ∧ xt i ≤ 9223372036854775807) ∧ (∀ i,0 ≤ xo i ∧ xo i < 256) ∧ (len:Int) ≤ 9223372036854775807 ∧ (∀ b off,a = some ⟨b,off,none⟩ → 0 < len → b < W.heap.size):=by
 obtain ⟨fuel,hf⟩:=h
 rcases open_slice Tryz.underlying25 hf with ⟨hcs,_⟩ | ⟨x,l,c,m,nn,DD,Pl,hcs,_,hl,hm,hmm,_,hall⟩
 ·simp [Value.cells] at hcs
  obtain ⟨rfl,rfl,rfl⟩:=hcs
  exact ⟨fun _ => 0,fun _ => 0,fun _ => 0,.inl rfl,fun _ => ⟨(by decide:(-9223372036854775808:Int) ≤ 0),(by decide:(0:Int) ≤ 9223372036854775807)⟩,fun _ => ⟨(by decide:(-9223372036854775808:Int) ≤ 0),(by decide:(0:Int) ≤ 9223372036854775807)⟩,fun _ => ⟨Int.le_refl 0,(by decide:(0:Int) < 256)⟩,by omega,fun b off e => by cases e⟩
 ·simp [Value.cells] at hcs
  obtain ⟨rfl,rfl,rfl⟩:=hcs
  have hmax:maxLen = 9223372036854775807:=rfl
  have hlm:len ≤ m:=by rw [hmm];split <;> omega
  have hce:Tryz.prog.cellsOf 149 = 3:=by kernel_rfl
  rw [hce] at hall
  have key:∀ i,i < len → ∃ (b e g:Int),W.cell? (x.add (i * 3)) = some (.int .i64 b) ∧ W.cell? (x.add (i * 3 + 1)) = some (.int .i64 e) ∧ W.cell? (x.add (i * 3 + 2)) = some (.int .u8 g) ∧ (-9223372036854775808 ≤ b ∧ b ≤ 9223372036854775807) ∧ (-9223372036854775808 ≤ e ∧ e ≤ 9223372036854775807) ∧ 0 ≤ g ∧ g < 256:=by
   intro i hi
   obtain ⟨cs',h1,h2⟩:=hall i (by omega)
   obtain ⟨_,hlen,hcell⟩:=World.cells?_some h1
   obtain ⟨xs,k,_,_,_,hxl,hfl⟩:=DataW.trod_struct Tryz.underlying149 h2
   match xs,hxl,cs',hlen with
   | [y0,y1,y2],_,[v0,v1,v2],_ =>
    have g0:=hfl 0 _ rfl
    have g1:=hfl 1 _ rfl
    have g2:=hfl 2 _ rfl
    have hci:Tryz.prog.cellsOf 3 = 1:=by kernel_rfl
    have hcu:Tryz.prog.cellsOf 5 = 1:=by kernel_rfl
    simp [hci,hcu] at g0 g1 g2
    obtain ⟨b,e0,_,wb⟩:=DataW.trod_int Tryz.underlying3 g0
    obtain ⟨e,e1,_,we⟩:=DataW.trod_int Tryz.underlying3 g1
    obtain ⟨g,e2,_,wg⟩:=DataW.trod_int Tryz.underlying5 g2
    simp at e0 e1 e2
    have bb:=bounds_i64 wb
    have be:=bounds_i64 we
    have bg:=bounds_u8 wg
    have c0:=hcell 0 (by omega)
    have c1:=hcell 1 (by omega)
    have c2:=hcell 2 (by omega)
    rw [add_add] at c0 c1 c2
    exact ⟨b,e,g,by simpa [e0] using c0,by simpa [e1] using c1,by simpa [e2] using c2,bb,be,by omega,by omega⟩
  refine ⟨fun i => if hi:i < len then (key i hi).choose else 0,fun i => if hi:i < len then (key i hi).choose_spec.choose else 0,fun i => if hi:i < len then (key i hi).choose_spec.choose_spec.choose else 0,?_,?_,?_,?_,by omega,?_⟩
  ·by_cases h0:len = 0
   ·exact .inl h0
   ·obtain ⟨b,off,spot⟩:=x
    have hc:=(key 0 (by omega)).choose_spec.choose_spec.choose_spec.1
    have hspot:spot = none:=by simpa [Addr.add] using World.cell?_spot hc
    subst hspot
    refine .inr ⟨b,off,rfl,fun i hi j v hv => ?_⟩
    have hk:=(key i hi).choose_spec.choose_spec.choose_spec
    have hj3:j < 3:=(List.getElem?_eq_some_iff.1 hv).1
    unfold chF at hv
    simp only [hi,dif_pos] at hv
    rw [Nat.add_assoc,← addr_add]
    obtain rfl | rfl | rfl:j = 0 ∨ j = 1 ∨ j = 2:=by omega
    ·rw [← hv];exact hk.1
    ·rw [← hv];exact hk.2.1
    ·rw [← hv];exact hk.2.2.1
  ·intro i
   by_cases hi:i < len
   ·simp only [hi,dif_pos];exact (key i hi).choose_spec.choose_spec.choose_spec.2.2.2.1
   ·simp only [hi,dif_neg,not_false_eq_true];decide
  ·intro i
   by_cases hi:i < len
   ·simp only [hi,dif_pos];exact (key i hi).choose_spec.choose_spec.choose_spec.2.2.2.2.1
   ·simp only [hi,dif_neg,not_false_eq_true];decide
  ·intro i
   by_cases hi:i < len
   ·simp only [hi,dif_pos];exact (key i hi).choose_spec.choose_spec.choose_spec.2.2.2.2.2
   ·simp only [hi,dif_neg,not_false_eq_true];decide
  ·intro b off e h0
   injection e with e
   subst e
   have hc:=(key 0 h0).choose_spec.choose_spec.choose_spec.1
   exact World.block_lt_of_cell? W _ hc
end Go.Proofs.YtphamecphmbipaaGreatDoor
