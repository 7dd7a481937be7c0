/- Texts of this claim, merged by a program (a claim may have 60 files): Pl0, Pl1, Aw0. -/
import Derived.Test.YtnbmmhoofilmfaaGreatDoorK13
import Derived.Test.YtnbmmhoofilmfaaGreatDoorK16
import Derived.Test.YtnbmmhoofilmfaaGreatDoorK17
import Derived.Test.YtnbmmhoofilmfaaGreatDoorK24
import Derived.Test.YtnbmmhoofilmfaaGreatDoorK04
import Derived.Test.YtnbmmhoofilmfaaGreatDoorK21
import Derived.Test.YtnbmmhoofilmfaaGreatDoorK02
import Derived.Test.YtnbmmhoofilmfaaGreatDoorK25
namespace Go.Proofs.YtnbmmhoofilmfaaGreatDoor
open Go.RowKit
set_option linter.unusedVariables false
structure MS where
 L:Nat → Nat → Int
 next:Nat
def turnZ (z:Nat → Int) (i:Nat):Nat → Int:=bZ (setB (bt z) i)
namespace MS
def put (m:MS) (b:Nat) (z:Nat → Int):MS:={ m with L:=updN m.L b z }
def set (x:Im) (m:MS) (k d bit:Nat):MS:=m.put (x.st k + d) (turnZ (m.L (x.st k + d)) bit)
def grp (x:Im) (b:Nat):Nat:=(b - (2 + x.j)) / x.s
def plc (x:Im) (b:Nat):Nat:=(b - (2 + x.j)) % x.s
def takeF (x:Im):Nat → MS → Nat × MS
 | 0,m => (0,m)
 | f + 1,m => if x.data m.next = true then (m.next,set x { m with next:=m.next + 1 } (grp x m.next) 0 (plc x m.next)) else takeF x f { m with next:=m.next + 1 }
def take (x:Im) (m:MS):Nat × MS:=takeF x (x.n - m.next) m
def down (x:Im):List Nat → Nat → MS → Nat × MS
 | [],b,m => (b,m)
 | k :: ks,b,m =>
  if b = 0 then (0,m)
  else if (g32 (m.L b) (4 * k)).toNat = 0 then
   down x ks (m.take x).1 ((m.take x).2.put b (over ((m.take x).2.L b) (4 * k) 4 (byteOf ((m.take x).1:Nat))))
  else down x ks (g32 (m.L b) (4 * k)).toNat m
def hang (x:Im) (y:Ino) (i:Int) (m:MS):Nat × Ino × MS :=
 if i < 0 ∨ 65536 ≤ i then (0,y,m)
 else if y.p (Im.wayP i.toNat) = 0 then
  ((down x (Im.wayB i.toNat) (m.take x).1 (m.take x).2).1,{ y with p:=fun q => if q = Im.wayP i.toNat then (((m.take x).1:Nat):Int) else y.p q },(down x (Im.wayB i.toNat) (m.take x).1 (m.take x).2).2)
 else ((down x (Im.wayB i.toNat) (y.p (Im.wayP i.toNat)).toNat m).1,y,(down x (Im.wayB i.toNat) (y.p (Im.wayP i.toNat)).toNat m).2)
end MS
structure PF where
 kind:Int
 size:Int
 nb:Nat
 bl:Nat → Int
 nn:Nat
 dir:Nat → Int
 nm:Nat → ByteArray
 orp:Bool
 links:Int
structure PlanD where
 nf:Nat
 f:Nat → PF
 nc:Nat
 cb:Nat → Int
 ca:Nat → Int
 co:Nat → Int
 sums:Bool
abbrev Slt:=Nat × ByteArray
namespace PlanD
variable (P:PlanD)
def n (x:Im):Nat:=min P.nf (x.ni - 1)
structure IS where
 ino:Nat → Ino
 sl:Nat → List Slt
def nameF (N i k:Nat) (a:IS):IS :=
 if 0 ≤ (P.f (i - 1)).dir k ∧ (P.f (i - 1)).dir k ≤ (N:Int) then
  ⟨updN a.ino i { a.ino i with links:=IntKind.i64.wrap ((a.ino i).links + 1) },updN a.sl ((P.f (i - 1)).dir k).toNat (a.sl ((P.f (i - 1)).dir k).toNat ++ [(i + 1,(P.f (i - 1)).nm k)])⟩
 else a
def itr {α:Type} (f:Nat → α → α):Nat → α → α
 | 0,a => a
 | n + 1,a => f n (itr f n a)
def fileF (N i:Nat) (a:IS):IS :=
 itr (P.nameF N i) (P.f (i - 1)).nn { a with ino:=updN a.ino i ⟨(P.f (i - 1)).kind,(P.f (i - 1)).links,(i:Int),(P.f (i - 1)).size,fun _ => 0,0⟩ }
def is0:IS:=⟨updN (fun _ => Ino.nil) 0 ⟨2,1,1,0,fun _ => 0,0⟩,fun _ => []⟩
def isF (N:Nat) (k:Nat):IS:=itr (fun i a => P.fileF N (i + 1) a) k is0
structure HS where
 y:Ino
 m:MS
def slotH (x:Im) (l:List Slt) (k:Nat) (h:HS):HS :=
 let r:=MS.hang x h.y ((k / 8:Nat):Int) h.m
 ⟨r.2.1,if 0 < r.1 ∧ (l.getD k default).2.size ≤ 27 then r.2.2.put r.1 (putS (r.2.2.L r.1) (k % 8) (bS ((l.getD k default).1:Nat) (l.getD k default).2)) else r.2.2⟩
def blockH (x:Im) (bl:Nat → Int) (k:Nat) (h:HS):HS :=
 let r:=MS.hang x h.y (bl k) h.m
 ⟨r.2.1,if 0 < r.1 then r.2.2.put r.1 (over (r.2.2.L r.1) 0 1 (fun _ => ((k + 1:Nat):Int) % 256)) else r.2.2⟩
def inoH (x:Im) (l:List Slt) (i:Nat) (h:HS):HS :=
 if h.y.kind = 2 then itr (slotH x l) l.length { h with y:={ h.y with size:=256 * (((l.length + 7) / 8:Nat):Int) } }
 else if i = 0 then h else itr (blockH x (P.f (i - 1)).bl) (P.f (i - 1)).nb h
structure FS where
 ino:Nat → Ino
 m:MS
def fillF (x:Im) (sl:Nat → List Slt) (i:Nat) (a:FS):FS :=
 let h:=P.inoH x (sl i) i ⟨a.ino i,a.m⟩
 ⟨updN a.ino i h.y,h.m⟩
def fill (x:Im) (a:IS) (m:MS) (k:Nat):FS:=itr (P.fillF x a.sl) k ⟨a.ino,m⟩
structure OS where
 o:Nat
 last:Nat
 ino:Nat → Ino
def orpG (i:Nat) (a:OS):OS :=
 if (P.f i).orp = true then
  (if a.last = 0 then ⟨i + 2,i + 1,a.ino⟩ else ⟨a.o,i + 1,updN a.ino a.last { a.ino a.last with next:=((i + 2:Nat):Int) }⟩)
 else a
def orps (ino:Nat → Ino) (k:Nat):OS:=itr P.orpG k ⟨0,0,ino⟩
structure TS where
 L:Nat → Nat → Int
 d:Nat → Int
def tabF (x:Im) (ino:Nat → Ino) (i:Nat) (a:TS):TS :=
 let L1:=updN a.L (x.ib (i + 1)) (putZ (a.L (x.ib (i + 1))) (x.ia (i + 1):Nat) (ino i))
 ⟨if (ino i).kind ≠ 0 then updN L1 (x.st (i / x.i) + 1) (turnZ (L1 (x.st (i / x.i) + 1)) (i % x.i)) else L1,if (ino i).kind = 2 then updN a.d (i / x.i) (a.d (i / x.i) + 1) else a.d⟩
def tab (x:Im) (L:Nat → Nat → Int) (ino:Nat → Ino) (k:Nat):TS:=itr (tabF x ino) k ⟨L,fun _ => 0⟩
def headsL (x:Im) (o:Nat) (t:TS):Nat → Nat → Int :=
 updN (updN t.L 0 (supZ x.g x.s x.i x.j (o:Nat))) 1 (descZ x.g x.s x.i x.j x.g (fun k => (x.s:Int) - (cntB (bt (t.L (x.st k))) x.s:Nat)) (fun k => (x.i:Int) - (cntB (bt (t.L (x.st k + 1))) x.i:Nat)) t.d)
def chgF (n:Nat) (k:Nat) (L:Nat → Nat → Int):Nat → Nat → Int :=
 if 0 ≤ P.cb k ∧ P.cb k < (n:Int) then
  updN L (P.cb k).toNat (over (L (P.cb k).toNat) (P.ca k % 256).toNat 1 (fun _ => (((L (P.cb k).toNat (P.ca k % 256).toNat).toNat ^^^ (P.co k).toNat:Nat):Int)))
 else L
def sumF (k:Nat) (L:Nat → Nat → Int):Nat → Nat → Int:=updN L k (sealZ (L k))
def img (x:Im):Nat → Nat → Int :=
 let N:=P.n x
 let a:=P.isF N N
 let h:=P.fill x a ⟨mkB x.g x.s x.i x.j,0⟩ (N + 1)
 let s:=P.orps h.ino N
 let t:=tab x h.m.L s.ino (N + 1)
 let L:=itr (P.chgF x.n) P.nc (headsL x s.o t)
 if P.sums then sumF 1 (sumF 0 L) else L
end PlanD
theorem turnZ_byt (z:Nat → Int) (i:Nat):Byt (turnZ z i):=bZ_byt _
namespace MS
variable {x:Im}
structure Wf (x:Im) (m:MS) (lev:Nat → Nat):Prop where
 byt:∀ b,Byt (m.L b)
 zero:∀ b,m.next ≤ b → x.data b = true → ∀ k,m.L b k = 0
 ptr:∀ b k,x.data b = true → b < m.next → 0 < lev b → k < 64 → (g32 (m.L b) (4 * k)).toNat = 0 ∨ (x.data (g32 (m.L b) (4 * k)).toNat = true ∧ (g32 (m.L b) (4 * k)).toNat < m.next ∧ lev (g32 (m.L b) (4 * k)).toNat + 1 = lev b)
 le:m.next ≤ x.n
def Pt (x:Im) (m:MS) (lev:Nat → Nat) (l v:Nat):Prop:=v = 0 ∨ (x.data v = true ∧ v < m.next ∧ lev v = l)
structure Ext (x:Im) (m:MS) (lev:Nat → Nat) (m':MS) (lev':Nat → Nat):Prop where
 le:m.next ≤ m'.next
 lev:∀ b,x.data b = true → b < m.next → lev' b = lev b
theorem Ext.refl (m:MS) (lev:Nat → Nat):Ext x m lev m lev:=⟨Nat.le_refl _,fun _ _ _ => rfl⟩
theorem Ext.trans {m m' m'':MS} {lev lev' lev'':Nat → Nat} (h:Ext x m lev m' lev') (k:Ext x m' lev' m'' lev''):Ext x m lev m'' lev'' :=
 ⟨Nat.le_trans h.le k.le,fun b hb hn => (k.lev b hb (Nat.lt_of_lt_of_le hn h.le)).trans (h.lev b hb hn)⟩
theorem Pt.ext {m m':MS} {lev lev':Nat → Nat} {l v:Nat} (h:Pt x m lev l v) (e:Ext x m lev m' lev'):Pt x m' lev' l v:=by
 rcases h with h | ⟨h1,h2,h3⟩
 ·exact .inl h
 ·exact .inr ⟨h1,Nat.lt_of_lt_of_le h2 e.le,(e.lev v h1 h2).trans h3⟩
theorem Pt.lt {m:MS} {lev:Nat → Nat} {l v:Nat} (h:Pt x m lev l v) (h0:v ≠ 0):v < x.n:=by
 rcases h with h | ⟨h1,_,_⟩
 ·exact absurd h h0
 ·unfold Im.data at h1
  rw [Bool.and_eq_true,Bool.and_eq_true,decide_eq_true_eq,decide_eq_true_eq] at h1
  exact h1.2.1
theorem takeF_wf (hs:2 ≤ x.s) (l:Nat):∀ (f:Nat) (m:MS) (lev:Nat → Nat),m.Wf x lev → m.next + f ≤ x.n → ∃ lev',(takeF x f m).2.Wf x lev' ∧ Ext x m lev (takeF x f m).2 lev' ∧ Pt x (takeF x f m).2 lev' l (takeF x f m).1
 | 0,m,lev,h,hf => ⟨lev,h,.refl _ _,.inl rfl⟩
 | f + 1,m,lev,h,hf => by
  rw [takeF]
  by_cases hd:x.data m.next = true
  ·rw [if_pos hd]
   refine ⟨updN lev m.next l,⟨fun b => ?_,fun b hb hdb k => ?_,fun b k hdb hb hl hk => ?_,by show m.next + 1 ≤ x.n;omega⟩,⟨by show m.next ≤ m.next + 1;omega,fun b hdb hb => ?_⟩,.inr ⟨hd,by show m.next < m.next + 1;omega,if_pos rfl⟩⟩
   ·show Byt (updN m.L _ _ b)
    unfold updN
    split
    ·exact turnZ_byt _ _
    ·exact h.byt b
   ·show updN m.L _ _ b k = 0
    have hne:=Im.data_ne (k:=grp x m.next) (d:=0) hdb (by decide) hs
    unfold updN
    rw [if_neg hne]
    exact h.zero b (by replace hb:m.next + 1 ≤ b:=hb;omega) hdb k
   ·have hne:=Im.data_ne (k:=grp x m.next) (d:=0) hdb (by decide) hs
    have e:(set x { m with next:=m.next + 1 } (grp x m.next) 0 (plc x m.next)).L b = m.L b:=by
     show updN m.L _ _ b = _
     unfold updN
     rw [if_neg hne]
    rw [e]
    replace hb:b < m.next + 1:=hb
    by_cases hbn:b = m.next
    ·left
     subst hbn
     have z:=h.zero m.next (Nat.le_refl _) hd
     unfold g32
     rw [z,z,z,z];rfl
    ·have hl':0 < lev b:=by unfold updN at hl;rwa [if_neg hbn] at hl
     rcases h.ptr b k hdb (by omega) hl' hk with h0 | ⟨h1,h2,h3⟩
     ·exact .inl h0
     ·refine .inr ⟨h1,by show _ < m.next + 1;omega,?_⟩
      unfold updN
      rw [if_neg hbn,if_neg (by omega)]
      exact h3
   ·unfold updN
    rw [if_neg (by omega)]
  ·rw [if_neg hd]
   obtain ⟨lev',h1,h2,h3⟩:=takeF_wf hs l f { m with next:=m.next + 1 } lev ⟨h.byt,fun b hb => h.zero b (by replace hb:m.next + 1 ≤ b:=hb;omega),fun b k hdb hb hl hk => by
    replace hb:b < m.next + 1:=hb
    have hbn:b ≠ m.next:=fun e => hd (e ▸ hdb)
    rcases h.ptr b k hdb (by omega) hl hk with h0 | ⟨h1,h2,h3⟩
    ·exact .inl h0
    ·exact .inr ⟨h1,Nat.lt_succ_of_lt h2,h3⟩,by show m.next + 1 ≤ x.n;omega⟩ (by show m.next + 1 + f ≤ x.n;omega)
   refine ⟨lev',h1,⟨?_,fun b hdb hb => h2.lev b hdb (by show b < m.next + 1;omega)⟩,h3⟩
   have:=h2.le
   replace this:m.next + 1 ≤ _:=this
   omega
theorem take_wf (hs:2 ≤ x.s) (l:Nat) {m:MS} {lev:Nat → Nat} (h:m.Wf x lev):∃ lev',(take x m).2.Wf x lev' ∧ Ext x m lev (take x m).2 lev' ∧ Pt x (take x m).2 lev' l (take x m).1 :=
 takeF_wf hs l _ m lev h (by have:=h.le;omega)
theorem Wf.put0 {m:MS} {lev:Nat → Nat} (h:m.Wf x lev) {b:Nat} (hb:Pt x m lev 0 b) (h0:b ≠ 0) {z:Nat → Int} (hz:Byt z):(m.put b z).Wf x lev:=by
 rcases hb with hb | ⟨h1,h2,h3⟩
 ·exact absurd hb h0
 refine ⟨fun c => ?_,fun c hc hdc k => ?_,fun c k hdc hc hl hk => ?_,h.le⟩
 ·show Byt (updN m.L b z c)
  unfold updN
  split
  ·exact hz
  ·exact h.byt c
 ·show updN m.L b z c k = 0
  replace hc:m.next ≤ c:=hc
  unfold updN
  rw [if_neg (by omega)]
  exact h.zero c hc hdc k
 ·have e:(m.put b z).L c = m.L c:=by
   show updN m.L b z c = _
   unfold updN
   rw [if_neg (fun e => by rw [e,h3] at hl;omega)]
  rw [e]
  exact h.ptr c k hdc hc hl hk
theorem Wf.word {m:MS} {lev:Nat → Nat} (h:m.Wf x lev) (hn:x.n ≤ 2048) {b l k v:Nat} (hb:Pt x m lev (l + 1) b) (h0:b ≠ 0) (hk:k < 64) (hv:Pt x m lev l v):(m.put b (over (m.L b) (4 * k) 4 (byteOf (v:Nat)))).Wf x lev:=by
 have hv9:v < 2048:=by
  by_cases e:v = 0
  ·omega
  ·have:=hv.lt e;omega
 rcases hb with hb | ⟨h1,h2,h3⟩
 ·exact absurd hb h0
 refine ⟨fun c => ?_,fun c hc hdc i => ?_,fun c i hdc hc hl hi => ?_,h.le⟩
 ·show Byt (updN m.L b _ c)
  unfold updN
  split
  ·exact byt_over (h.byt _) (byt_byteOf _) _ _
  ·exact h.byt c
 ·show updN m.L b _ c i = 0
  replace hc:m.next ≤ c:=hc
  unfold updN
  rw [if_neg (by omega)]
  exact h.zero c hc hdc i
 ·by_cases e:c = b
  ·subst e
   have e1:(m.put c (over (m.L c) (4 * k) 4 (byteOf (v:Nat)))).L c = over (m.L c) (4 * k) 4 (byteOf (v:Nat)):=if_pos rfl
   rw [e1]
   by_cases ei:i = k
   ·subst ei
    rw [g32_over _ _ _ (by omega) (by omega),Int.toNat_natCast]
    rcases hv with hv | ⟨v1,v2,v3⟩
    ·exact .inl hv
    ·exact .inr ⟨v1,v2,by omega⟩
   ·rw [g32_out _ _ _ _ _ (by omega)]
    exact h.ptr c i hdc hc hl hi
  ·have e1:(m.put b (over (m.L b) (4 * k) 4 (byteOf (v:Nat)))).L c = m.L c:=if_neg e
   rw [e1]
   exact h.ptr c i hdc hc hl hi
theorem down_wf (hs:2 ≤ x.s) (hn:x.n ≤ 2048):∀ (ks:List Nat) (b:Nat) (m:MS) (lev:Nat → Nat),m.Wf x lev → Pt x m lev ks.length b → (∀ k ∈ ks,k < 64) → ∃ lev',(down x ks b m).2.Wf x lev' ∧ Ext x m lev (down x ks b m).2 lev' ∧ Pt x (down x ks b m).2 lev' 0 (down x ks b m).1
 | [],b,m,lev,h,hb,hk => ⟨lev,h,.refl _ _,hb⟩
 | k :: ks,b,m,lev,h,hb,hk => by
  rw [down]
  by_cases h0:b = 0
  ·rw [if_pos h0]
   exact ⟨lev,h,.refl _ _,.inl rfl⟩
  rw [if_neg h0]
  have hk0:=hk k (List.mem_cons_self ..)
  have hks:∀ k ∈ ks,k < 64:=fun k' h' => hk k' (List.mem_cons_of_mem _ h')
  by_cases hv:(g32 (m.L b) (4 * k)).toNat = 0
  ·rw [if_pos hv]
   obtain ⟨lev1,a1,a2,a3⟩:=take_wf hs ks.length h
   have w1:=a1.word hn (hb.ext a2) h0 hk0 a3
   obtain ⟨lev2,b1,b2,b3⟩:=down_wf hs hn ks (m.take x).1 _ lev1 w1 (by rcases a3 with a3 | a3;exact .inl a3;exact .inr a3) hks
   exact ⟨lev2,b1,a2.trans ⟨b2.le,b2.lev⟩,b3⟩
  ·rw [if_neg hv]
   have hp:Pt x m lev ks.length (g32 (m.L b) (4 * k)).toNat:=by
    rcases hb with hb | ⟨h1,h2,h3⟩
    ·exact absurd hb h0
    ·rw [List.length_cons] at h3
     rcases h.ptr b k h1 h2 (by omega) hk0 with h' | ⟨g1,g2,g3⟩
     ·exact .inl h'
     ·exact .inr ⟨g1,g2,by omega⟩
   exact down_wf hs hn ks _ m lev h hp hks
def PtI (x:Im) (m:MS) (lev:Nat → Nat) (y:Ino):Prop:=∀ q,q < 11 → (0 ≤ y.p q ∧ y.p q < 4294967296) ∧ Pt x m lev (Im.lvl q) (y.p q).toNat
theorem PtI.ext {m m':MS} {lev lev':Nat → Nat} {y:Ino} (h:PtI x m lev y) (e:Ext x m lev m' lev'):PtI x m' lev' y:=fun q hq => ⟨(h q hq).1,(h q hq).2.ext e⟩
theorem hang_wf (hs:2 ≤ x.s) (hn:x.n ≤ 2048) {m:MS} {lev:Nat → Nat} (h:m.Wf x lev) {y:Ino} (hy:PtI x m lev y) (i:Int) :
  ∃ lev',(hang x y i m).2.2.Wf x lev' ∧ Ext x m lev (hang x y i m).2.2 lev' ∧ PtI x (hang x y i m).2.2 lev' (hang x y i m).2.1 ∧ Pt x (hang x y i m).2.2 lev' 0 (hang x y i m).1:=by
 unfold hang
 by_cases hi:i < 0 ∨ 65536 ≤ i
 ·rw [if_pos hi]
  exact ⟨lev,h,.refl _ _,hy,.inl rfl⟩
 rw [if_neg hi]
 have hi9:i.toNat < 65536:=by omega
 have hq:=Im.wayP_lt i.toNat
 have hl:=Im.wayB_len i.toNat
 have hk:=Im.wayB_lt hi9
 by_cases h0:y.p (Im.wayP i.toNat) = 0
 ·rw [if_pos h0]
  obtain ⟨lev1,a1,a2,a3⟩:=take_wf hs (Im.lvl (Im.wayP i.toNat)) h
  obtain ⟨lev2,b1,b2,b3⟩:=down_wf hs hn (Im.wayB i.toNat) (m.take x).1 _ lev1 a1 (by rw [hl];exact a3) hk
  refine ⟨lev2,b1,a2.trans b2,fun q hq' => ?_,b3⟩
  dsimp only
  by_cases e:q = Im.wayP i.toNat
  ·rw [if_pos e,e,Int.toNat_natCast]
   have:(m.take x).1 < 2048:=by
    by_cases e:(m.take x).1 = 0
    ·omega
    ·have:=a3.lt e;omega
   exact ⟨by omega,a3.ext b2⟩
  ·rw [if_neg e]
   exact ⟨(hy q hq').1,((hy q hq').2.ext a2).ext b2⟩
 ·rw [if_neg h0]
  obtain ⟨lev2,b1,b2,b3⟩:=down_wf hs hn (Im.wayB i.toNat) (y.p (Im.wayP i.toNat)).toNat m lev h (by rw [hl];exact (hy _ hq).2) hk
  exact ⟨lev2,b1,b2,hy.ext b2,b3⟩
theorem wf0 (hx:x.Ok):Wf x ⟨mkB x.g x.s x.i x.j,0⟩ (fun _ => 0):=by
 obtain ⟨h1,h2,h3,h4,h5,h6,h7,h8,h9,h10,h11⟩:=mayN hx.may
 refine ⟨fun b => mkB_byt _ _ _ _ b,fun b _ hd k => ?_,fun b k _ hb _ _ => (by cases hb),Nat.zero_le _⟩
 have hd2:=hd
 unfold Im.data Im.own at hd2
 rw [Bool.and_eq_true,Bool.and_eq_true,decide_eq_true_eq,decide_eq_true_eq,decide_eq_true_eq] at hd2
 obtain ⟨a1,a2,a3⟩:=hd2
 have hr:(b - (2 + x.j)) % x.s < x.s:=Nat.mod_lt _ (by omega)
 have:=mkB_group (g:=x.g) (i:=x.i) (γ:=(b - (2 + x.j)) / x.s) (d:=(b - (2 + x.j)) % x.s) h3 h8 hr
 have e:2 + x.j + (b - (2 + x.j)) / x.s * x.s + (b - (2 + x.j)) % x.s = b:=by
  have:=Nat.div_add_mod (b - (2 + x.j)) x.s
  rw [Nat.mul_comm] at this
  omega
 rw [e] at this
 show mkB x.g x.s x.i x.j b k = 0
 rw [this]
 rw [if_neg (by omega),if_neg (by omega),if_neg (by omega)]
end MS
theorem dH_congr {b i d b' i' d':Nat → Int}:∀ n,(∀ k,k < n → b k = b' k ∧ i k = i' k ∧ d k = d' k) → dH b i d n = dH b' i' d' n
 | 0,_ => rfl
 | n + 1,h => by
  obtain ⟨h1,h2,h3⟩:=h n (by omega)
  rw [dH,dH,dH_congr n fun k hk => h k (by omega),h1,h2,h3]
theorem descZ_congr {G S I J:Int} {n:Nat} {b i d b' i' d':Nat → Int} (h:∀ k,k < n → b k = b' k ∧ i k = i' k ∧ d k = d' k):descZ G S I J n b i d = descZ G S I J n b' i' d':=by
 unfold descZ descOk
 rw [mayD_congr h,dH_congr n h]
theorem foldO_chain {σ:Type} {f:Nat → σ → Option σ} (s:Nat → σ):∀ n,(∀ k,k < n → f k (s k) = some (s (k + 1))) → foldO f n (s 0) = some (s n)
 | 0,_ => rfl
 | n + 1,h => by rw [foldO,foldO_chain s n fun k hk => h k (by omega)];exact h n (by omega)
theorem updN_id {α:Type} (f:Nat → α) (i:Nat):updN f i (f i) = f:=by
 funext k;unfold updN;split
 ·rename_i e;rw [e]
 ·rfl
theorem turnZ_bZ (P:Nat → Bool) (i:Nat):turnZ (bZ P) i = bZ (setB P i):=by
 unfold turnZ
 rw [show bt (bZ P) = P from funext (bt_bZ P)]
theorem over_twice (z f g:Nat → Int) (k n:Nat):over (over z k n f) k n g = over z k n g:=by
 funext j;unfold over;split <;> rfl
abbrev xA:Im:=mkIm 1 24 8 40
abbrev LA:Nat → Nat → Int:=mkB 1 24 8 40
def nmA:ByteArray:=⟨#[97]⟩
def fA (lk:Int):PF:=⟨1,3000,2,fun k => if k = 0 then 1 else 9,1,fun _ => 0,fun _ => nmA,false,lk⟩
def plA (n:Nat) (lk:Int):PlanD:=⟨n,fun _ => fA lk,0,fun _ => 0,fun _ => 0,fun _ => 0,false⟩
theorem mayA:mayG 1 24 8 40 = true:=by decide
theorem put_root:putZ rootZ (0:Nat) rootI = rootZ:=by
 unfold putZ
 rw [show putOk ((0:Nat):Int) rootI = true from rootOk,if_pos rfl]
 exact over_twice _ _ _ _ _
def IA:Nat → Ino:=updN PlanD.is0.ino 0 ⟨2,1,1,0,fun _ => 0,0⟩
theorem LA_44:LA 44 = rootZ:=by kernel_rfl
theorem LA_42:LA 42 = bZ (mapB 4 24):=mk_st (k:=0) mayA
theorem LA_43:LA 43 = bZ (mapB 1 8):=mk_st1 (k:=0) mayA
theorem img0 (lk:Int):(plA 0 lk).img xA = LA:=by
 have hf:(plA 0 lk).fill xA ((plA 0 lk).isF 0 0) ⟨LA,0⟩ 1 = ⟨IA,⟨LA,0⟩⟩:=by kernel_rfl
 have ht:PlanD.tab xA LA IA 1 = ⟨LA,updN (fun _ => 0) 0 1⟩:=by
  show PlanD.tabF xA IA 0 ⟨LA,fun _ => 0⟩ = _
  unfold PlanD.tabF
  dsimp only
  rw [show xA.ib (0 + 1) = 44 from rfl,show xA.ia (0 + 1) = 0 from rfl,show IA 0 = rootI from rfl,LA_44,put_root,show rootI.kind = 2 from rfl,if_pos (by decide),if_pos rfl,show xA.st (0 / xA.i) + 1 = 43 from rfl,show 0 % xA.i = 0 from rfl,show 0 / xA.i = 0 from rfl]
  have e1:updN LA 44 rootZ = LA:=by rw [← LA_44];exact updN_id _ _
  rw [e1,LA_43,turnZ_bZ]
  have e2:setB (mapB 1 8) 0 = mapB 1 8:=by funext j;unfold setB mapB;split;rename_i e;subst e;rfl;rfl
  rw [e2,← LA_43,updN_id]
  rfl
 show PlanD.headsL xA 0 (PlanD.tab xA ((plA 0 lk).fill xA ((plA 0 lk).isF 0 0) ⟨LA,0⟩ 1).m.L ((plA 0 lk).fill xA ((plA 0 lk).isF 0 0) ⟨LA,0⟩ 1).ino 1) = LA
 rw [hf]
 show PlanD.headsL xA 0 (PlanD.tab xA LA IA 1) = LA
 rw [ht]
 unfold PlanD.headsL
 dsimp only
 funext b
 unfold updN
 by_cases h1:b = 1
 ·subst h1
  rw [if_pos rfl]
  show descZ _ _ _ _ _ _ _ _ = LA 1
  rw [show LA 1 = _ from mkB_1 (g:=1) (s:=24) (i:=8) (j:=40) (by decide)]
  refine descZ_congr fun k hk => ?_
  obtain rfl:k = 0:=by omega
  refine ⟨?_,?_,rfl⟩
  ·show (24:Int) - (cntB (bt (LA 42)) 24:Nat) = _
   rw [LA_42,cntB_low (u:=4) (by decide) (fun q hq => by rw [bt_bZ];unfold mapB;simp;omega)]
   decide
  ·show (8:Int) - (cntB (bt (LA 43)) 8:Nat) = _
   rw [LA_43,cntB_low (u:=1) (by decide) (fun q hq => by rw [bt_bZ];unfold mapB;simp;omega)]
   decide
 ·rw [if_neg h1]
  by_cases h0:b = 0
  ·subst h0;rw [if_pos rfl];exact (mkB_0 (by decide)).symm
  ·rw [if_neg h0]
def yR:Ino:=⟨2,1,1,256,fun q => if q = 0 then 46 else 0,0⟩
def yF (k:Int):Ino:=⟨1,k,1,3000,fun q => if q = 8 then 48 else if q = 1 then 47 else 0,0⟩
def T1 (lk:Int):PlanD.TS:=PlanD.tab xA ((plA 1 lk).fill xA ((plA 1 lk).isF 1 1) ⟨LA,0⟩ 2).m.L ((plA 1 lk).fill xA ((plA 1 lk).isF 1 1) ⟨LA,0⟩ 2).ino 2
theorem img1 (lk:Int):(plA 1 lk).img xA = PlanD.headsL xA 0 (T1 lk):=by kernel_rfl
theorem T42 (lk:Int):(T1 lk).L 42 = turnZ (turnZ (turnZ (turnZ (LA 42) 4) 5) 6) 7:=by kernel_rfl
theorem T43 (lk:Int):(T1 lk).L 43 = turnZ (turnZ (LA 43) 0) 1:=by kernel_rfl
theorem T44 (lk:Int):(T1 lk).L 44 = putZ (putZ (LA 44) (0:Nat) yR) (64:Nat) (yF (IntKind.i64.wrap (lk + 1))):=by kernel_rfl
theorem T45 (lk:Int):(T1 lk).L 45 = fun _ => 0:=by kernel_rfl
theorem T46 (lk:Int):(T1 lk).L 46 = putS (fun _ => 0) 0 (bS 2 nmA):=by kernel_rfl
theorem T48 (lk:Int):(T1 lk).L 48 = over (fun _ => 0) 4 4 (byteOf 49):=by kernel_rfl
theorem Td (lk:Int):(T1 lk).d 0 = 1:=by kernel_rfl
theorem z46_dir:dirB (putS (fun _ => 0) 0 (bS 2 nmA)) = true:=by decide +kernel
theorem z46_slots:allB (fun k => dI (putS (fun _ => 0) 0 (bS 2 nmA)) k == if k = 0 then 2 else 0) 8 = true:=by decide +kernel
theorem z46_name:(dM (putS (fun _ => 0) 0 (bS 2 nmA)) 0).data.toList = [97]:=by decide +kernel
theorem z48_words:allB (fun k => (g32 (over (fun _ => 0) 4 4 (byteOf 49)) (4 * k)).toNat == if k = 1 then 49 else 0) 64 = true:=by decide +kernel
def z44 (k:Int):Nat → Int:=putZ (putZ rootZ (0:Nat) yR) (64:Nat) (yF k)
theorem z44_err {k:Int} (hk:k = 1 ∨ k = 2):getErr (z44 k) 0 = 0 ∧ getErr (z44 k) 64 = 0 ∧ getErr (z44 k) 128 = 0 ∧ getErr (z44 k) 192 = 0:=by
 rcases hk with rfl | rfl <;> decide +kernel
theorem z44_0 {k:Int} (hk:k = 1 ∨ k = 2):(getIno (z44 k) 0).kind = 2 ∧ (getIno (z44 k) 0).size = 256 ∧ (getIno (z44 k) 0).next = 0 ∧ allB (fun q => (getIno (z44 k) 0).p q == if q = 0 then 46 else 0) 11 = true:=by
 rcases hk with rfl | rfl <;> decide +kernel
theorem z44_1 {k:Int} (hk:k = 1 ∨ k = 2):(getIno (z44 k) 64).kind = 1 ∧ (getIno (z44 k) 64).links = k ∧ (getIno (z44 k) 64).size = 3000 ∧ (getIno (z44 k) 64).next = 0 ∧ allB (fun q => (getIno (z44 k) 64).p q == if q = 1 then 47 else if q = 8 then 48 else 0) 11 = true:=by
 rcases hk with rfl | rfl <;> decide +kernel
theorem z44_2 {k:Int} (hk:k = 1 ∨ k = 2):((getIno (z44 k) 128).kind = 0 ∧ (getIno (z44 k) 128).next = 0) ∧ ((getIno (z44 k) 192).kind = 0 ∧ (getIno (z44 k) 192).next = 0):=by
 rcases hk with rfl | rfl <;> decide +kernel
def LB (lk:Int):Nat → Nat → Int:=PlanD.headsL xA 0 (T1 lk)
theorem LBd (lk:Int) (b:Nat) (h0:b ≠ 0) (h1:b ≠ 1):LB lk b = (T1 lk).L b:=by
 unfold LB PlanD.headsL updN
 rw [if_neg h1,if_neg h0]
theorem bits42 (lk:Int):LB lk 42 = bZ (mapB 8 24):=by
 rw [LBd lk 42 (by decide) (by decide),T42,LA_42,turnZ_bZ,turnZ_bZ,turnZ_bZ,turnZ_bZ]
 congr 1
 funext j
 unfold setB mapB
 by_cases h:j < 8
 ·have:j = 0 ∨ j = 1 ∨ j = 2 ∨ j = 3 ∨ j = 4 ∨ j = 5 ∨ j = 6 ∨ j = 7:=by omega
  rcases this with rfl | rfl | rfl | rfl | rfl | rfl | rfl | rfl <;> rfl
 ·rw [if_neg (by omega),if_neg (by omega),if_neg (by omega),if_neg (by omega),decide_eq_false (show ¬ j < 4 by omega),decide_eq_false h]
theorem bits43 (lk:Int):LB lk 43 = bZ (mapB 2 8):=by
 rw [LBd lk 43 (by decide) (by decide),T43,LA_43,turnZ_bZ,turnZ_bZ]
 congr 1
 funext j
 unfold setB mapB
 by_cases h:j < 2
 ·have:j = 0 ∨ j = 1:=by omega
  rcases this with rfl | rfl <;> rfl
 ·rw [if_neg (by omega),if_neg (by omega),decide_eq_false (show ¬ j < 1 by omega),decide_eq_false h]
theorem descOkB:descOk 1 24 8 40 1 (fun _ => 16) (fun _ => 6) (fun _ => 1) = true:=by decide
theorem LB_0 (lk:Int):LB lk 0 = supZ 1 24 8 40 0:=by
 unfold LB PlanD.headsL updN
 rw [if_neg (by decide),if_pos rfl]
 rfl
theorem LB_1 (lk:Int):LB lk 1 = descZ 1 24 8 40 1 (fun _ => 16) (fun _ => 6) (fun _ => 1):=by
 have h42:=bits42 lk
 rw [LBd lk 42 (by decide) (by decide)] at h42
 have h43:=bits43 lk
 rw [LBd lk 43 (by decide) (by decide)] at h43
 unfold LB PlanD.headsL updN
 rw [if_pos rfl]
 refine descZ_congr fun k hk => ?_
 replace hk:k < 1:=hk
 obtain rfl:k = 0:=by omega
 refine ⟨?_,?_,Td lk⟩
 ·show (24:Int) - (cntB (bt ((T1 lk).L 42)) 24:Nat) = _
  rw [h42,cntB_low (u:=8) (by decide) (fun q hq => by rw [bt_bZ];unfold mapB;simp;omega)]
  decide
 ·show (8:Int) - (cntB (bt ((T1 lk).L 43)) 8:Nat) = _
  rw [h43,cntB_low (u:=2) (by decide) (fun q hq => by rw [bt_bZ];unfold mapB;simp;omega)]
  decide
abbrev xB (lk:Int):Im:=⟨LB lk,66,1,24,8,40,0⟩
theorem heads0:readE (supZ 1 24 8 40 0) = 0 ∧ hd (supZ 1 24 8 40 0) 4 = 1 ∧ hd (supZ 1 24 8 40 0) 5 = 24 ∧ hd (supZ 1 24 8 40 0) 6 = 8 ∧ hd (supZ 1 24 8 40 0) 7 = 40 ∧ g32 (supZ 1 24 8 40 0) 16 = 0:=by
 have h:=mk_heads mayA
 rw [mkB_0 (by decide)] at h
 exact h
theorem xB_L (lk:Int):(xB lk).L = LB lk:=rfl
theorem of_xB (lk:Int):Im.of (LB lk) 66 = xB lk:=by
 obtain ⟨hE,e4,e5,e6,e7,e8⟩:=heads0
 unfold Im.of
 rw [LB_0,e4,e5,e6,e7,e8]
 rfl
theorem lkw {lk:Int} (h:lk = 0 ∨ lk = 1):IntKind.i64.wrap (lk + 1) = lk + 1:=by rcases h with rfl | rfl <;> decide
theorem LB_44 {lk:Int} (h:lk = 0 ∨ lk = 1):LB lk 44 = z44 (lk + 1):=by
 rw [LBd lk 44 (by decide) (by decide),T44,LA_44,lkw h];rfl
theorem LB_45 (lk:Int):LB lk 45 = fun _ => 0:=by rw [LBd lk 45 (by decide) (by decide),T45]
theorem xB_at (lk:Int) (t:Nat) (h1:1 ≤ t) (h2:t ≤ 8):(t ≤ 4 → (xB lk).ib t = 44 ∧ (xB lk).ia t = (t - 1) * 64) ∧ (4 < t → (xB lk).ib t = 45 ∧ (xB lk).ia t = (t - 5) * 64):=by
 refine ⟨fun h => ⟨?_,?_⟩,fun h => ⟨?_,?_⟩⟩
 ·show 2 + 40 + (t - 1) / 8 * 24 + 2 + (t - 1) % 8 / 4 = 44;omega
 ·show (t - 1) % 8 % 4 * 64 = _;omega
 ·show 2 + 40 + (t - 1) / 8 * 24 + 2 + (t - 1) % 8 / 4 = 45;omega
 ·show (t - 1) % 8 % 4 * 64 = _;omega
theorem xB_tab {lk:Int} (h:lk = 0 ∨ lk = 1) (t:Nat) (h1:1 ≤ t) (h2:t ≤ 8):getErr (LB lk ((xB lk).ib t)) ((xB lk).ia t) = 0 ∧ (3 ≤ t → ((xB lk).ino t).kind = 0 ∧ ((xB lk).ino t).next = 0) ∧ (t = 1 → (xB lk).ino t = getIno (z44 (lk + 1)) 0) ∧ (t = 2 → (xB lk).ino t = getIno (z44 (lk + 1)) 64):=by
 have hk:lk + 1 = 1 ∨ lk + 1 = 2:=by omega
 obtain ⟨ha,hb⟩:=xB_at lk t h1 h2
 have e1:(xB lk).ino t = getIno (LB lk ((xB lk).ib t)) ((xB lk).ia t):=by unfold Im.ino;rw [if_pos ⟨h1,h2⟩]
 rw [e1]
 have z:=zero_free
 have ze:=zero_get
 have hz:=z44_2 hk
 have he:=z44_err hk
 by_cases h4:t ≤ 4
 ·obtain ⟨a1,a2⟩:=ha h4
  rw [a1,a2,LB_44 h]
  have:t = 1 ∨ t = 2 ∨ t = 3 ∨ t = 4:=by omega
  rcases this with rfl | rfl | rfl | rfl
  ·exact ⟨he.1,fun h => absurd h (by decide),fun _ => rfl,fun h => absurd h (by decide)⟩
  ·exact ⟨he.2.1,fun h => absurd h (by decide),fun h => absurd h (by decide),fun _ => rfl⟩
  ·exact ⟨he.2.2.1,fun _ => hz.1,fun h => absurd h (by decide),fun h => absurd h (by decide)⟩
  ·exact ⟨he.2.2.2,fun _ => hz.2,fun h => absurd h (by decide),fun h => absurd h (by decide)⟩
 ·obtain ⟨a1,a2⟩:=hb (by omega)
  rw [a1,a2,LB_45]
  have:t = 5 ∨ t = 6 ∨ t = 7 ∨ t = 8:=by omega
  rcases this with rfl | rfl | rfl | rfl
  ·exact ⟨ze.1,fun _ => z.1,fun h => absurd h (by decide),fun h => absurd h (by decide)⟩
  ·exact ⟨ze.2.1,fun _ => z.2.1,fun h => absurd h (by decide),fun h => absurd h (by decide)⟩
  ·exact ⟨ze.2.2.1,fun _ => z.2.2.1,fun h => absurd h (by decide),fun h => absurd h (by decide)⟩
  ·exact ⟨ze.2.2.2,fun _ => z.2.2.2,fun h => absurd h (by decide),fun h => absurd h (by decide)⟩
theorem xB_free {lk:Int} (h:lk = 0 ∨ lk = 1) (t:Nat) (h1:t ≠ 1) (h2:t ≠ 2):((xB lk).ino t).kind = 0 ∧ ((xB lk).ino t).next = 0:=by
 by_cases c:1 ≤ t ∧ t ≤ 8
 ·exact (xB_tab h t c.1 c.2).2.1 (by omega)
 ·unfold Im.ino
  rw [if_neg (show ¬ (1 ≤ t ∧ t ≤ (xB lk).ni) from c)]
  exact ⟨rfl,rfl⟩
def o1A:Nat → Nat:=updN (fun _ => 0) 46 1
def o2A:Nat → Nat:=updN o1A 47 2
def o3A:Nat → Nat:=updN o2A 48 2
def o4A:Nat → Nat:=updN o3A 49 2
structure AwB (lk:Int):Prop where
 c1:(xB lk).ck1 = true
 c2:(xB lk).ck2 = true
 c3:∀ k,k < 1 → (xB lk).ck3 k = true
 c4:∀ t,1 ≤ t → t ≤ 8 → (xB lk).ck4 t = true
 c5:((xB lk).ino 1).kind = 2
 orph:(xB lk).orph = some fun _ => false
 c6:∀ t,1 ≤ t → t ≤ 8 → (xB lk).ck6 (fun _ => false) t = true
 trees:(xB lk).trees (fun _ => false) = some o4A
 c8:∀ k,k < 1 → (xB lk).ck8 o4A k = true
 dirs:(xB lk).dirs = some (updN (fun _ => []) 1 [2])
 c10:∀ t,1 ≤ t → t ≤ 8 → t ≠ 2 → (xB lk).ck10 (updN (fun _ => []) 1 [2]) t = true
 c10':(xB lk).ck10 (updN (fun _ => []) 1 [2]) 2 = decide (lk = 0)
 c11:∀ t,t ≤ 8 → (xB lk).ck11 ((xB lk).reach (updN (fun _ => []) 1 [2])) t = true
 c12:∀ k,k < 1 → (xB lk).ck12 k = true
set_option maxRecDepth 100000 in
theorem xB_data (lk:Int) (b:Nat):(xB lk).data b = (decide (46 ≤ b) && decide (b < 66)):=by
 have e:(xB lk).data b = (decide (2 + 40 ≤ b) && (decide (b < 66) && decide (2 + 8 / 4 ≤ (b - (2 + 40)) % 24))):=by kernel_rfl
 rw [e]
 by_cases h:46 ≤ b
 ·by_cases h2:b < 66
  ·rw [decide_eq_true h,decide_eq_true h2,decide_eq_true (show 2 + 40 ≤ b by omega),decide_eq_true (show 2 + 8 / 4 ≤ (b - (2 + 40)) % 24 by omega)];rfl
  ·rw [decide_eq_false h2];simp
 ·rw [decide_eq_false h]
  by_cases h2:42 ≤ b
  ·rw [decide_eq_false (show ¬ 2 + 8 / 4 ≤ (b - (2 + 40)) % 24 by omega)];simp
  ·rw [decide_eq_false (show ¬ 2 + 40 ≤ b by omega)];rfl
theorem LB_46 (lk:Int):LB lk 46 = putS (fun _ => 0) 0 (bS 2 nmA):=by rw [LBd lk 46 (by decide) (by decide),T46]
theorem LB_48 (lk:Int):LB lk 48 = over (fun _ => 0) 4 4 (byteOf 49):=by rw [LBd lk 48 (by decide) (by decide),T48]
theorem xB_wrd (lk:Int) {k:Nat} (hk:k < 64):(xB lk).wrd 48 k = if k = 1 then 49 else 0:=by
 have:=(allB_iff _ _).1 z48_words k hk
 have e:(xB lk).wrd 48 k = (g32 (LB lk 48) (4 * k)).toNat:=by kernel_rfl
 rw [e,LB_48]
 exact beq_iff_eq.1 this
theorem ptr_yes (x:Im) (t l p first en:Nat) (o:Nat → Nat) (hp:p ≠ 0) (hc:first < min en 65536 ∧ x.data p = true ∧ o p = 0):x.ptrF t (l + 1) p first en o = foldO (fun k o => x.ptrF t l (x.wrd p k) (first + k * Im.spn l) en o) 64 (updN o p t):=by
 rw [Im.ptrF,if_neg hp,if_pos hc]
theorem ptr_leaf (x:Im) (t p first en:Nat) (o:Nat → Nat) (hp:p ≠ 0) (hc:first < min en 65536 ∧ x.data p = true ∧ o p = 0):x.ptrF t 0 p first en o = some (updN o p t):=by
 rw [Im.ptrF,if_neg hp,if_pos hc]
set_option maxRecDepth 100000 in
theorem xB_dirF {lk:Int} (h:lk = 0 ∨ lk = 1):(xB lk).dirF 1 = some ([[97]],[2]):=by
 have hk:lk + 1 = 1 ∨ lk + 1 = 2:=by omega
 obtain ⟨rk,rs,rn,rp⟩:=z44_0 hk
 obtain ⟨fk,fl,fs,fn,fp⟩:=z44_1 hk
 have i1:=(xB_tab h 1 (by decide) (by decide)).2.2.1 rfl
 have i2:=(xB_tab h 2 (by decide) (by decide)).2.2.2 rfl
 rw [← i1] at rk rs rn rp
 rw [← i2] at fk fl fs fn fp
 have hbl:(xB lk).blk 1 0 = 46:=by
  have e:(xB lk).blk 1 0 = (((xB lk).ino 1).p 0).toNat:=by kernel_rfl
  have e0:((xB lk).ino 1).p 0 = 46:=beq_iff_eq.1 ((allB_iff _ _).1 rp 0 (by decide))
  rw [e,e0];rfl
 have e46:(xB lk).L 46 = putS (fun _ => 0) 0 (bS 2 nmA):=(congrFun (xB_L lk) 46).trans (LB_46 lk)
 have hc46:(46:Nat) ≠ 0 ∧ dirB (putS (fun _ => 0) 0 (bS 2 nmA)) = true:=⟨by decide,z46_dir⟩
 have e1:(xB lk).dirF 1 = (xB lk).dirB' 1 0 ([],[]):=by
  unfold Im.dirF
  rw [rs];kernel_rfl
 rw [e1]
 unfold Im.dirB'
 rw [hbl,e46,if_pos hc46]
 have hni:(xB lk).ni = 8:=by kernel_rfl
 refine foldO_chain (n:=8) (fun k => if k = 0 then ([],[]) else ([[97]],[2])) fun k hk => ?_
 have hI:=beq_iff_eq.1 ((allB_iff _ _).1 z46_slots k hk)
 unfold Im.slotF
 rw [hI]
 by_cases d:k = 0
 ·subst d
  have hf2:((xB lk).ino (2:Int).toNat).kind ≠ 0:=by rw [show (2:Int).toNat = 2 from rfl,fk];decide
  rw [if_pos rfl,if_neg (by decide),z46_name,hni,if_pos rfl,if_pos ⟨by simp,by decide,hf2⟩];rfl
 ·rw [if_neg d,if_pos rfl,if_neg d,if_neg (by omega)]
set_option maxRecDepth 100000 in
theorem xB_dirs {lk:Int} (h:lk = 0 ∨ lk = 1):(xB lk).dirs = some (updN (fun _ => []) 1 [2]):=by
 have hk:lk + 1 = 1 ∨ lk + 1 = 2:=by omega
 obtain ⟨rk,rs,rn,rp⟩:=z44_0 hk
 obtain ⟨fk,fl,fs,fn,fp⟩:=z44_1 hk
 have i1:=(xB_tab h 1 (by decide) (by decide)).2.2.1 rfl
 have i2:=(xB_tab h 2 (by decide) (by decide)).2.2.2 rfl
 have i3:=xB_free h
 rw [← i1] at rk
 rw [← i2] at fk
 unfold Im.dirs
 refine foldO_chain (n:=8) (fun k => if k = 0 then fun _ => [] else updN (fun _ => []) 1 [2]) fun t ht => ?_
 by_cases a1:t = 0
 ·subst a1
  rw [if_pos (show ((xB lk).ino (0 + 1)).kind = 2 from rk),if_pos rfl,if_neg (show ¬ 0 + 1 = 0 by decide),show (xB lk).dirF (0 + 1) = _ from xB_dirF h];rfl
 ·have hkd:¬ ((xB lk).ino (t + 1)).kind = 2:=by
   by_cases a2:t = 1
   ·subst a2;rw [show 1 + 1 = 2 from rfl,fk];decide
   ·rw [(i3 (t + 1) (by omega) (by omega)).1];decide
  rw [if_neg hkd,if_neg a1,if_neg (by omega)]
set_option maxRecDepth 100000 in
set_option maxHeartbeats 400000 in
theorem awB {lk:Int} (h:lk = 0 ∨ lk = 1):AwB lk:=by
 have hk:lk + 1 = 1 ∨ lk + 1 = 2:=by omega
 obtain ⟨rk,rs,rn,rp⟩:=z44_0 hk
 obtain ⟨fk,fl,fs,fn,fp⟩:=z44_1 hk
 have i1:=(xB_tab h 1 (by decide) (by decide)).2.2.1 rfl
 have i2:=(xB_tab h 2 (by decide) (by decide)).2.2.2 rfl
 have i3:=xB_free h
 rw [← i1] at rk rs rn rp
 rw [← i2] at fk fl fs fn fp
 obtain ⟨hE,e4,e5,e6,e7,e8⟩:=heads0
 have hcnt:∀ t n,Im.cnt (updN (fun _ => ([]:List Nat)) 1 [2]) t n = if 1 < n ∧ t = 2 then 1 else 0:=fun t n => by
  induction n with
  | zero => rfl
  | succ n ih =>
   rw [Im.cnt,ih]
   unfold updN
   by_cases e:n = 1
   ·subst e
    rw [if_pos rfl]
    by_cases e2:t = 2
    ·subst e2;rfl
    ·rw [if_neg (by omega),if_neg (by omega)]
     have:¬ 2 = t:=fun h => e2 h.symm
     simp [this]
   ·rw [if_neg e]
    by_cases e2:1 < n ∧ t = 2
    ·rw [if_pos e2,if_pos ⟨by omega,e2.2⟩];rfl
    ·rw [if_neg e2,if_neg (by omega)];rfl
 refine ⟨?_,?_,?_,?_,rk,?_,?_,?_,?_,?_,?_,?_,?_,?_⟩
 ·unfold Im.ck1
  show (decide (0 < 66) && (readE (LB lk 0) == 0 && ((66:Int) == nBl (hd (LB lk 0) 4) (hd (LB lk 0) 5) (hd (LB lk 0) 6) (hd (LB lk 0) 7)))) = true
  rw [LB_0,hE,e4,e5,e6,e7];exact (by decide:(decide (0 < 66) && (((0:Int) == 0) && ((66:Int) == nBl 1 24 8 40))) = true)
 ·unfold Im.ck2
  show rdOk 1 24 8 40 (LB lk 1) = true
  rw [LB_1]
  exact (desc_back descOkB).1
 ·intro k hk
  obtain rfl:k = 0:=by omega
  have e:(xB lk).ck3 0 = (Im.allS (bt (LB lk 42)) 0 4 && (Im.allS (bt (LB lk 42)) 24 2048 && Im.allS (bt (LB lk 43)) 8 2048)):=by kernel_rfl
  rw [e,bits42,bits43,Bool.and_eq_true,Bool.and_eq_true,Im.allS_iff,Im.allS_iff,Im.allS_iff]
  refine ⟨fun q a b => ?_,fun q a b => ?_,fun q a b => ?_⟩ <;> rw [bt_bZ] <;> unfold mapB <;> simp <;> omega
 ·intro t h1 h2
  unfold Im.ck4
  rw [show getErr ((xB lk).L ((xB lk).ib t)) ((xB lk).ia t) = 0 from (xB_tab h t h1 h2).1]
  have hu:(xB lk).used t = decide (t ≤ 2):=by
   unfold Im.used
   have e1:(t - 1) / 8 = 0:=by omega
   have e2:bt ((xB lk).L ((xB lk).st ((t - 1) / (xB lk).i) + 1)) ((t - 1) % (xB lk).i) = bt (LB lk (2 + 40 + (t - 1) / 8 * 24 + 1)) ((t - 1) % 8):=by kernel_rfl
   rw [e2,e1,show 2 + 40 + 0 * 24 + 1 = 43 from rfl,bits43,bt_bZ]
   unfold mapB
   rw [decide_eq_false (show ¬ 8 ≤ (t - 1) % 8 by omega),Bool.false_and,Bool.or_false]
   exact decide_eq_decide.2 (by omega)
  rw [hu]
  by_cases a1:t = 1
  ·subst a1;rw [rk];rfl
  ·by_cases a2:t = 2
   ·subst a2;rw [fk];rfl
   ·rw [(i3 t a1 a2).1,decide_eq_false (by omega)];rfl
 ·unfold Im.orph
  rw [Im.orpF,if_pos rfl]
 ·intro t h1 h2
  unfold Im.ck6
  by_cases a1:t = 1
  ·subst a1;rw [rn,rk];rfl
  ·by_cases a2:t = 2
   ·subst a2;rw [fn,fl]
    rcases hk with e | e <;> rw [e] <;> simp
   ·rw [(i3 t a1 a2).1,(i3 t a1 a2).2];rfl
 ·unfold Im.trees
  refine foldO_chain (n:=8) (fun k => if k = 0 then fun _ => 0 else if k = 1 then o1A else o4A) fun t ht => ?_
  by_cases a1:t = 0
  ·subst a1
   rw [if_pos rfl,if_neg (by decide),if_pos rfl]
   unfold Im.treeF
   rw [if_neg (by rw [rk];decide)]
   have hen:(xB lk).en (fun _ => false) 1 = 1:=by unfold Im.en;rw [rs];rfl
   rw [hen]
   refine foldO_chain (n:=11) (fun k => if k = 0 then fun _ => 0 else o1A) fun q hq => ?_
   have hp:=beq_iff_eq.1 ((allB_iff _ _).1 rp q hq)
   by_cases c:q = 0
   ·subst c
    rw [hp]
    exact ptr_leaf _ _ _ _ _ _ (by decide) ⟨by decide,by rw [xB_data];rfl,rfl⟩
   ·rw [hp,if_neg c,if_neg c,if_neg (by omega)]
    exact Im.ptrF_zero _ _ _ _ _ _
  by_cases a2:t = 1
  ·subst a2
   rw [if_neg (by decide),if_pos rfl,if_neg (by decide),if_neg (by decide)]
   unfold Im.treeF
   rw [if_neg (by rw [fk];decide)]
   have hen:(xB lk).en (fun _ => false) 2 = 12:=by unfold Im.en;rw [fs];rfl
   rw [hen]
   refine foldO_chain (n:=11) (fun k => if k ≤ 1 then o1A else if k ≤ 8 then o2A else o4A) fun q hq => ?_
   have hp:=beq_iff_eq.1 ((allB_iff _ _).1 fp q hq)
   by_cases c:q = 1
   ·subst c
    rw [hp]
    exact ptr_leaf _ _ _ _ _ _ (by decide) ⟨by decide,by rw [xB_data];rfl,rfl⟩
   by_cases c8:q = 8
   ·subst c8
    rw [hp]
    refine (ptr_yes _ _ _ _ _ _ _ (by decide) ⟨by decide,by rw [xB_data];rfl,rfl⟩).trans ?_
    refine foldO_chain (n:=64) (fun k => if k ≤ 1 then o3A else o4A) fun k hk => ?_
    rw [show ((if (8:Nat) = 1 then (47:Int) else if 8 = 8 then 48 else 0)).toNat = 48 from rfl,xB_wrd lk hk]
    by_cases d:k = 1
    ·subst d
     exact ptr_leaf _ _ _ _ _ _ (by decide) ⟨by decide,by rw [xB_data];rfl,rfl⟩
    ·rw [if_neg d]
     have e:(if k ≤ 1 then o3A else o4A) = (if k + 1 ≤ 1 then o3A else o4A):=by
      by_cases d0:k ≤ 1
      ·rw [if_pos d0,if_pos (by omega)]
      ·rw [if_neg d0,if_neg (by omega)]
     rw [← e]
     exact Im.ptrF_zero _ _ _ _ _ _
   ·rw [hp,if_neg c,if_neg c8]
    have e:(if q ≤ 1 then o1A else if q ≤ 8 then o2A else o4A) = (if q + 1 ≤ 1 then o1A else if q + 1 ≤ 8 then o2A else o4A):=by
     by_cases d0:q ≤ 1
     ·rw [if_pos d0,if_pos (by omega)]
     ·rw [if_neg d0,if_neg (show ¬ q + 1 ≤ 1 by omega)]
      by_cases d1:q ≤ 8
      ·rw [if_pos d1,if_pos (by omega)]
      ·rw [if_neg d1,if_neg (by omega)]
    rw [← e]
    exact Im.ptrF_zero _ _ _ _ _ _
  ·rw [if_neg a1,if_neg a2,if_neg (by omega),if_neg (by omega)]
   unfold Im.treeF
   rw [if_pos (i3 (t + 1) (by omega) (by omega)).1]
 ·intro k hk
  obtain rfl:k = 0:=by omega
  have e:(xB lk).ck8 o4A 0 = allB (fun dd => bt (LB lk 42) (4 + dd) == (o4A (42 + (4 + dd)) != 0)) 20:=by kernel_rfl
  rw [e,allB_iff]
  intro dd hd
  rw [bits42,bt_bZ]
  unfold mapB
  rw [decide_eq_false (show ¬ 24 ≤ 4 + dd by omega),Bool.false_and,Bool.or_false]
  by_cases d4:dd < 4
  ·rw [decide_eq_true (show 4 + dd < 8 by omega)]
   have:dd = 0 ∨ dd = 1 ∨ dd = 2 ∨ dd = 3:=by omega
   rcases this with rfl | rfl | rfl | rfl <;> rfl
  ·rw [decide_eq_false (show ¬ 4 + dd < 8 by omega)]
   have:o4A (42 + (4 + dd)) = 0:=by
    unfold o4A o3A o2A o1A updN
    rw [if_neg (by omega),if_neg (by omega),if_neg (by omega),if_neg (by omega)]
   rw [this];rfl
 ·exact xB_dirs h
 ·intro t h1 h2 h3
  unfold Im.ck10
  rw [hcnt]
  by_cases a1:t = 1
  ·subst a1;rfl
  ·rw [if_neg a1,if_neg (by rw [(i3 t a1 h3).1];decide),if_neg (by rw [(i3 t a1 h3).1];decide)]
 ·unfold Im.ck10
  rw [hcnt,if_neg (by decide),if_neg (by rw [fk];decide),if_pos fk,fl]
  rcases h with rfl | rfl <;> rfl
 ·intro t ht
  have hr:(xB lk).reach (updN (fun _ => []) 1 [2]) = updN (fun _ => false) 1 true:=by
   unfold Im.reach
   rw [Im.popF]
   show Im.popF (xB lk) (updN (fun _ => []) 1 [2]) 9 ((xB lk).come1 (updN (fun _ => false) 1 true,[]) 2) = _
   unfold Im.come1
   rw [if_neg (by rw [fk];decide)]
   rfl
  unfold Im.ck11
  rw [hr]
  by_cases a1:t = 1
  ·subst a1;simp [updN]
  ·by_cases a2:t = 2
   ·subst a2;rw [fk];rfl
   ·rw [(i3 t a1 a2).1];rfl
 ·intro k hk
  obtain rfl:k = 0:=by omega
  obtain ⟨_,_,hr⟩:=desc_back descOkB
  obtain ⟨b1,b2,b3⟩:=hr 0 (by decide)
  have hnd:(xB lk).nDir 0 = 1:=by
   unfold Im.nDir
   refine cntB_low (n:=8) (by decide) fun q hq => ?_
   show (((xB lk).ino (0 * 8 + q + 1)).kind == 2) = _
   by_cases a1:q = 0
   ·subst a1;rw [show 0 * 8 + 0 + 1 = 1 from rfl,rk];rfl
   ·by_cases a2:q = 1
    ·subst a2;rw [show 0 * 8 + 1 + 1 = 2 from rfl,fk];rfl
    ·rw [(i3 (0 * 8 + q + 1) (by omega) (by omega)).1,decide_eq_false (by omega)];rfl
  have e:(xB lk).ck12 0 = ((24:Int) - (cntB (bt (LB lk 42)) 24:Nat) == rB (LB lk 1) 0 && ((8:Int) - (cntB (bt (LB lk 43)) 8:Nat) == rI (LB lk 1) 0 && (((xB lk).nDir 0:Nat):Int) == rD (LB lk 1) 0)):=by kernel_rfl
  rw [e,hnd,bits42,bits43,LB_1,b1,b2,b3]
  rw [cntB_low (u:=8) (by decide) (fun q hq => by rw [bt_bZ];unfold mapB;simp;omega)]
  rw [cntB_low (u:=2) (by decide) (fun q hq => by rw [bt_bZ];unfold mapB;simp;omega)]
  rfl
end Go.Proofs.YtnbmmhoofilmfaaGreatDoor
