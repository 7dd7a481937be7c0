/- Texts of this claim, merged by a program (a claim may have 60 files): Pl1, Pl2, OwA. -/
import Derived.Test.YtphamecphmbipaaGreatDoorK23
import Derived.Test.YtphamecphmbipaaGreatDoorK20
import Derived.Test.YtphamecphmbipaaGreatDoorK24
import Derived.Test.YtphamecphmbipaaGreatDoorK02
namespace Go.Proofs.YtphamecphmbipaaGreatDoor
open Go.RowKit
set_option linter.unusedVariables false
theorem turnZ_byt (z:Nat → Int) (i:Nat):Byt (turnZ z i):=bZ_byt _
namespace MS
variable {x:Im}
structure Wf (x:Im) (m:MS) (lev:Nat → Nat):Prop where
 byt:∀ b,Byt (m.L b)
 zero:∀ b,m.next ≤ b → x.data b = true → ∀ k,m.L b k = 0
 ptr:∀ b k,x.data b = true → b < m.next → 0 < lev b → k < 64 → (g32 (m.L b) (4 * k)).toNat = 0 ∨ (x.data (g32 (m.L b) (4 * k)).toNat = true ∧ (g32 (m.L b) (4 * k)).toNat < m.next ∧ lev (g32 (m.L b) (4 * k)).toNat + 1 = lev b)
 le:m.next ≤ x.n
def Pt (x:Im) (m:MS) (lev:Nat → Nat) (l v:Nat):Prop:=v = 0 ∨ (x.data v = true ∧ v < m.next ∧ lev v = l)
structure Ext (x:Im) (m:MS) (lev:Nat → Nat) (m':MS) (lev':Nat → Nat):Prop where
 le:m.next ≤ m'.next
 lev:∀ b,x.data b = true → b < m.next → lev' b = lev b
theorem Ext.refl (m:MS) (lev:Nat → Nat):Ext x m lev m lev:=⟨Nat.le_refl _,fun _ _ _ => rfl⟩
theorem Ext.trans {m m' m'':MS} {lev lev' lev'':Nat → Nat} (h:Ext x m lev m' lev') (k:Ext x m' lev' m'' lev''):Ext x m lev m'' lev'' :=
 ⟨Nat.le_trans h.le k.le,fun b hb hn => (k.lev b hb (Nat.lt_of_lt_of_le hn h.le)).trans (h.lev b hb hn)⟩
theorem Pt.ext {m m':MS} {lev lev':Nat → Nat} {l v:Nat} (h:Pt x m lev l v) (e:Ext x m lev m' lev'):Pt x m' lev' l v:=by
 rcases h with h | ⟨h1,h2,h3⟩
 ·exact .inl h
 ·exact .inr ⟨h1,Nat.lt_of_lt_of_le h2 e.le,(e.lev v h1 h2).trans h3⟩
theorem Pt.lt {m:MS} {lev:Nat → Nat} {l v:Nat} (h:Pt x m lev l v) (h0:v ≠ 0):v < x.n:=by
 rcases h with h | ⟨h1,_,_⟩
 ·exact absurd h h0
 ·unfold Im.data at h1
  rw [Bool.and_eq_true,Bool.and_eq_true,decide_eq_true_eq,decide_eq_true_eq] at h1
  exact h1.2.1
theorem data_lt {b:Nat} (h:x.data b = true):b < x.n ∧ 2 + x.j ≤ b:=by
 unfold Im.data at h
 rw [Bool.and_eq_true,Bool.and_eq_true,decide_eq_true_eq,decide_eq_true_eq] at h
 exact ⟨h.2.1,h.1⟩
theorem takeF_wf (hs:2 ≤ x.s) (l:Nat):∀ (f:Nat) (m:MS) (lev:Nat → Nat),m.Wf x lev → m.next + f ≤ x.n → ∃ lev',(takeF x f m).2.Wf x lev' ∧ Ext x m lev (takeF x f m).2 lev' ∧ Pt x (takeF x f m).2 lev' l (takeF x f m).1
 | 0,m,lev,h,hf => ⟨lev,h,.refl _ _,.inl rfl⟩
 | f + 1,m,lev,h,hf => by
  rw [takeF]
  by_cases hd:x.data m.next = true
  ·rw [if_pos hd]
   refine ⟨updN lev m.next l,⟨fun b => ?_,fun b hb hdb k => ?_,fun b k hdb hb hl hk => ?_,by show m.next + 1 ≤ x.n;omega⟩,⟨by show m.next ≤ m.next + 1;omega,fun b hdb hb => ?_⟩,.inr ⟨hd,by show m.next < m.next + 1;omega,if_pos rfl⟩⟩
   ·show Byt (updN m.L _ _ b)
    unfold updN
    split
    ·exact turnZ_byt _ _
    ·exact h.byt b
   ·show updN m.L _ _ b k = 0
    have hne:=Im.data_ne (k:=grp x m.next) (d:=0) hdb (by decide) hs
    unfold updN
    rw [if_neg hne]
    exact h.zero b (by replace hb:m.next + 1 ≤ b:=hb;omega) hdb k
   ·have hne:=Im.data_ne (k:=grp x m.next) (d:=0) hdb (by decide) hs
    have e:(set x { m with next:=m.next + 1 } (grp x m.next) 0 (plc x m.next)).L b = m.L b:=by
     show updN m.L _ _ b = _
     unfold updN
     rw [if_neg hne]
    rw [e]
    replace hb:b < m.next + 1:=hb
    by_cases hbn:b = m.next
    ·left
     subst hbn
     have z:=h.zero m.next (Nat.le_refl _) hd
     unfold g32
     rw [z,z,z,z];rfl
    ·have hl':0 < lev b:=by unfold updN at hl;rwa [if_neg hbn] at hl
     rcases h.ptr b k hdb (by omega) hl' hk with h0 | ⟨h1,h2,h3⟩
     ·exact .inl h0
     ·refine .inr ⟨h1,by show _ < m.next + 1;omega,?_⟩
      unfold updN
      rw [if_neg hbn,if_neg (by omega)]
      exact h3
   ·unfold updN
    rw [if_neg (by omega)]
  ·rw [if_neg hd]
   obtain ⟨lev',h1,h2,h3⟩:=takeF_wf hs l f { m with next:=m.next + 1 } lev ⟨h.byt,fun b hb => h.zero b (by replace hb:m.next + 1 ≤ b:=hb;omega),fun b k hdb hb hl hk => by
    replace hb:b < m.next + 1:=hb
    have hbn:b ≠ m.next:=fun e => hd (e ▸ hdb)
    rcases h.ptr b k hdb (by omega) hl hk with h0 | ⟨h1,h2,h3⟩
    ·exact .inl h0
    ·exact .inr ⟨h1,Nat.lt_succ_of_lt h2,h3⟩,by show m.next + 1 ≤ x.n;omega⟩ (by show m.next + 1 + f ≤ x.n;omega)
   refine ⟨lev',h1,⟨?_,fun b hdb hb => h2.lev b hdb (by show b < m.next + 1;omega)⟩,h3⟩
   have:=h2.le
   replace this:m.next + 1 ≤ _:=this
   omega
theorem take_wf (hs:2 ≤ x.s) (l:Nat) {m:MS} {lev:Nat → Nat} (h:m.Wf x lev):∃ lev',(take x m).2.Wf x lev' ∧ Ext x m lev (take x m).2 lev' ∧ Pt x (take x m).2 lev' l (take x m).1 :=
 takeF_wf hs l _ m lev h (by have:=h.le;omega)
theorem Wf.put0 {m:MS} {lev:Nat → Nat} (h:m.Wf x lev) {b:Nat} (hb:Pt x m lev 0 b) (h0:b ≠ 0) {z:Nat → Int} (hz:Byt z):(m.put b z).Wf x lev:=by
 rcases hb with hb | ⟨h1,h2,h3⟩
 ·exact absurd hb h0
 refine ⟨fun c => ?_,fun c hc hdc k => ?_,fun c k hdc hc hl hk => ?_,h.le⟩
 ·show Byt (updN m.L b z c)
  unfold updN
  split
  ·exact hz
  ·exact h.byt c
 ·show updN m.L b z c k = 0
  replace hc:m.next ≤ c:=hc
  unfold updN
  rw [if_neg (by omega)]
  exact h.zero c hc hdc k
 ·have e:(m.put b z).L c = m.L c:=by
   show updN m.L b z c = _
   unfold updN
   rw [if_neg (fun e => by rw [e,h3] at hl;omega)]
  rw [e]
  exact h.ptr c k hdc hc hl hk
theorem Wf.word {m:MS} {lev:Nat → Nat} (h:m.Wf x lev) (hn:x.n ≤ 2048) {b l k v:Nat} (hb:Pt x m lev (l + 1) b) (h0:b ≠ 0) (hk:k < 64) (hv:Pt x m lev l v):(m.put b (over (m.L b) (4 * k) 4 (byteOf (v:Nat)))).Wf x lev:=by
 have hv9:v < 2048:=by
  by_cases e:v = 0
  ·omega
  ·have:=hv.lt e;omega
 rcases hb with hb | ⟨h1,h2,h3⟩
 ·exact absurd hb h0
 refine ⟨fun c => ?_,fun c hc hdc i => ?_,fun c i hdc hc hl hi => ?_,h.le⟩
 ·show Byt (updN m.L b _ c)
  unfold updN
  split
  ·exact byt_over (h.byt _) (byt_byteOf _) _ _
  ·exact h.byt c
 ·show updN m.L b _ c i = 0
  replace hc:m.next ≤ c:=hc
  unfold updN
  rw [if_neg (by omega)]
  exact h.zero c hc hdc i
 ·by_cases e:c = b
  ·subst e
   have e1:(m.put c (over (m.L c) (4 * k) 4 (byteOf (v:Nat)))).L c = over (m.L c) (4 * k) 4 (byteOf (v:Nat)):=if_pos rfl
   rw [e1]
   by_cases ei:i = k
   ·subst ei
    rw [g32_over _ _ _ (by omega) (by omega),Int.toNat_natCast]
    rcases hv with hv | ⟨v1,v2,v3⟩
    ·exact .inl hv
    ·exact .inr ⟨v1,v2,by omega⟩
   ·rw [g32_out _ _ _ _ _ (by omega)]
    exact h.ptr c i hdc hc hl hi
  ·have e1:(m.put b (over (m.L b) (4 * k) 4 (byteOf (v:Nat)))).L c = m.L c:=if_neg e
   rw [e1]
   exact h.ptr c i hdc hc hl hi
theorem down_wf (hs:2 ≤ x.s) (hn:x.n ≤ 2048):∀ (ks:List Nat) (b:Nat) (m:MS) (lev:Nat → Nat),m.Wf x lev → Pt x m lev ks.length b → (∀ k ∈ ks,k < 64) → ∃ lev',(down x ks b m).2.Wf x lev' ∧ Ext x m lev (down x ks b m).2 lev' ∧ Pt x (down x ks b m).2 lev' 0 (down x ks b m).1
 | [],b,m,lev,h,hb,hk => ⟨lev,h,.refl _ _,hb⟩
 | k :: ks,b,m,lev,h,hb,hk => by
  rw [down]
  by_cases h0:b = 0
  ·rw [if_pos h0]
   exact ⟨lev,h,.refl _ _,.inl rfl⟩
  rw [if_neg h0]
  have hk0:=hk k (List.mem_cons_self ..)
  have hks:∀ k ∈ ks,k < 64:=fun k' h' => hk k' (List.mem_cons_of_mem _ h')
  by_cases hv:(g32 (m.L b) (4 * k)).toNat = 0
  ·rw [if_pos hv]
   obtain ⟨lev1,a1,a2,a3⟩:=take_wf hs ks.length h
   have w1:=a1.word hn (hb.ext a2) h0 hk0 a3
   obtain ⟨lev2,b1,b2,b3⟩:=down_wf hs hn ks (m.take x).1 _ lev1 w1 (by rcases a3 with a3 | a3;exact .inl a3;exact .inr a3) hks
   exact ⟨lev2,b1,a2.trans ⟨b2.le,b2.lev⟩,b3⟩
  ·rw [if_neg hv]
   have hp:Pt x m lev ks.length (g32 (m.L b) (4 * k)).toNat:=by
    rcases hb with hb | ⟨h1,h2,h3⟩
    ·exact absurd hb h0
    ·rw [List.length_cons] at h3
     rcases h.ptr b k h1 h2 (by omega) hk0 with h' | ⟨g1,g2,g3⟩
     ·exact .inl h'
     ·exact .inr ⟨g1,g2,by omega⟩
   exact down_wf hs hn ks _ m lev h hp hks
def PtI (x:Im) (m:MS) (lev:Nat → Nat) (y:Ino):Prop:=∀ q,q < 11 → (0 ≤ y.p q ∧ y.p q < 4294967296) ∧ Pt x m lev (Im.lvl q) (y.p q).toNat
theorem PtI.ext {m m':MS} {lev lev':Nat → Nat} {y:Ino} (h:PtI x m lev y) (e:Ext x m lev m' lev'):PtI x m' lev' y:=fun q hq => ⟨(h q hq).1,(h q hq).2.ext e⟩
theorem hang_wf (hs:2 ≤ x.s) (hn:x.n ≤ 2048) {m:MS} {lev:Nat → Nat} (h:m.Wf x lev) {y:Ino} (hy:PtI x m lev y) (i:Int) :
  ∃ lev',(hang x y i m).2.2.Wf x lev' ∧ Ext x m lev (hang x y i m).2.2 lev' ∧ PtI x (hang x y i m).2.2 lev' (hang x y i m).2.1 ∧ Pt x (hang x y i m).2.2 lev' 0 (hang x y i m).1:=by
 unfold hang
 by_cases hi:i < 0 ∨ 65536 ≤ i
 ·rw [if_pos hi]
  exact ⟨lev,h,.refl _ _,hy,.inl rfl⟩
 rw [if_neg hi]
 have hi9:i.toNat < 65536:=by omega
 have hq:=Im.wayP_lt i.toNat
 have hl:=Im.wayB_len i.toNat
 have hk:=Im.wayB_lt hi9
 by_cases h0:y.p (Im.wayP i.toNat) = 0
 ·rw [if_pos h0]
  obtain ⟨lev1,a1,a2,a3⟩:=take_wf hs (Im.lvl (Im.wayP i.toNat)) h
  obtain ⟨lev2,b1,b2,b3⟩:=down_wf hs hn (Im.wayB i.toNat) (m.take x).1 _ lev1 a1 (by rw [hl];exact a3) hk
  refine ⟨lev2,b1,a2.trans b2,fun q hq' => ?_,b3⟩
  dsimp only
  by_cases e:q = Im.wayP i.toNat
  ·rw [if_pos e,e,Int.toNat_natCast]
   have:(m.take x).1 < 2048:=by
    by_cases e:(m.take x).1 = 0
    ·omega
    ·have:=a3.lt e;omega
   exact ⟨by omega,a3.ext b2⟩
  ·rw [if_neg e]
   exact ⟨(hy q hq').1,((hy q hq').2.ext a2).ext b2⟩
 ·rw [if_neg h0]
  obtain ⟨lev2,b1,b2,b3⟩:=down_wf hs hn (Im.wayB i.toNat) (y.p (Im.wayP i.toNat)).toNat m lev h (by rw [hl];exact (hy _ hq).2) hk
  exact ⟨lev2,b1,b2,hy.ext b2,b3⟩
theorem wf0 (hx:x.Ok):Wf x ⟨mkB x.g x.s x.i x.j,0⟩ (fun _ => 0):=by
 obtain ⟨h1,h2,h3,h4,h5,h6,h7,h8,h9,h10,h11⟩:=mayN hx.may
 refine ⟨fun b => mkB_byt _ _ _ _ b,fun b _ hd k => ?_,fun b k _ hb _ _ => (by cases hb),Nat.zero_le _⟩
 have hd2:=hd
 unfold Im.data Im.own at hd2
 rw [Bool.and_eq_true,Bool.and_eq_true,decide_eq_true_eq,decide_eq_true_eq,decide_eq_true_eq] at hd2
 obtain ⟨a1,a2,a3⟩:=hd2
 have hr:(b - (2 + x.j)) % x.s < x.s:=Nat.mod_lt _ (by omega)
 have:=mkB_group (g:=x.g) (i:=x.i) (γ:=(b - (2 + x.j)) / x.s) (d:=(b - (2 + x.j)) % x.s) h3 h8 hr
 have e:2 + x.j + (b - (2 + x.j)) / x.s * x.s + (b - (2 + x.j)) % x.s = b:=by
  have:=Nat.div_add_mod (b - (2 + x.j)) x.s
  rw [Nat.mul_comm] at this
  omega
 rw [e] at this
 show mkB x.g x.s x.i x.j b k = 0
 rw [this]
 rw [if_neg (by omega),if_neg (by omega),if_neg (by omega)]
end MS
namespace Im
variable {x:Im}
theorem ptrF_who {t:Nat}:∀ (l p first en:Nat) (o o':Nat → Nat),x.ptrF t l p first en o = some o' → ∀ b,o' b = o b ∨ (o' b = t ∧ x.data b = true)
 | 0,p,first,en,o,o',h,b => by
  rw [ptrF] at h
  split at h
  ·injection h with h;exact .inl (h ▸ rfl)
  split at h
  ·rename_i hc
   injection h with h
   subst h
   unfold updN
   split
   ·rename_i e;exact .inr ⟨rfl,e ▸ hc.2.1⟩
   ·exact .inl rfl
  ·cases h
 | l + 1,p,first,en,o,o',h,b => by
  rw [ptrF] at h
  split at h
  ·injection h with h;exact .inl (h ▸ rfl)
  split at h
  ·rename_i hc
   refine foldO_inv (P:=fun _ o' => o' b = o b ∨ (o' b = t ∧ x.data b = true)) h ?_ fun k a z _ ha hz => ?_
   ·unfold updN
    split
    ·rename_i e;exact .inr ⟨rfl,e ▸ hc.2.1⟩
    ·exact .inl rfl
   ·rcases ptrF_who l _ _ _ a z hz b with e | e
    ·rw [e];exact ha
    ·exact .inr e
  ·cases h
theorem trees_who {m:Nat → Bool} {o:Nat → Nat} (h:x.trees m = some o) (b:Nat):o b = 0 ∨ (x.data b = true ∧ 1 ≤ o b ∧ o b ≤ x.ni ∧ (x.ino (o b)).kind ≠ 0):=by
 refine foldO_inv (P:=fun _ (o:Nat → Nat) => o b = 0 ∨ (x.data b = true ∧ 1 ≤ o b ∧ o b ≤ x.ni ∧ (x.ino (o b)).kind ≠ 0)) h (.inl rfl) fun t a z ht ha hz => ?_
 unfold treeF at hz
 by_cases hk:(x.ino (t + 1)).kind = 0
 ·rw [if_pos hk] at hz
  injection hz with hz
  exact hz ▸ ha
 rw [if_neg hk] at hz
 refine foldO_inv (P:=fun _ (o:Nat → Nat) => o b = 0 ∨ (x.data b = true ∧ 1 ≤ o b ∧ o b ≤ x.ni ∧ (x.ino (o b)).kind ≠ 0)) hz ha fun q a z _ ha hz => ?_
 rcases ptrF_who _ _ _ _ a z hz b with e | ⟨e1,e2⟩
 ·rw [e];exact ha
 ·rw [e1];exact .inr ⟨e2,by omega,by omega,hk⟩
end Im
theorem cntB_add (p:Nat → Bool) (a:Nat):∀ m,cntB p (a + m) = cntB p a + cntB (fun r => p (a + r)) m
 | 0 => rfl
 | m + 1 => by
  rw [← Nat.add_assoc,cntB,cntB_add p a m,cntB]
  omega
theorem cntB_none {p:Nat → Bool}:∀ {n:Nat},(∀ k,k < n → p k = false) → cntB p n = 0
 | 0,_ => rfl
 | n + 1,h => by rw [cntB,cntB_none fun k hk => h k (by omega),h n (by omega)];rfl
theorem cntB_not (p:Nat → Bool):∀ n,cntB p n + cntB (fun k => !p k) n = n
 | 0 => rfl
 | n + 1 => by
  have ih:=cntB_not p n
  rw [cntB,cntB]
  cases p n
  ·simp;omega
  ·simp;omega
namespace Im
variable {x:Im}
def freeB (x:Im) (o:Nat → Nat) (k:Nat) (b:Nat):Bool:=x.data b && (decide (MS.grp x b = k) && decide (o b = 0))
theorem grp_in (x:Im) {k r:Nat} (hr:r < x.s):MS.grp x (x.st k + r) = k ∧ MS.plc x (x.st k + r) = r:=by
 unfold MS.grp MS.plc st
 have e:2 + x.j + k * x.s + r - (2 + x.j) = x.s * k + r:=by rw [Nat.mul_comm];omega
 rw [e]
 exact ⟨by rw [Nat.mul_add_div (by omega),Nat.div_eq_of_lt hr];rfl,by rw [Nat.mul_add_mod,Nat.mod_eq_of_lt hr]⟩
theorem data_in (hok:x.Ok) {k r:Nat} (hk:k < x.g) (hr:r < x.s):x.data (x.st k + r) = decide (x.own ≤ r):=by
 have h1:=(grp_in x (k:=k) hr).2
 have h2:=hok.st hk hr
 unfold MS.plc at h1
 unfold data
 rw [h1,decide_eq_true h2,decide_eq_true (show 2 + x.j ≤ x.st k + r by unfold st;omega)]
 rfl
theorem bit_own {m:Nat → Bool} {o:Nat → Nat} {u:Nat → List Nat} (h:Good x m o u) {k r:Nat} (hk:k < x.g) (hr:r < x.s) (ho:x.own ≤ r):bt (x.L (x.st k)) r = (o (x.st k + r) != 0):=by
 have:=h.c8 k hk
 unfold ck8 at this
 rw [allB_iff] at this
 have h1:=this (r - x.own) (by omega)
 rw [show x.own + (r - x.own) = r by omega] at h1
 exact beq_iff_eq.1 h1
theorem free_all {m:Nat → Bool} {o:Nat → Nat} {u:Nat → List Nat} (h:Good x m o u) (hok:x.Ok) {k:Nat} (hk:k < x.g):((cntB (freeB x o k) x.n:Nat):Int) = rB (x.L 1) k:=by
 obtain ⟨h1,h2,h3,h4,h5,h6,h7,h8,h9,h10,h11⟩:=mayN hok.may
 have hown:x.own ≤ x.s:=by unfold own;omega
 have hend:x.st k + x.s ≤ x.n:=by
  have:=hok.st hk (d:=x.s - 1) (by omega)
  omega
 have hc:cntB (freeB x o k) x.n = cntB (fun r => !bt (x.L (x.st k)) r) x.s:=by
  rw [show x.n = x.st k + (x.s + (x.n - (x.st k + x.s))) by omega,cntB_add,cntB_none fun b hb => ?_,Nat.zero_add,cntB_add]
  ·have e2:cntB (fun r => freeB x o k (x.st k + (x.s + r))) (x.n - (x.st k + x.s)) = 0:=by
    refine cntB_none fun r hr => ?_
    unfold freeB
    by_cases hd:x.data (x.st k + (x.s + r)) = true
    ·have:MS.grp x (x.st k + (x.s + r)) ≠ k:=by
      unfold MS.grp st
      have e:2 + x.j + k * x.s + (x.s + r) - (2 + x.j) = x.s * k + (x.s + r):=by rw [Nat.mul_comm];omega
      rw [e,Nat.mul_add_div (by omega)]
      have:1 ≤ (x.s + r) / x.s:=(Nat.le_div_iff_mul_le (by omega)).2 (by omega)
      omega
     rw [decide_eq_false this];simp
    ·rw [Bool.not_eq_true] at hd
     rw [hd];rfl
   rw [e2,Nat.add_zero]
   refine cntB_congr fun r hr => ?_
   unfold freeB
   rw [data_in hok hk hr,decide_eq_true (grp_in x hr).1,Bool.true_and]
   by_cases hr2:x.own ≤ r
   ·rw [decide_eq_true hr2,Bool.true_and,bit_own h hk hr hr2]
    by_cases e:o (x.st k + r) = 0
    ·rw [e];rfl
    ·simp [e]
   ·rw [decide_eq_false hr2]
    have:=h.c3 k hk
    unfold ck3 at this
    rw [Bool.and_eq_true,allS_iff] at this
    rw [this.1 r (Nat.zero_le _) (by omega)];rfl
  ·unfold freeB
   by_cases hd:x.data b = true
   ·have hb2:=MS.data_lt hd
    have:MS.grp x b ≠ k:=by
     unfold MS.grp
     have:(b - (2 + x.j)) / x.s < k:=(Nat.div_lt_iff_lt_mul (by omega)).2 (by unfold st at hb;omega)
     omega
    rw [decide_eq_false this];simp
   ·rw [Bool.not_eq_true] at hd
    rw [hd];rfl
 have h12:=h.c12 k hk
 unfold ck12 at h12
 rw [Bool.and_eq_true] at h12
 have hf:=beq_iff_eq.1 h12.1
 rw [← hf,hc]
 have:=cntB_not (bt (x.L (x.st k))) x.s
 unfold free
 omega
end Im
end Go.Proofs.YtphamecphmbipaaGreatDoor
