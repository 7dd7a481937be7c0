/- Texts of this claim, merged. -/
import Derived.Test.YtphamecphmbipaaGreatDoorK28
namespace Go.Proofs.YtphamecphmbipaaGreatDoor
open Go.RowKit
set_option linter.unusedVariables false
def MY (M q Y:Nat) (j:Nat):Prop:=j = M ∨ j = q ∨ j = Y
def inF7 (ys:Nat → Ino) (k:Nat):List Value:=(ys k).arr.toList
theorem inF7_len (ys:Nat → Ino) (k:Nat):(inF7 ys k).length = 16:=rfl
def PlInv (x:Im) (m:MS) (ys:Nat → Ino) (N:Nat):Prop:=∃ lev,m.Wf x lev ∧ ∀ k,k < N → MS.PtI x m lev (ys k)
theorem PlInv.byt {x:Im} {m:MS} {ys:Nat → Ino} {N:Nat} (h:PlInv x m ys N):(∀ b,Byt (m.L b)) ∧ m.next ≤ x.n:=by obtain ⟨lev,h,_⟩:=h;exact ⟨h.byt,h.le⟩
def setP (y:Ino) (k v:Nat):Ino:={ y with p:=fun q => if q = k then (v:Int) else y.p q }
theorem ino_ptr (y:Ino) {k:Nat} (hk:k < 11):y.arr.toList[4 + k]? = some (.int .u32 (y.p k)):=by
 have:k = 0 ∨ k = 1 ∨ k = 2 ∨ k = 3 ∨ k = 4 ∨ k = 5 ∨ k = 6 ∨ k = 7 ∨ k = 8 ∨ k = 9 ∨ k = 10:=by omega
 rcases this with rfl | rfl | rfl | rfl | rfl | rfl | rfl | rfl | rfl | rfl | rfl <;> rfl
theorem setP_arr (y:Ino) {k:Nat} (v:Nat) (hk:k < 11):(setP y k v).arr.toList = y.arr.toList.set (4 + k) (.int .u32 (v:Int)):=by
 have:k = 0 ∨ k = 1 ∨ k = 2 ∨ k = 3 ∨ k = 4 ∨ k = 5 ∨ k = 6 ∨ k = 7 ∨ k = 8 ∨ k = 9 ∨ k = 10:=by omega
 rcases this with rfl | rfl | rfl | rfl | rfl | rfl | rfl | rfl | rfl | rfl | rfl <;> rfl
structure HgS (M q Y N:Nat) (x:Im) (m:MS) (ys:Nat → Ino) (w W:World):Prop where
 p:PlM M q x m W
 y:RArr W Y 63 16 N (inF7 ys)
 gr:GwS (MY M q Y) w W
section
variable {M q Y N:Nat} {x:Im} {m:MS} {ys:Nat → Ino} {w W W':World}
theorem HgS.below (h:HgS M q Y N x m ys w W) (hb:Below W.heap.size W W'):HgS M q Y N x m ys w W':=⟨h.p.below hb,h.y.below hb,h.gr.trans (.of_below hb)⟩
theorem HgS.neM (h:HgS M q Y N x m ys w W):M ≠ Y:=by
 obtain ⟨f,hf⟩:=h.p.k
 obtain ⟨cs,hc,_⟩:=h.y.blk
 exact At.unlike hf hc (by decide)
theorem HgS.neq (h:HgS M q Y N x m ys w W):q ≠ Y:=by
 obtain ⟨c1,h1,_⟩:=h.p.im.blk
 obtain ⟨cs,hc,_⟩:=h.y.blk
 exact At.unlike h1 hc (by decide)
theorem HgS.turn (h:HgS M q Y N x m ys w W) {m':MS} (hp:PlM M q x m' W') (hg:GwS (MQ M q) W W'):HgS M q Y N x m' ys w W' :=
 ⟨hp,h.y.gwS hg (by rintro (e | e);exact h.neM e.symm;exact h.neq e.symm),h.gr.trans (hg.mono fun j e => e.elim .inl fun e => .inr (.inl e))⟩
theorem HgS.ptr (h:HgS M q Y N x m ys w W) {i k:Nat} (hi:i < N) (hk:k < 11):W.cell? ⟨Y,i * 16 + 4 + k,none⟩ = some (.int .u32 ((ys i).p k)):=by
 have:=h.y.seg i hi (4 + k) _ (ino_ptr (ys i) hk)
 rwa [Nat.zero_add,← Nat.add_assoc] at this
theorem HgS.putP (h:HgS M q Y N x m ys w W) {i k:Nat} (hi:i < N) (hk:k < 11) (v:Nat):HgS M q Y N x m (updN ys i (setP (ys i) k v)) w (W.setCell ⟨Y,i * 16 + 4 + k,none⟩ (.int .u32 (v:Int))):=by
 have ho:=Only.setCell W ⟨Y,i * 16 + 4 + k,none⟩ (.int .u32 (v:Int))
 obtain ⟨f,hf⟩:=h.p.k
 refine ⟨⟨⟨f,hf.only ho h.neM⟩,h.p.im.only ho h.neq⟩,?_,h.gr.trans (.of_only ho (.inr (.inr rfl)))⟩
 have:=h.y.cellset (k:=i) (j:=4 + k) hi (by omega) (fun j => inF7_len ys j) (.int .u32 (v:Int))
 rw [← Nat.add_assoc] at this
 refine this.congr fun j hj => ?_
 unfold inF7 updN
 by_cases e:j = i
 ·subst e;rw [if_pos rfl,if_pos rfl,setP_arr _ _ hk]
 ·rw [if_neg e,if_neg e]
end
theorem bk_puts {W W':World} {q n:Nat} {L:Nat → Nat → Int} (h:RArr W q 32 256 n (bkF L)) {b k m:Nat} {f:Nat → Int} (hb:b < n) (hk:k + m ≤ 256) (hp:Puts q (b * 256 + k) m f W W'):RArr W' q 32 256 n (bkF (updN L b (over (L b) k m f))):=by
 obtain ⟨cs,h1,h2⟩:=h.blk
 obtain ⟨c',hc1,hc2⟩:=hp.only.shape _ _ _ h1
 refine ⟨⟨c',hc2,by rw [hc1,h2]⟩,fun c hc o v hv => ?_⟩
 have ho:o < 256:=by have:=(List.getElem?_eq_some_iff.1 hv).1;rwa [bkF_len] at this
 have e1:bkF (updN L b (over (L b) k m f)) c = Ks .u8 256 (updN L b (over (L b) k m f) c):=rfl
 rw [e1,Ks_get .u8 256 _ o ho] at hv
 injection hv with hv
 subst hv
 rw [hp.cell]
 by_cases e:c = b
 ·subst e
  unfold updN over
  rw [if_pos rfl]
  by_cases hr:k ≤ o ∧ o < k + m
  ·rw [if_pos (by omega),if_pos hr,show 0 + c * 256 + o - (c * 256 + k) = o - k by omega]
  ·rw [if_neg (by omega),if_neg hr]
   exact h.seg c hc o _ (Ks_get .u8 256 (L c) o ho)
 ·unfold updN
  rw [if_neg e,if_neg (by omega)]
  exact h.seg c hc o _ (Ks_get .u8 256 (L c) o ho)
theorem PlM.puts {M q:Nat} {x:Im} {m:MS} {W W':World} (h:PlM M q x m W) {b k n:Nat} {f:Nat → Int} (hb:b < x.n) (hk:k + n ≤ 256) (hp:Puts q (b * 256 + k) n f W W'):PlM M q x (m.put b (over (m.L b) k n f)) W':=by
 obtain ⟨g,hg⟩:=h.k
 exact ⟨⟨g,hg.only hp.only h.ne⟩,bk_puts h.im hb hk hp⟩
theorem PlM.seg {M q:Nat} {x:Im} {m:MS} {W:World} (h:PlM M q x m W) {b:Nat} (hb:b < x.n):Seg W q (b * 256) 256 (m.L b):=fun o ho => by
 have:=h.im.seg b hb o _ (Ks_get .u8 256 (m.L b) o ho)
 rwa [Nat.zero_add] at this
structure HgL (M q Y N:Nat) (x:Im) (m:MS) (ys:Nat → Ino) (w:World) (a:Option Addr) (ks:List Nat) (W:World):Prop where
 s:HgS M q Y N x m ys w W
 r:RRow W a 1 ks.length (nmF ks)
 l:∀ b off,a = some ⟨b,off,none⟩ → b < W.heap.size ∧ ¬ MY M q Y b
section
variable {M q Y N:Nat} {x:Im} {m m':MS} {ys ys':Nat → Ino} {w W W':World} {a:Option Addr} {ks:List Nat}
theorem HgL.below (h:HgL M q Y N x m ys w a ks W) (hb:Below W.heap.size W W'):HgL M q Y N x m ys w a ks W' :=
 ⟨h.s.below hb,RRow.gwS (S:=fun _ => False) h.r (.of_below hb) (fun b off e _ => ⟨(h.l b off e).1,id⟩),fun b off e => ⟨Nat.lt_of_lt_of_le (h.l b off e).1 hb.size,(h.l b off e).2⟩⟩
theorem HgL.to (h:HgL M q Y N x m ys w a ks W) (hs:HgS M q Y N x m' ys' w W') (hg:GwS (MY M q Y) W W'):HgL M q Y N x m' ys' w a ks W' :=
 ⟨hs,RRow.gwS h.r hg (fun b off e _ => h.l b off e),fun b off e => ⟨Nat.lt_of_lt_of_le (h.l b off e).1 hg.size,(h.l b off e).2⟩⟩
theorem HgL.word (h:HgL M q Y N x m ys w a ks W) {t:Nat} (ht:t < ks.length):∃ b off,a = some ⟨b,off,none⟩ ∧ W.cell? ⟨b,off + t,none⟩ = some (.int .i64 ((ks.getD t 0:Nat):Int)):=by
 rcases h.r with h0 | ⟨b,off,e,hs⟩
 ·omega
 ·refine ⟨b,off,e,?_⟩
  have:=hs t ht 0 _ rfl
  rwa [Nat.mul_one,Nat.add_zero] at this
end
structure H5 (M q Y N:Nat) (x:Im) (m m1:MS) (ys ys1:Nat → Ino) (w:World) (a:Option Addr) (ks:List Nat) (l:Nat → Bool) (W:World):Prop where
 fa:l 3 = false → HgL M q Y N x m ys w a ks W
 fb:l 3 = true → l 8 = false → HgL M q Y N x m1 ys w a ks W
 fc:l 8 = true → HgL M q Y N x m1 ys1 w a ks W ∧ l 3 = true
theorem H5.below {M q Y N:Nat} {x:Im} {m m1:MS} {ys ys1:Nat → Ino} {w:World} {a:Option Addr} {ks:List Nat} {l:Nat → Bool} {W W':World} (h:H5 M q Y N x m m1 ys ys1 w a ks l W) (hb:Below W.heap.size W W'):H5 M q Y N x m m1 ys ys1 w a ks l W' :=
 ⟨fun e => (h.fa e).below hb,fun e e2 => (h.fb e e2).below hb,fun e => ⟨(h.fc e).1.below hb,(h.fc e).2⟩⟩
theorem H5.next {M q Y N:Nat} {x:Im} {m m1:MS} {ys ys1:Nat → Ino} {w:World} {a:Option Addr} {ks:List Nat} {l:Nat → Bool} {W:World} (h:H5 M q Y N x m m1 ys ys1 w a ks l W) {k:Nat} (h3:k ≠ 3) (h8:k ≠ 8):H5 M q Y N x m m1 ys ys1 w a ks (fun j => j == k || l j) W:=by
 have e3:((3 == k) || l 3) = l 3:=by rw [show (3 == k) = false from by simpa using Ne.symm h3,Bool.false_or]
 have e8:((8 == k) || l 8) = l 8:=by rw [show (8 == k) = false from by simpa using Ne.symm h8,Bool.false_or]
 exact ⟨fun e => h.fa (e3 ▸ e),fun e e2 => h.fb (e3 ▸ e) (e8 ▸ e2),fun e => ⟨(h.fc (e8 ▸ e)).1,by show ((3 == k) || l 3) = true;rw [e3];exact (h.fc (e8 ▸ e)).2⟩⟩
def VH (Y o k b0:Nat) (l:Nat → Bool) (n:Nat) (v:Value):Prop :=
 if n = 3 then v = .int .i64 (b0:Int) else if n = 4 then v = .int .u32 (b0:Int) ∧ l 3 = true
 else if n = 5 then v = .pointer (some ⟨Y,o,none⟩) else if n = 6 then v = .pointer (some ⟨Y,o + 4,none⟩) else if n = 7 then v = .pointer (some ⟨Y,o + 4 + k,none⟩) else v = undef
theorem VH.up {Y o k b0:Nat} {l l':Nat → Bool} {n:Nat} {v:Value} (h:VH Y o k b0 l n v) (hl:l 3 = true → l' 3 = true):VH Y o k b0 l' n v:=by
 unfold VH at h ⊢
 split <;> rename_i h1
 ·rwa [if_pos h1] at h
 rw [if_neg h1] at h
 split <;> rename_i h2
 ·rw [if_pos h2] at h;exact ⟨h.1,hl h.2⟩
 rwa [if_neg h2] at h
theorem down_zero (x:Im) (ks:List Nat) (m:MS):MS.down x ks 0 m = (0,m):=by cases ks <;> rfl
theorem take_lt {x:Im} (hx:x.Ok) {m:MS} {lev:Nat → Nat} (h:m.Wf x lev):(m.take x).1 < 2048:=by
 obtain ⟨h1,h2,h3,h4,h5,h6,h7,h8,h9,h10,h11⟩:=mayN hx.may
 obtain ⟨_,_,_,hp⟩:=MS.take_wf (x:=x) (by omega) 0 h
 have:=hx.n_le
 by_cases e:(m.take x).1 = 0
 ·omega
 ·have:=hp.lt e;omega
set_option maxRecDepth 100000 in
set_option maxHeartbeats 16000000 in
theorem mkHang_any (M q Y N:Nat) (x:Im) (hx:x.Ok) (m:MS) (ys:Nat → Ino) (hI:PlInv x m ys N) (i:Nat) (hi:i < N) (hN:N ≤ 4096) (idx:Int) (w:World) (hs:HgS M q Y N x m ys w w) :
  Calls Tryz.prog 64 #[.pointer (some ⟨M,0,none⟩),.pointer (some ⟨Y,i * 16,none⟩),.int .i64 idx] w fun e w' =>
   e = .returned (.int .i64 (((MS.hang x (ys i) idx m).1:Nat):Int)) ∧ HgS M q Y N x (MS.hang x (ys i) idx m).2.2 (updN ys i (MS.hang x (ys i) idx m).2.1) w w':=by
 obtain ⟨h1,h2,h3,h4,h5,h6,h7,h8,h9,h10,h11⟩:=mayN hx.may
 have hn9:=hx.n_le
 obtain ⟨lev,hW,hP⟩:=hI
 obtain ⟨r,hr⟩:∃ r,r = MS.hang x (ys i) idx m:=⟨_,rfl⟩
 rw [← hr]
 have HR:=Lib.hid hr
 have HW:=Lib.hid hW
 have HP:=Lib.hid hP
 have HX:=Lib.hid hx
 have ST0:=Lib.hid hs
 clear hx hW hP hr hs h11
 go_enter Tryz.func64,Tryz.ntmps64
 go_wp2_with fail
 refine (rOf10_any idx w).mono ?_
 rintro e w1 ⟨hb1,hp⟩
 have st1:=ST0.out.below hb1
 have ST1:Hid (HgS M q Y N x m ys w1 w1):=⟨st1.p,st1.y,.refl _ _⟩
 have HB1:Hid (GwS (MY M q Y) w w1):=.of_below hb1
 have HLT:Hid (∀ j,MY M q Y j → j < w.heap.size):=fun j hj => by
  obtain ⟨f,hf⟩:=ST0.out.p.k
  rcases hj with rfl | rfl | rfl
  ·exact hf.lt
  ·exact ST0.out.p.im.lt
  ·exact ST0.out.y.lt
 clear st1
 have hidr:updN ys i (ys i) = ys:=by funext j;unfold updN;split;rename_i e;rw [e];rfl
 rcases hp with ⟨hno,rfl⟩ | ⟨hyes,a,c,rfl,hrow,hab⟩
 ·have HE:Hid (r.1 = 0 ∧ r.2.1 = ys i ∧ r.2.2 = m):=by
   show _ ∧ _ ∧ _
   rw [HR.out];unfold MS.hang;rw [if_pos hno];exact ⟨rfl,rfl,rfl⟩
  clear ST0 hb1 hno
  go_wp2_with fail
  go_ret
  obtain ⟨e1,e2,e3⟩:=HE.out
  exact ⟨by rw [e1];rfl,by rw [e2,e3,hidr];exact ⟨ST1.out.p,ST1.out.y,HB1.out⟩⟩
 obtain ⟨k,hk⟩:∃ k,k = Im.wayP idx.toNat:=⟨_,rfl⟩
 obtain ⟨ks,hks⟩:∃ ks,ks = Im.wayB idx.toNat:=⟨_,rfl⟩
 have hk11:k < 11:=by rw [hk];exact Im.wayP_lt _
 have hlen:ks.length = Im.lvl k:=by rw [hks,hk];exact Im.wayB_len _
 have hk64:∀ d,d ∈ ks → d < 64:=by rw [hks];exact Im.wayB_lt (by omega)
 have HR2:Hid (r = if (ys i).p k = 0 then ((MS.down x ks (m.take x).1 (m.take x).2).1,setP (ys i) k (m.take x).1,(MS.down x ks (m.take x).1 (m.take x).2).2) else ((MS.down x ks ((ys i).p k).toNat m).1,ys i,(MS.down x ks ((ys i).p k).toNat m).2)):=by
  show _ = _
  rw [HR.out];unfold MS.hang;rw [if_neg (by omega),← hk,← hks];rfl
 rw [← hk,← hks]
 rw [← hks] at hrow
 have HLN:=Lib.hid (And.intro hlen hk64)
 have hl3:ks.length ≤ 3:=by rw [hlen];unfold Im.lvl;split <;> omega
 have ST1:Hid (HgL M q Y N x m ys w1 a ks w1):=⟨ST1.out,hrow,fun b off e => ⟨(hab b off e).2,fun hm => by have:=HLT.out b hm;have:=(hab b off e).1;omega⟩⟩
 clear HR hk hks hyes hrow hab ST0 hb1 hlen hk64
 have hk0:(0:Int) ≤ (k:Int):=by omega
 have hk1:(k:Int) < 11:=by omega
 have cp:=ST1.out.s.ptr hi hk11
 obtain ⟨pv,hpv⟩:∃ pv,pv = (ys i).p k:=⟨_,rfl⟩
 rw [← hpv] at cp
 have HPV:=Lib.hid hpv
 have hpb:0 ≤ pv ∧ pv < 4294967296:=by rw [hpv];exact (HP.out i hi k hk11).1
 clear hpv
 have HID:=Lib.hid hidr
 clear hidr
 by_cases hp0:pv = 0
 rotate_left
 ·have q0:(pv == 0) = false:=by simp [hp0]
  obtain ⟨b0,hb0⟩:∃ b0:Nat,pv = (b0:Int):=⟨pv.toNat,by omega⟩
  have e0:pv.toNat = b0:=by omega
  have HF:Hid (MS.down x ks b0 m = (r.1,r.2.2)):=by
   show _ = _
   rw [HR2.out,if_neg (by rw [← HPV.out];exact hp0),← HPV.out,e0]
  have HYS:Hid (ys = updN ys i r.2.1):=by
   show _ = _
   rw [HR2.out,if_neg (by rw [← HPV.out];exact hp0)];exact HID.out.symm
  have HWF:Hid (∃ lev,m.Wf x lev ∧ MS.Pt x m lev ks.length b0):=⟨lev,HW.out,by rw [HLN.out.1,← e0,HPV.out];exact (HP.out i hi k hk11).2⟩
  clear hp0 e0 HR2 HPV HW HP HID
  subst hb0
  go_wp2_with fail
  clear cp q0
  go_loopw [10,11,12,13] (fun u10 u11 _ _ wr => ∃ (t b:Nat) (m':MS),t ≤ ks.length ∧ u10 = .int .i64 (b:Int) ∧ u11 = .int .i64 (t:Int) ∧ MS.down x (ks.drop t) b m' = (r.1,r.2.2) ∧ (∃ lev,m'.Wf x lev ∧ MS.Pt x m' lev (ks.length - t) b) ∧ HgL M q Y N x m' ys w1 a ks wr) (fun _ u _ _ _ => ks.length - (intOf u).toNat)
  case atStart => exact ⟨0,b0,m,by omega,rfl,rfl,HF.out,HWF.out,ST1.out⟩
  case round =>
   clear ST1 HF HWF
   obtain ⟨t,b,m',ht,rfl,rfl,hf,hwf,st⟩:=hrel
   have HF:=Lib.hid hf
   have HWF:=Lib.hid hwf
   have ST:=Lib.hid st
   clear hf hwf st
   by_cases hlt:t < ks.length
   rotate_left
   ·obtain rfl:t = ks.length:=by omega
    have HE:Hid (r.1 = b ∧ r.2.2 = m'):=by
     have:=HF.out
     rw [List.drop_length,MS.down] at this
     injection this with e1 e2
     exact ⟨e1.symm,e2.symm⟩
    clear HF
    go_wp2_with fail
    go_ret
    obtain ⟨e1,e2⟩:=HE.out
    exact ⟨by rw [e1];rfl,by rw [e2,← HYS.out];exact ⟨ST.out.s.p,ST.out.s.y,HB1.out.trans ST.out.s.gr⟩⟩
   have hlt':(t:Int) < (ks.length:Int):=by omega
   by_cases hb0:b = 0
   ·subst hb0
    have HE:Hid (r.1 = 0 ∧ r.2.2 = m'):=by
     have:=HF.out
     rw [down_zero] at this
     injection this with e1 e2
     exact ⟨e1.symm,e2.symm⟩
    clear HF
    go_wp2_with fail
    go_ret
    obtain ⟨e1,e2⟩:=HE.out
    exact ⟨by rw [e1];rfl,by rw [e2,← HYS.out];exact ⟨ST.out.s.p,ST.out.s.y,HB1.out.trans ST.out.s.gr⟩⟩
   have hbp:(0:Int) < (b:Int):=by omega
   have hbp':0 < b:=by omega
   have hbn:b < x.n:=by obtain ⟨_,_,h⟩:=HWF.out;exact h.lt hb0
   have hbn':(b:Int) < (x.n:Int):=by omega
   obtain ⟨d,hd⟩:∃ d,d = ks.getD t 0:=⟨_,rfl⟩
   obtain ⟨ab,ao,hA,_⟩:=ST.out.word hlt
   have hdm:d ∈ ks:=by rw [hd,List.getD_eq_getElem?_getD,List.getElem?_eq_getElem hlt];exact List.getElem_mem _
   have hd64:d < 64:=HLN.out.2 d hdm
   have HDR:Hid (ks.drop t = d :: ks.drop (t + 1)):=by
    show _ = _
    rw [List.drop_eq_getElem_cons hlt,hd,List.getD_eq_getElem?_getD,List.getElem?_eq_getElem hlt];rfl
   have HD:=Lib.hid hd
   subst hA
   have HBY:Hid (Byt (m'.L b)):=by obtain ⟨_,h,_⟩:=HWF.out;exact h.byt b
   have hsl:=run_blkAll18 q (b * 256)
   clear hd hdm
   go_wp2_with fail
   refine wp_region_S (HgL M q Y N x m' ys w1 (some ⟨ab,ao,none⟩) ks) (by kernel_rfl) (by kernel_rfl) (ST.out.below (Below.refl _ _).drew) ?_
   clear ST
   intro hne
   have hc0:∀ y:InW (HgL M q Y N x m' ys w1 (some ⟨ab,ao,none⟩) ks),y.W.cell? ⟨M,0,none⟩ = some (.slice (some ⟨q,0,none⟩) x.n x.n):=fun y => y.h.s.p.c0
   have hcd:∀ y:InW (HgL M q Y N x m' ys w1 (some ⟨ab,ao,none⟩) ks),y.W.cell? ⟨ab,ao + t,none⟩ = some (.int .i64 (d:Int)):=fun y => by
    obtain ⟨b',o',e,h⟩:=y.h.word hlt
    injection e with e
    injection e with e1 e2
    subst e1 e2
    rw [← HD.out] at h
    exact h
   have hd4:(4 * (d:Int)).toNat = 4 * d:=by omega
   repeat (first | go_big_quiet_skip | (go_big_quiet_want;go_big_quiet_op;go_big_quiet_on))
   go_big_quiet_want
   go_big_quiet_op
   refine ⟨_,fun y => q_call y (fun W hW => (rget32_yes q (b * 256) 256 256 (4 * (d:Int)) (m'.L b) W (by omega) (by omega) (by omega) (hW.s.p.seg hbn) HBY.out).mono fun e w' h => ⟨h.1.trans (by rw [hd4]),by obtain ⟨mm,rfl⟩:=h.2;exact hW.below ⟨rfl,rfl,rfl,Nat.le_refl _,fun _ _ => rfl⟩⟩),?_⟩
   go_big_quiet_on
   repeat (first | go_big_quiet_skip | (go_big_quiet_want;go_big_quiet_op;go_big_quiet_on))
   refine wpQuiet_nil ?_
   intro w3 h3'
   have ST:=Lib.hid h3'.out
   clear h3' hne hc0 hcd hsl
   obtain ⟨vn,hvn⟩:∃ vn:Nat,g32 (m'.L b) (4 * d) = (vn:Int):=⟨(g32 (m'.L b) (4 * d)).toNat,by have:=g32_bd HBY.out (4 * d);omega⟩
   have hvt:(g32 (m'.L b) (4 * d)).toNat = vn:=by omega
   have hv32:vn < 4294967296:=by have:=g32_bd HBY.out (4 * d);omega
   rw [hvn]
   have HV:=Lib.hid (And.intro hvn hvt)
   clear hvn hvt
   by_cases hv0:vn = 0
   ·subst hv0
    have HF2:Hid (MS.down x (ks.drop (t + 1)) (m'.take x).1 ((m'.take x).2.put b (over ((m'.take x).2.L b) (4 * d) 4 (byteOf ((m'.take x).1:Nat)))) = (r.1,r.2.2)):=by
     have:=HF.out
     rw [HDR.out,MS.down,if_neg hb0,if_pos HV.out.2] at this
     exact this
    have HW2:Hid (∃ lev,((m'.take x).2.put b (over ((m'.take x).2.L b) (4 * d) 4 (byteOf ((m'.take x).1:Nat)))).Wf x lev ∧ MS.Pt x ((m'.take x).2.put b (over ((m'.take x).2.L b) (4 * d) 4 (byteOf ((m'.take x).1:Nat)))) lev (ks.length - (t + 1)) (m'.take x).1):=by
     obtain ⟨lev,hW,hPt⟩:=HWF.out
     obtain ⟨lev1,a1,a2,a3⟩:=MS.take_wf (x:=x) (by omega) (ks.length - (t + 1)) hW
     have hPt2:MS.Pt x m' lev (ks.length - (t + 1) + 1) b:=by rw [show ks.length - (t + 1) + 1 = ks.length - t by omega];exact hPt
     exact ⟨lev1,a1.word hn9 (hPt2.ext a2) hb0 hd64 a3,by rcases a3 with a3 | a3;exact .inl a3;exact .inr a3⟩
    have hv1:(m'.take x).1 < 2048:=by obtain ⟨_,hW,_⟩:=HWF.out;exact take_lt HX.out hW
    have HBY2:Hid (Byt ((m'.take x).2.L b)):=by
     obtain ⟨lev,hW,_⟩:=HWF.out
     obtain ⟨lev1,a1,_,_⟩:=MS.take_wf (x:=x) (by omega) 0 hW
     exact a1.byt b
    have HBL:Hid ((∀ b,Byt (m'.L b)) ∧ m'.next ≤ x.n):=by obtain ⟨lev,hW,_⟩:=HWF.out;exact ⟨hW.byt,hW.le⟩
    clear HF HWF
    go_wp2_with fail
    refine (mkTake_any M q x HX.out m' HBL.out.1 HBL.out.2 _ ST.out.s.p).mono ?_
    rintro e w4 ⟨rfl,hp4,hg4⟩
    have ST4:=Lib.hid (ST.out.to (ST.out.s.turn hp4 hg4) (hg4.mono fun j e => e.elim .inl fun e => .inr (.inl e)))
    obtain ⟨v1,hv1e⟩:∃ v1,v1 = (m'.take x).1:=⟨_,rfl⟩
    obtain ⟨m2,hm2⟩:∃ m2,m2 = (m'.take x).2:=⟨_,rfl⟩
    rw [← hv1e] at hv1 HF2 HW2 ⊢
    rw [← hm2] at HF2 HW2 ST4 HBY2
    clear ST hp4 hg4 hv1e hm2
    go_wp2_with fail
    refine wp_region_bar2 (HgL M q Y N x m2 ys w1 (some ⟨ab,ao,none⟩) ks) 13 (by kernel_rfl) (by kernel_rfl) (by kernel_rfl) (by kernel_rfl) (by kernel_rfl) (by decide) (ST4.out.below (Below.refl _ _).drew) ?_
    clear ST4
    simp only [List.take_succ_cons,List.take_zero,List.drop_succ_cons,List.drop_zero]
    intro hne
    have hsl:=run_blkAll18 q (b * 256)
    have hc0:∀ y:InW (HgL M q Y N x m2 ys w1 (some ⟨ab,ao,none⟩) ks),y.W.cell? ⟨M,0,none⟩ = some (.slice (some ⟨q,0,none⟩) x.n x.n):=fun y => y.h.s.p.c0
    have hcd:∀ y:InW (HgL M q Y N x m2 ys w1 (some ⟨ab,ao,none⟩) ks),y.W.cell? ⟨ab,ao + t,none⟩ = some (.int .i64 (d:Int)):=fun y => by
     obtain ⟨b',o',e,h⟩:=y.h.word hlt
     injection e with e
     injection e with e1 e2
     subst e1 e2
     rw [← HD.out] at h
     exact h
    repeat (first | go_big_quiet_skip | (go_big_quiet_want;go_big_quiet_op;go_big_quiet_on))
    refine wpQuiet_nil ?_
    intro w5 h5'
    have ST5:=Lib.hid h5'.out
    clear h5' hne hc0 hcd hsl
    go_wp2_with fail
    refine (rput32_yes q (b * 256) 256 256 (4 * (d:Int)) (v1:Int) (m2.L b) _ (by omega) (by omega) (by omega) (by omega) (by omega) (ST5.out.s.p.seg hbn) HBY2.out (fun o ho => ST5.out.s.p.im.soft (b * 256 + o))).mono ?_
    rintro e w6 ⟨rfl,hp6⟩
    rw [hd4] at hp6
    have ST6:=Lib.hid (ST5.out.to (ST5.out.s.turn (ST5.out.s.p.puts hbn (by omega) hp6) (.of_only hp6.only (.inr rfl))) (.of_only hp6.only (.inr (.inl rfl))))
    clear ST5 hp6
    go_wp2_with fail
    go_roundw
    case rel => exact ⟨t + 1,v1,_,by omega,rfl,by go_num,HF2.out,HW2.out,ST6.out⟩
    case measure => simp [intOf];omega
   ·have HF2:Hid (MS.down x (ks.drop (t + 1)) vn m' = (r.1,r.2.2)):=by
     have:=HF.out
     rw [HDR.out,MS.down,if_neg hb0,if_neg (by rw [HV.out.2];exact hv0),HV.out.2] at this
     exact this
    have HW2:Hid (∃ lev,m'.Wf x lev ∧ MS.Pt x m' lev (ks.length - (t + 1)) vn):=by
     obtain ⟨lev,hW,hPt⟩:=HWF.out
     refine ⟨lev,hW,?_⟩
     rcases hPt with hPt | ⟨p1,p2,p3⟩
     ·exact absurd hPt hb0
     ·rcases hW.ptr b d p1 p2 (by omega) hd64 with h' | ⟨g1,g2,g3⟩
      ·rw [HV.out.2] at h';exact absurd h' hv0
      ·rw [HV.out.2] at g1 g2 g3
       exact .inr ⟨g1,g2,by omega⟩
    have q1:((vn:Int) == 0) = false:=by simp;omega
    clear HF HWF
    go_wp2_with fail
    go_roundw
    case rel => exact ⟨t + 1,vn,m',by omega,rfl,by go_num,HF2.out,HW2.out,ST.out⟩
    case measure => simp [intOf];omega
 ·subst hp0
  obtain ⟨b0,hb0⟩:∃ b0:Nat,b0 = (m.take x).1:=⟨_,rfl⟩
  obtain ⟨m1,hm1⟩:∃ m1,m1 = (m.take x).2:=⟨_,rfl⟩
  obtain ⟨ys1,hys1⟩:∃ ys1,ys1 = updN ys i (setP (ys i) k b0):=⟨_,rfl⟩
  have hr0:r = ((MS.down x ks b0 m1).1,setP (ys i) k b0,(MS.down x ks b0 m1).2):=by rw [HR2.out,if_pos HPV.out.symm,← hb0,← hm1]
  have HF:Hid (MS.down x ks b0 m1 = (r.1,r.2.2)):=by show _ = _;rw [hr0]
  have HYS:Hid (ys1 = updN ys i r.2.1):=by show _ = _;rw [hr0,hys1]
  have HWF:Hid (∃ lev,m1.Wf x lev ∧ MS.Pt x m1 lev ks.length b0):=by
   obtain ⟨lev1,a1,a2,a3⟩:=MS.take_wf (x:=x) (by omega) ks.length HW.out
   rw [hb0,hm1];exact ⟨lev1,a1,a3⟩
  have hb9:b0 < 2048:=by rw [hb0];exact take_lt HX.out HW.out
  have HTK:Hid (∀ W,HgL M q Y N x m ys w1 a ks W → Calls Tryz.prog 105 #[.pointer (some ⟨M,0,none⟩)] W fun e w' => e = .returned (.int .i64 (b0:Int)) ∧ HgL M q Y N x m1 ys w1 a ks w'):=fun W h => by
   refine (mkTake_any M q x HX.out m HW.out.byt HW.out.le W h.s.p).mono ?_
   rintro e w4 ⟨rfl,hp4,hg4⟩
   rw [hb0,hm1]
   exact ⟨rfl,h.to (h.s.turn hp4 hg4) (hg4.mono fun j e => e.elim .inl fun e => .inr (.inl e))⟩
  have HST:Hid (∀ W,HgL M q Y N x m1 ys w1 a ks W → (∃ u,W.cell? ⟨Y,i * 16 + 4 + k,none⟩ = some u) ∧ W.frozen? ⟨Y,i * 16 + 4 + k,none⟩ = false ∧ HgL M q Y N x m1 ys1 w1 a ks (W.setCell ⟨Y,i * 16 + 4 + k,none⟩ (.int .u32 (b0:Int)))):=fun W h => by
   rw [hys1]
   exact ⟨⟨_,h.s.ptr hi hk11⟩,h.s.y.soft _,h.to (h.s.putP hi hk11 b0) (.of_only (Only.setCell W ⟨Y,i * 16 + 4 + k,none⟩ _) (.inr (.inr rfl)))⟩
  have HY1:Hid ((ys1 i).p k = (b0:Int)):=by show _ = _;rw [hys1];unfold updN setP;rw [if_pos rfl];exact if_pos rfl
  clear HR2 HPV HW HP HID hb0 hm1 hys1 hr0
  go_wp2_with fail
  clear cp
  apply Vp.wp_region_pre 3 (fun l n v W => VH Y (i * 16) k b0 l n v) (fun l W => H5 M q Y N x m m1 ys ys1 w1 a ks l W) (fun W => True)
  case hm => kernel_rfl
  case hd => kernel_rfl
  case hpre => kernel_rfl
  case hB => kernel_rfl
  case hVl => exact fun l l' he n v W h => h.up fun e => by rw [← he 3 (by decide) (by decide)];exact e
  case hS =>
   intro l l' W he h
   have e3:=he 3 (by decide) (by decide)
   have e8:=he 8 (by decide) (by decide)
   exact ⟨fun e => h.fa (e3.trans e),fun e e2 => h.fb (e3.trans e) (e8.trans e2),fun e => ⟨(h.fc (e8.trans e)).1,e3.symm.trans (h.fc (e8.trans e)).2⟩⟩
  case hSC => exact fun l W h => trivial
  case hVb => exact fun l n v W W' h hb => h
  case hSb => exact fun l W W' h hb _ => h.below hb
  case h0 => exact ⟨fun _ => ST1.out.below ⟨rfl,rfl,rfl,Nat.le_refl _,fun _ _ => rfl⟩,(fun e => by cases e),fun e => by cases e⟩
  case hwalk =>
   simp only [List.take_succ_cons,List.take_zero]
   intro R hR hne
   repeat (first | go_big_quiet_skip | (go_big_quiet_want;go_big_quiet_op;go_big_quiet_on))
   exact wpQuiet_nil rfl
  case hst =>
   simp only [List.drop_succ_cons,List.drop_zero]
   refine ⟨?_,?_,?_,?_,?_,?_,trivial⟩
   ·intro l a W hl hu h
    have e1:a.tmps.getD 31 undef = .pointer (some ⟨M,0,none⟩):=(h.vals 2 31 (op_up hu 2 (by kernel_rfl)) rfl).pre (by decide) rfl
    have h8:l 8 = false:=by
     cases e:l 8 with
     | false => rfl
     | true => have:=(h.st.fc e).2;rw [hl] at this;cases this
    refine Vm.step h (by kernel_rfl) rfl rfl rfl hl (Vl.op_call 105 #[.pointer (some ⟨M,0,none⟩)] (Vl.r_call1' 105 (.tmp 31) _ _ rfl e1 (by kernel_rfl)) ?_)
    refine (HTK.out W (h.st.fa hl)).mono ?_
    rintro e W' ⟨rfl,hn⟩
    exact ⟨_,rfl,_,rfl,fun n d _ _ hv => hv.up fun _ hv => hv.up fun _ => by show ((3 == 3) || l 3) = true;rfl,Vp.W.mk (by decide) rfl,⟨(fun e => by have e:true = false:=e;cases e),fun _ _ => hn,fun e => by have e:l 8 = true:=e;rw [h8] at e;cases e⟩⟩
   ·intro l a W hl hu h
    have u3:=op_up hu 3 (by kernel_rfl)
    have e1:a.tmps.getD 32 undef = .int .i64 (b0:Int):=(h.vals 3 32 u3 rfl).post (by decide)
    have u3':l 3 = true:=u3
    have hcv:(execOp a.eval (Oper.mk (some 33) (.convert 3 45 (.tmp 32)) 45 "plan.go:99" #[{ on:=3,ground:=.data }] none)).run Tryz.prog W = .ok (.value (.int .u32 (b0:Int))) W:=by
     have hw:IntKind.u32.wrap (b0:Int) = (b0:Int):=IntWalk.u32_in _ (by omega)
     have hc:(convert 3 45 (.int .i64 (b0:Int))).run Tryz.prog W = .ok (.int .u32 (b0:Int)) W:=by simp [go_sem,hw]
     have e1':a.eval (.tmp 32) = .int .i64 (b0:Int):=e1
     unfold execOp
     simp [e1',hc]
    exact Vm.stepQ h (by kernel_rfl) rfl rfl rfl hl _ hcv (fun _ _ hv => hv.up fun _ hv => hv.up fun e => by show ((3 == 4) || l 3) = true;rw [e];rfl) (Vp.W.mk (by decide) ⟨rfl,by show ((3 == 4) || l 3) = true;rw [u3'];rfl⟩) (fun s => s.next (by decide) (by decide))
   ·intro l a W hl hu h
    have e1:a.tmps.getD 29 undef = .pointer (some ⟨Y,i * 16,none⟩):=(h.vals 0 29 (op_up hu 0 (by kernel_rfl)) rfl).pre (by decide) rfl
    exact Vm.stepQ h (by kernel_rfl) rfl rfl rfl hl _ (Vl.r_nilc (.tmp 29) rfl ⟨Y,i * 16,none⟩ e1) (fun _ _ hv => hv.up fun _ hv => hv.up fun e => by show ((3 == 5) || l 3) = true;rw [e];rfl) (Vp.W.mk (by decide) rfl) (fun s => s.next (by decide) (by decide))
   ·intro l a W hl hu h
    have e1:a.tmps.getD 34 undef = .pointer (some ⟨Y,i * 16,none⟩):=(h.vals 5 34 (op_up hu 5 (by kernel_rfl)) rfl).post (by decide)
    exact Vm.stepQ h (by kernel_rfl) rfl rfl rfl hl _ (Vl.r_field 63 (.tmp 34) 4 rfl e1 (by kernel_rfl)) (fun _ _ hv => hv.up fun _ hv => hv.up fun e => by show ((3 == 6) || l 3) = true;rw [e];rfl) (Vp.W.mk (by decide) rfl) (fun s => s.next (by decide) (by decide))
   ·intro l a W hl hu h
    have e1:a.tmps.getD 35 undef = .pointer (some ⟨Y,i * 16 + 4,none⟩):=(h.vals 6 35 (op_up hu 6 (by kernel_rfl)) rfl).post (by decide)
    have e2:a.tmps.getD 30 undef = .int .i64 (k:Int):=(h.vals 1 30 (op_up hu 1 (by kernel_rfl)) rfl).pre (by decide) rfl
    have hix:(execOp a.eval (Oper.mk (some 36) (.indexAddr 61 (.tmp 35) (.tmp 30)) 0 "plan.go:99" #[{ on:=6,ground:=.data },{ on:=1,ground:=.data }] none)).run Tryz.prog W = .ok (.value (.pointer (some ⟨Y,i * 16 + 4 + k,none⟩))) W:=by
     have e1':a.eval (.tmp 35) = .pointer (some ⟨Y,i * 16 + 4,none⟩):=e1
     have e2':a.eval (.tmp 30) = .int .i64 (k:Int):=e2
     have hal:Tryz.prog.arrayLen 61 = 11:=by kernel_rfl
     have hr:=run_indexAt_array (P:=Tryz.prog) W 61 ⟨Y,i * 16 + 4,none⟩ .i64 (k:Int) (by kernel_rfl)
     rw [hal,if_pos ⟨by omega,by omega⟩,show (Go.sizeOf (Tryz.prog.elem 61)).run Tryz.prog W = .ok 1 W from by kernel_rfl,Result.andThen_ok,Int.toNat_natCast,Nat.mul_one] at hr
     unfold execOp
     simp [e1',e2',hr,Addr.add]
    exact Vm.stepQ h (by kernel_rfl) rfl rfl rfl hl _ hix (fun _ _ hv => hv.up fun _ hv => hv.up fun e => by show ((3 == 7) || l 3) = true;rw [e];rfl) (Vp.W.mk (by decide) rfl) (fun s => s.next (by decide) (by decide))
   ·intro l a W hl hu h
    have e1:a.tmps.getD 36 undef = .pointer (some ⟨Y,i * 16 + 4 + k,none⟩):=(h.vals 7 36 (op_up hu 7 (by kernel_rfl)) rfl).post (by decide)
    obtain ⟨e2,u3⟩:a.tmps.getD 33 undef = .int .u32 (b0:Int) ∧ l 3 = true:=(h.vals 4 33 (op_up hu 4 (by kernel_rfl)) rfl).post (by decide)
    obtain ⟨⟨u,hc⟩,hf,hn⟩:=HST.out W (h.st.fb u3 hl)
    refine Vm.step h (by kernel_rfl) rfl rfl rfl hl (Vl.op_stc 45 (.tmp 36) (.tmp 33) rfl Y (i * 16 + 4 + k) (.int .u32 (b0:Int)) u e1 e2 hc hf (by kernel_rfl) rfl ?_)
    exact ⟨_,rfl,fun n d _ _ hv => hv.up fun _ hv => hv.up fun e => by show ((3 == 8) || l 3) = true;rw [e];rfl,Vp.W.mk (by decide) rfl,⟨(fun e => by have e:l 3 = false:=e;rw [u3] at e;cases e),(fun _ e => by have e:true = false:=e;cases e),fun _ => ⟨hn,by show ((3 == 8) || l 3) = true;rw [u3];rfl⟩⟩⟩
  intro a' w6 h hall
  have hall2:=hall [32,33,34,35,36] (by kernel_rfl)
  clear hall
  have e32:a'.tmps.getD 32 undef = .int .i64 (b0:Int):=(h.vals 3 32 rfl rfl).post (by decide)
  have e33:a'.tmps.getD 33 undef = .int .u32 (b0:Int):=((h.vals 4 33 rfl rfl).post (by decide):_ ∧ _).1
  have e34:a'.tmps.getD 34 undef = .pointer (some ⟨Y,i * 16,none⟩):=(h.vals 5 34 rfl rfl).post (by decide)
  have e35:a'.tmps.getD 35 undef = .pointer (some ⟨Y,i * 16 + 4,none⟩):=(h.vals 6 35 rfl rfl).post (by decide)
  have e36:a'.tmps.getD 36 undef = .pointer (some ⟨Y,i * 16 + 4 + k,none⟩):=(h.vals 7 36 rfl rfl).post (by decide)
  have hs:=(h.st.fc rfl).1
  have ST1:=Lib.hid hs
  rw [List.foldl_cons,List.foldl_cons,List.foldl_cons,List.foldl_cons,List.foldl_cons,List.foldl_nil,e32,e33,e34,e35,e36] at hall2
  simp only [Act.put,List.setIfInBounds_toArray,List.set_cons_succ,List.set_cons_zero] at hall2
  subst hall2
  have cp:w6.cell? ⟨Y,i * 16 + 4 + k,none⟩ = some (.int .u32 (b0:Int)):=by
   have h:=hs.s.ptr hi hk11
   have e:(ys1 i).p k = (b0:Int):=HY1.out
   rw [e] at h;exact h
  clear h e32 e33 e34 e35 e36 hs
  clear HTK HST HY1
  go_wp2_with fail
  clear cp
  go_loopw [10,11,12,13] (fun u10 u11 _ _ wr => ∃ (t b:Nat) (m':MS),t ≤ ks.length ∧ u10 = .int .i64 (b:Int) ∧ u11 = .int .i64 (t:Int) ∧ MS.down x (ks.drop t) b m' = (r.1,r.2.2) ∧ (∃ lev,m'.Wf x lev ∧ MS.Pt x m' lev (ks.length - t) b) ∧ HgL M q Y N x m' ys1 w1 a ks wr) (fun _ u _ _ _ => ks.length - (intOf u).toNat)
  case atStart => exact ⟨0,b0,m1,by omega,rfl,rfl,HF.out,HWF.out,ST1.out⟩
  case round =>
   clear ST1 HF HWF
   obtain ⟨t,b,m',ht,rfl,rfl,hf,hwf,st⟩:=hrel
   have HF:=Lib.hid hf
   have HWF:=Lib.hid hwf
   have ST:=Lib.hid st
   clear hf hwf st
   by_cases hlt:t < ks.length
   rotate_left
   ·obtain rfl:t = ks.length:=by omega
    have HE:Hid (r.1 = b ∧ r.2.2 = m'):=by
     have:=HF.out
     rw [List.drop_length,MS.down] at this
     injection this with e1 e2
     exact ⟨e1.symm,e2.symm⟩
    clear HF
    go_wp2_with fail
    go_ret
    obtain ⟨e1,e2⟩:=HE.out
    exact ⟨by rw [e1];rfl,by rw [e2,← HYS.out];exact ⟨ST.out.s.p,ST.out.s.y,HB1.out.trans ST.out.s.gr⟩⟩
   have hlt':(t:Int) < (ks.length:Int):=by omega
   by_cases hb0:b = 0
   ·subst hb0
    have HE:Hid (r.1 = 0 ∧ r.2.2 = m'):=by
     have:=HF.out
     rw [down_zero] at this
     injection this with e1 e2
     exact ⟨e1.symm,e2.symm⟩
    clear HF
    go_wp2_with fail
    go_ret
    obtain ⟨e1,e2⟩:=HE.out
    exact ⟨by rw [e1];rfl,by rw [e2,← HYS.out];exact ⟨ST.out.s.p,ST.out.s.y,HB1.out.trans ST.out.s.gr⟩⟩
   have hbp:(0:Int) < (b:Int):=by omega
   have hbp':0 < b:=by omega
   have hbn:b < x.n:=by obtain ⟨_,_,h⟩:=HWF.out;exact h.lt hb0
   have hbn':(b:Int) < (x.n:Int):=by omega
   obtain ⟨d,hd⟩:∃ d,d = ks.getD t 0:=⟨_,rfl⟩
   obtain ⟨ab,ao,hA,_⟩:=ST.out.word hlt
   have hdm:d ∈ ks:=by rw [hd,List.getD_eq_getElem?_getD,List.getElem?_eq_getElem hlt];exact List.getElem_mem _
   have hd64:d < 64:=HLN.out.2 d hdm
   have HDR:Hid (ks.drop t = d :: ks.drop (t + 1)):=by
    show _ = _
    rw [List.drop_eq_getElem_cons hlt,hd,List.getD_eq_getElem?_getD,List.getElem?_eq_getElem hlt];rfl
   have HD:=Lib.hid hd
   subst hA
   have HBY:Hid (Byt (m'.L b)):=by obtain ⟨_,h,_⟩:=HWF.out;exact h.byt b
   have hsl:=run_blkAll18 q (b * 256)
   clear hd hdm
   go_wp2_with fail
   refine wp_region_S (HgL M q Y N x m' ys1 w1 (some ⟨ab,ao,none⟩) ks) (by kernel_rfl) (by kernel_rfl) (ST.out.below (Below.refl _ _).drew) ?_
   clear ST
   intro hne
   have hc0:∀ y:InW (HgL M q Y N x m' ys1 w1 (some ⟨ab,ao,none⟩) ks),y.W.cell? ⟨M,0,none⟩ = some (.slice (some ⟨q,0,none⟩) x.n x.n):=fun y => y.h.s.p.c0
   have hcd:∀ y:InW (HgL M q Y N x m' ys1 w1 (some ⟨ab,ao,none⟩) ks),y.W.cell? ⟨ab,ao + t,none⟩ = some (.int .i64 (d:Int)):=fun y => by
    obtain ⟨b',o',e,h⟩:=y.h.word hlt
    injection e with e
    injection e with e1 e2
    subst e1 e2
    rw [← HD.out] at h
    exact h
   have hd4:(4 * (d:Int)).toNat = 4 * d:=by omega
   repeat (first | go_big_quiet_skip | (go_big_quiet_want;go_big_quiet_op;go_big_quiet_on))
   go_big_quiet_want
   go_big_quiet_op
   refine ⟨_,fun y => q_call y (fun W hW => (rget32_yes q (b * 256) 256 256 (4 * (d:Int)) (m'.L b) W (by omega) (by omega) (by omega) (hW.s.p.seg hbn) HBY.out).mono fun e w' h => ⟨h.1.trans (by rw [hd4]),by obtain ⟨mm,rfl⟩:=h.2;exact hW.below ⟨rfl,rfl,rfl,Nat.le_refl _,fun _ _ => rfl⟩⟩),?_⟩
   go_big_quiet_on
   repeat (first | go_big_quiet_skip | (go_big_quiet_want;go_big_quiet_op;go_big_quiet_on))
   refine wpQuiet_nil ?_
   intro w3 h3'
   have ST:=Lib.hid h3'.out
   clear h3' hne hc0 hcd hsl
   obtain ⟨vn,hvn⟩:∃ vn:Nat,g32 (m'.L b) (4 * d) = (vn:Int):=⟨(g32 (m'.L b) (4 * d)).toNat,by have:=g32_bd HBY.out (4 * d);omega⟩
   have hvt:(g32 (m'.L b) (4 * d)).toNat = vn:=by omega
   have hv32:vn < 4294967296:=by have:=g32_bd HBY.out (4 * d);omega
   rw [hvn]
   have HV:=Lib.hid (And.intro hvn hvt)
   clear hvn hvt
   by_cases hv0:vn = 0
   ·subst hv0
    have HF2:Hid (MS.down x (ks.drop (t + 1)) (m'.take x).1 ((m'.take x).2.put b (over ((m'.take x).2.L b) (4 * d) 4 (byteOf ((m'.take x).1:Nat)))) = (r.1,r.2.2)):=by
     have:=HF.out
     rw [HDR.out,MS.down,if_neg hb0,if_pos HV.out.2] at this
     exact this
    have HW2:Hid (∃ lev,((m'.take x).2.put b (over ((m'.take x).2.L b) (4 * d) 4 (byteOf ((m'.take x).1:Nat)))).Wf x lev ∧ MS.Pt x ((m'.take x).2.put b (over ((m'.take x).2.L b) (4 * d) 4 (byteOf ((m'.take x).1:Nat)))) lev (ks.length - (t + 1)) (m'.take x).1):=by
     obtain ⟨lev,hW,hPt⟩:=HWF.out
     obtain ⟨lev1,a1,a2,a3⟩:=MS.take_wf (x:=x) (by omega) (ks.length - (t + 1)) hW
     have hPt2:MS.Pt x m' lev (ks.length - (t + 1) + 1) b:=by rw [show ks.length - (t + 1) + 1 = ks.length - t by omega];exact hPt
     exact ⟨lev1,a1.word hn9 (hPt2.ext a2) hb0 hd64 a3,by rcases a3 with a3 | a3;exact .inl a3;exact .inr a3⟩
    have hv1:(m'.take x).1 < 2048:=by obtain ⟨_,hW,_⟩:=HWF.out;exact take_lt HX.out hW
    have HBY2:Hid (Byt ((m'.take x).2.L b)):=by
     obtain ⟨lev,hW,_⟩:=HWF.out
     obtain ⟨lev1,a1,_,_⟩:=MS.take_wf (x:=x) (by omega) 0 hW
     exact a1.byt b
    have HBL:Hid ((∀ b,Byt (m'.L b)) ∧ m'.next ≤ x.n):=by obtain ⟨lev,hW,_⟩:=HWF.out;exact ⟨hW.byt,hW.le⟩
    clear HF HWF
    go_wp2_with fail
    refine (mkTake_any M q x HX.out m' HBL.out.1 HBL.out.2 _ ST.out.s.p).mono ?_
    rintro e w4 ⟨rfl,hp4,hg4⟩
    have ST4:=Lib.hid (ST.out.to (ST.out.s.turn hp4 hg4) (hg4.mono fun j e => e.elim .inl fun e => .inr (.inl e)))
    obtain ⟨v1,hv1e⟩:∃ v1,v1 = (m'.take x).1:=⟨_,rfl⟩
    obtain ⟨m2,hm2⟩:∃ m2,m2 = (m'.take x).2:=⟨_,rfl⟩
    rw [← hv1e] at hv1 HF2 HW2 ⊢
    rw [← hm2] at HF2 HW2 ST4 HBY2
    clear ST hp4 hg4 hv1e hm2
    go_wp2_with fail
    refine wp_region_bar2 (HgL M q Y N x m2 ys1 w1 (some ⟨ab,ao,none⟩) ks) 13 (by kernel_rfl) (by kernel_rfl) (by kernel_rfl) (by kernel_rfl) (by kernel_rfl) (by decide) (ST4.out.below (Below.refl _ _).drew) ?_
    clear ST4
    simp only [List.take_succ_cons,List.take_zero,List.drop_succ_cons,List.drop_zero]
    intro hne
    have hsl:=run_blkAll18 q (b * 256)
    have hc0:∀ y:InW (HgL M q Y N x m2 ys1 w1 (some ⟨ab,ao,none⟩) ks),y.W.cell? ⟨M,0,none⟩ = some (.slice (some ⟨q,0,none⟩) x.n x.n):=fun y => y.h.s.p.c0
    have hcd:∀ y:InW (HgL M q Y N x m2 ys1 w1 (some ⟨ab,ao,none⟩) ks),y.W.cell? ⟨ab,ao + t,none⟩ = some (.int .i64 (d:Int)):=fun y => by
     obtain ⟨b',o',e,h⟩:=y.h.word hlt
     injection e with e
     injection e with e1 e2
     subst e1 e2
     rw [← HD.out] at h
     exact h
    repeat (first | go_big_quiet_skip | (go_big_quiet_want;go_big_quiet_op;go_big_quiet_on))
    refine wpQuiet_nil ?_
    intro w5 h5'
    have ST5:=Lib.hid h5'.out
    clear h5' hne hc0 hcd hsl
    go_wp2_with fail
    refine (rput32_yes q (b * 256) 256 256 (4 * (d:Int)) (v1:Int) (m2.L b) _ (by omega) (by omega) (by omega) (by omega) (by omega) (ST5.out.s.p.seg hbn) HBY2.out (fun o ho => ST5.out.s.p.im.soft (b * 256 + o))).mono ?_
    rintro e w6 ⟨rfl,hp6⟩
    rw [hd4] at hp6
    have ST6:=Lib.hid (ST5.out.to (ST5.out.s.turn (ST5.out.s.p.puts hbn (by omega) hp6) (.of_only hp6.only (.inr rfl))) (.of_only hp6.only (.inr (.inl rfl))))
    clear ST5 hp6
    go_wp2_with fail
    go_roundw
    case rel => exact ⟨t + 1,v1,_,by omega,rfl,by go_num,HF2.out,HW2.out,ST6.out⟩
    case measure => simp [intOf];omega
   ·have HF2:Hid (MS.down x (ks.drop (t + 1)) vn m' = (r.1,r.2.2)):=by
     have:=HF.out
     rw [HDR.out,MS.down,if_neg hb0,if_neg (by rw [HV.out.2];exact hv0),HV.out.2] at this
     exact this
    have HW2:Hid (∃ lev,m'.Wf x lev ∧ MS.Pt x m' lev (ks.length - (t + 1)) vn):=by
     obtain ⟨lev,hW,hPt⟩:=HWF.out
     refine ⟨lev,hW,?_⟩
     rcases hPt with hPt | ⟨p1,p2,p3⟩
     ·exact absurd hPt hb0
     ·rcases hW.ptr b d p1 p2 (by omega) hd64 with h' | ⟨g1,g2,g3⟩
      ·rw [HV.out.2] at h';exact absurd h' hv0
      ·rw [HV.out.2] at g1 g2 g3
       exact .inr ⟨g1,g2,by omega⟩
    have q1:((vn:Int) == 0) = false:=by simp;omega
    clear HF HWF
    go_wp2_with fail
    go_roundw
    case rel => exact ⟨t + 1,vn,m',by omega,rfl,by go_num,HF2.out,HW2.out,ST.out⟩
    case measure => simp [intOf];omega
end Go.Proofs.YtphamecphmbipaaGreatDoor
