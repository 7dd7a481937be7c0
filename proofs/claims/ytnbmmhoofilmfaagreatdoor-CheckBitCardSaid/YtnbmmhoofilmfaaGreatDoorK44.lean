/- Texts of this claim, merged by a program (a claim may have 60 files): WCkB. -/
import Derived.Test.YtnbmmhoofilmfaaGreatDoorK43
namespace Go.Proofs.YtnbmmhoofilmfaaGreatDoor
open Go.RowKit
set_option linter.unusedVariables false
theorem of_upd {L L':Nat → Nat → Int} (n:Nat) (h0:L' 0 = L 0):Im.of L' n = { Im.of L n with L:=L' }:=by
 unfold Im.of;rw [h0]
theorem flip_exam {L:Nat → Nat → Int} {n:Nat} (h0:(Im.of L n).exam.1 = 0) (hok:(Im.of L n).Ok) {k d bit:Nat} (hk:k < (Im.of L n).g) (hd:d < 2) (hb:bit < 2048) {z:Nat → Int}
  (hz:∀ q,bt z q = if q = bit then !bt (L ((Im.of L n).st k + d)) q else bt (L ((Im.of L n).st k + d)) q):3 ≤ (Im.of (updN L ((Im.of L n).st k + d) z) n).exam.1:=by
 obtain ⟨h1,h2,h3,h4,h5,h6,h7,h8,h9,h10,h11⟩:=mayN hok.may
 obtain ⟨m,o,u,hg,_⟩:=Im.good_of h0
 have e0:updN L ((Im.of L n).st k + d) z 0 = L 0:=by unfold updN Im.st;rw [if_neg (by omega)]
 rw [of_upd n e0]
 refine Im.flip_bad hg (by unfold Im.own;omega) h4 h5 h6 h7 h8 hk hd hb (fun b hb => ?_) (fun q _ => ?_)
 ·unfold updN;exact if_neg hb
 ·show bt (updN L ((Im.of L n).st k + d) z ((Im.of L n).st k + d)) q = _
  rw [updN_at]
  exact hz q
theorem set_clr {z:Nat → Int} (hz:Byt z) {i:Nat} (h:bt z i = false):bZ (clrB (bt (bZ (setB (bt z) i))) i) = z:=by
 rw [show bt (bZ (setB (bt z) i)) = setB (bt z) i from funext (bt_bZ _),show clrB (setB (bt z) i) i = bt z from ?_,bZ_bt_fun hz]
 funext j
 unfold clrB setB
 by_cases e:j = i
 ·subst e;rw [if_pos rfl,h]
 ·rw [if_neg e];exact if_neg e
theorem clr_set {z:Nat → Int} (hz:Byt z) {i:Nat} (h:bt z i = true):bZ (setB (bt (bZ (clrB (bt z) i))) i) = z:=by
 rw [show bt (bZ (clrB (bt z) i)) = clrB (bt z) i from funext (bt_bZ _),show setB (clrB (bt z) i) i = bt z from ?_,bZ_bt_fun hz]
 funext j
 unfold clrB setB
 by_cases e:j = i
 ·subst e;rw [if_pos rfl,h]
 ·rw [if_neg e];exact if_neg e
theorem bt_set1 (z:Nat → Int) (i q:Nat) (h:bt z i = false):bt (bZ (setB (bt z) i)) q = if q = i then !bt z q else bt z q:=by
 rw [bt_bZ];unfold setB
 by_cases e:q = i
 ·subst e;rw [if_pos rfl,if_pos rfl,h];rfl
 ·rw [if_neg e,if_neg e]
theorem bt_clr1 (z:Nat → Int) (i q:Nat) (h:bt z i = true):bt (bZ (clrB (bt z) i)) q = if q = i then !bt z q else bt z q:=by
 rw [bt_bZ];unfold clrB
 by_cases e:q = i
 ·subst e;rw [if_pos rfl,if_pos rfl,h];rfl
 ·rw [if_neg e,if_neg e]
def ImgW (w:World) (e:Ending) (w':World):Prop :=
 Below w.heap.size w w' ∧ ∃ (a:Option Addr) (n c:Nat) (L:Nat → Nat → Int),e = .returned (.slice a n c) ∧ ImV w' (.slice a n c) n L ∧ (∀ b,Byt (L b)) ∧ n ≤ 2048 ∧ (0 < n → ∃ q,a = some ⟨q,0,none⟩ ∧ c = n ∧ w.heap.size ≤ q ∧ RArr w' q 32 256 n (bkF L))
theorem img_w {G S I J:Int} {P:PlanD} {w:World} {e:Ending} {w':World} (h:ImgPost G S I J P w e w'):ImgW w e w':=by
 obtain ⟨hb,h⟩:=h
 refine ⟨hb,?_⟩
 rcases h with ⟨-,rfl⟩ | ⟨x,q,hx,-,-,-,-,-,rfl,hq,hr,hy⟩
 ·exact ⟨none,0,0,fun _ _ => 0,rfl,⟨none,0,rfl,fun h => absurd h (Nat.lt_irrefl _)⟩,fun _ => zero_byt,Nat.zero_le _,fun h => absurd h (Nat.lt_irrefl _)⟩
 ·exact ⟨some ⟨q,0,none⟩,x.n,x.n,P.img x,rfl,imv_of hr,hy,hx.n_le,fun _ => ⟨q,rfl,rfl,hq,hr⟩⟩
structure BiS (w:World) (p q:Nat) (cs:Array Value) (n:Nat) (L:Nat → Nat → Int) (W:World):Prop where
 im:RArr W q 32 256 n (bkF L)
 su:At W p 47 cs
 bel:Below w.heap.size w W
 lq:w.heap.size ≤ q
section
variable {w:World} {p q:Nat} {cs:Array Value} {n:Nat} {L L':Nat → Nat → Int} {W W':World}
theorem BiS.below (h:BiS w p q cs n L W) (hb:Below W.heap.size W W'):BiS w p q cs n L W':=⟨h.im.below hb,h.su.below hb h.su.lt,h.bel.trans (hb.mono h.bel.size),h.lq⟩
theorem BiS.only (h:BiS w p q cs n L W) (ho:Only q W W') (hr:RArr W' q 32 256 n (bkF L')):BiS w p q cs n L' W':=by
 obtain ⟨c,hc,_⟩:=h.im.blk
 exact ⟨hr,h.su.only ho (At.unlike h.su hc (by decide)),h.bel.trans (ho.below h.lq),h.lq⟩
theorem BiS.geo {G S I J O:Int} (h:BiS w p q (scells G S I J O) n L W):W.rangeAt p 0 (gcells G S I J).toList:=fun k v hk => by
 match k,hk with
 | 0,hk => injection hk with hk;subst hk;exact h.su.cell (i:=0) rfl
 | 1,hk => injection hk with hk;subst hk;exact h.su.cell (i:=1) rfl
 | 2,hk => injection hk with hk;subst hk;exact h.su.cell (i:=2) rfl
 | 3,hk => injection hk with hk;subst hk;exact h.su.cell (i:=3) rfl
 | k + 4,hk => cases hk
end
theorem At.geoS {p:Nat} {G S I J O:Int} {W:World} (h:At W p 47 (scells G S I J O)):W.rangeAt p 0 (gcells G S I J).toList:=fun k v hk => by
 match k,hk with
 | 0,hk => injection hk with hk;subst hk;exact h.cell (i:=0) rfl
 | 1,hk => injection hk with hk;subst hk;exact h.cell (i:=1) rfl
 | 2,hk => injection hk with hk;subst hk;exact h.cell (i:=2) rfl
 | 3,hk => injection hk with hk;subst hk;exact h.cell (i:=3) rfl
 | k + 4,hk => cases hk
set_option maxRecDepth 100000 in
set_option maxHeartbeats 8000000 in
theorem checkBit_walk (G S I J:Int) (d:PlAd) (P:PlanD) (hB:P.Bd) (γ β:Int) (B:Bool) (w:World) (hT:Tab w) (hP:PlnR w.heap.size d P w) :
  Calls Tryz.prog 9 #[plVal G S I J d P,.int .i64 γ,.int .i64 β,.bool B] w fun e w' => e = .returned (.bool true) ∧ Below w.heap.size w w':=by
 have hb0:Below w.heap.size w (w.alloc (.cells (plRow G S I J d P) 27)):=(Below.refl _ _).alloc (Nat.le_refl _) _
 have HB0:=Lib.hid hb0
 have HX0:=Lib.hid (At.plan (w:=w) G S I J d P)
 have HBD:=Lib.hid hB
 have HPL:=Lib.hid hP
 have HT:=Lib.hid hT
 have HTA:Hid (∀ W,Below w.heap.size w W → Tab W):=fun W h => HT.out.below h (Nat.le_refl _)
 clear hb0 hB hP hT
 go_enter Tryz.func9,Tryz.ntmps9
 go_wp2_with fail
 refine (awake20_any _ (HTA.out _ HB0.out)).mono ?_
 rintro e w1 ⟨rfl,hb1⟩
 have HX1:=Lib.hid (HX0.out.below hb1 HX0.out.lt)
 have HB1:Hid (Below w.heap.size w w1):=HB0.out.trans (hb1.mono HB0.out.size)
 have hbx:=HX1.out
 clear HB0 HX0 hb1
 go_wp2_with (first | (refine wp_loadAtG rfl 27 (.tmp 4) rfl _ _ _ rfl hbx Tryz.underlying27 rfl (info_plan _ _ _ _ _ _) ?_))
 have hpl1:PlnR w1.heap.size d P w1:=(HPL.out.below HB1.out).wide HB1.out.size
 refine (great_any20 G S I J d P HBD.out w1 hpl1).mono ?_
 rintro e w2 ⟨⟨bg,rfl,hsm⟩,hb2⟩
 have HX2:=Lib.hid (HX1.out.below hb2 HX1.out.lt)
 have HB2:Hid (Below w.heap.size w w2):=HB1.out.trans (hb2.mono HB1.out.size)
 have HSM:=Lib.hid hsm
 clear HX1 HB1 hb2 hbx hsm hpl1
 cases bg with
 | true =>
  go_wp2_with fail
  go_ret
  exact ⟨rfl,HB2.out⟩
 | false =>
  have HS:=Lib.hid (HSM.out rfl)
  have hbx:=HX2.out
  clear HSM
  go_wp2_with (first | (refine wp_loadAtG rfl 27 (.tmp 4) rfl _ _ _ rfl hbx Tryz.underlying27 rfl (info_plan _ _ _ _ _ _) ?_))
  refine ((image20_any G S I J d P HBD.out HS.out w2 ((HPL.out.below HB2.out).wide HB2.out.size)).mono fun e w' h => img_w h).mono ?_
  rintro e w3 ⟨hb3,a,n,c,L,rfl,him,hy,hn9,hq⟩
  have HIM:=Lib.hid him
  have HY:=Lib.hid hy
  have HQ:=Lib.hid hq
  have HB3:Hid (Below w.heap.size w w3):=HB2.out.trans (hb3.mono HB2.out.size)
  have HB2S:=Lib.hid HB2.out.size
  clear him hy HX2 HB2 hb3 hbx HS hq
  go_wp2_with fail
  refine (ckImage_any (.slice a n c) n L HY.out (by omega) w3 (HTA.out _ HB3.out) HIM.out).mono ?_
  rintro e w5 ⟨hC,hb5⟩
  have HB5:Hid (Below w.heap.size w w5):=HB3.out.trans (hb5.mono HB3.out.size)
  have HQ5:Hid (0 < n → ∃ q,a = some ⟨q,0,none⟩ ∧ c = n ∧ w2.heap.size ≤ q ∧ RArr w5 q 32 256 n (bkF L)):=fun h => by
   obtain ⟨q,e1,e2,e3,e4⟩:=HQ.out h
   exact ⟨q,e1,e2,e3,e4.below hb5⟩
  clear HIM HB3 hb5 HQ
  have hA0:At (w5.alloc (.cells (scells 0 0 0 0 0) 47)) w5.heap.size 47 (scells 0 0 0 0 0):=At.new _ _ _
  have hzs:=zero_super
  have HBA:Hid (Below w5.heap.size w5 (w5.alloc (.cells (scells 0 0 0 0 0) 47))):=(Below.refl _ _).alloc (Nat.le_refl _) _
  rcases hC with ⟨hr,rfl⟩ | ⟨hr,hok,rfl⟩
  ·clear hr HQ5
   go_wp2_with (first | (refine wp_storeAt rfl 47 (.tmp 10) (.tmp 26) rfl w5.heap.size (scells 0 0 0 0 0) (scells 0 0 0 0 0) rfl rfl hA0 info_super rfl (all_s _ _ _ _ _) ?_))
   intro w6 hA6 ho6
   have HB6:Hid (Below w.heap.size w w6):=HB5.out.trans ((HBA.out.trans (ho6.below (Nat.le_refl _))).mono HB5.out.size)
   have hrg:=hA6.geoS
   clear hA0 ho6 HB5 HBA
   go_wp2_with (first | (refine wp_loadMid rfl 23 (.tmp 29) rfl w5.heap.size 0 (gcells 0 0 0 0).toList _ rfl hrg Tryz.underlying23 rfl (by kernel_rfl) ?_))
   refine (geoStart_any 0 0 0 0 γ w6).mono ?_
   rintro e w7 ⟨rfl,hb7⟩
   have HB7:Hid (Below w.heap.size w w7):=HB6.out.trans (hb7.mono HB6.out.size)
   clear HB6 hb7 hrg hA6
   go_wp2_with fail
   go_ret
   exact ⟨rfl,HB7.out⟩
  ·have hn0:0 < n:=by
    rcases Nat.eq_zero_or_pos n with h | h
    ·subst h;rw [exam_none] at hr;cases hr
    ·exact h
   obtain ⟨q,rfl,rfl,hq2,hrq⟩:=HQ5.out hn0
   have hnx:(Im.of L c).n = c:=rfl
   have HOK:=Lib.hid hok
   have HR:=Lib.hid hr
   have HRQ:=Lib.hid hrq
   have HQL:Hid (w.heap.size ≤ q):=by have:=HB2S.out;show _ ≤ _;omega
   clear HQ5 hok hr hrq hq2
   obtain ⟨x,hx⟩:∃ x,x = Im.of L c:=⟨_,rfl⟩
   have HXE:=Lib.hid hx
   rw [← hx]
   rw [← hx] at hnx
   have HOK2:Hid x.Ok:=by show x.Ok;rw [hx];exact HOK.out
   have HG:Hid (∀ W,Calls Tryz.prog 21 #[gval x.g x.s x.i x.j,.int .i64 γ] W fun e w' => e = .returned (.tuple #[.int .i64 (stGr x.g x.s x.i x.j γ),.bool (isGr x.g x.s x.i x.j γ)]) ∧ Below W.heap.size W w'):=fun W => geoStart_any x.g x.s x.i x.j γ W
   clear hx HOK
   go_wp2_with (first | (refine wp_storeAt rfl 47 (.tmp 10) (.tmp 26) rfl w5.heap.size (scells x.g x.s x.i x.j x.o) (scells 0 0 0 0 0) rfl rfl hA0 info_super rfl (all_s _ _ _ _ _) ?_))
   intro w6 hA6 ho6
   have HB6:Hid (Below w5.heap.size w5 w6):=HBA.out.trans (ho6.below (Nat.le_refl _))
   have ST6:Hid (BiS w w5.heap.size q (scells x.g x.s x.i x.j x.o) c L w6):=⟨HRQ.out.below HB6.out,hA6,HB5.out.trans (HB6.out.mono HB5.out.size),HQL.out⟩
   obtain ⟨pb,hpb⟩:∃ pb,pb = w5.heap.size:=⟨_,rfl⟩
   rw [← hpb] at ST6 ⊢
   have hrg:=ST6.out.geo
   clear hA0 hA6 ho6 HB6 HRQ HB5 HBA hpb hn0
   go_wp2_with (first | (refine wp_loadMid rfl 23 (.tmp 29) rfl pb 0 (gcells x.g x.s x.i x.j).toList _ rfl hrg Tryz.underlying23 rfl (by kernel_rfl) ?_))
   refine (HG.out w6).mono ?_
   rintro e w7 ⟨rfl,hb7⟩
   have ST7:=Lib.hid (ST6.out.below hb7)
   clear ST6 hb7 hrg HG
   cases his:isGr (x.g:Int) (x.s:Int) (x.i:Int) (x.j:Int) γ with
   | false =>
    go_wp2_with fail
    go_ret
    exact ⟨rfl,ST7.out.bel⟩
   | true =>
    by_cases hβ0:β < 0
    ·go_wp2_with fail
     go_ret
     exact ⟨rfl,ST7.out.bel⟩
    obtain ⟨bit,rfl⟩:∃ bit:Nat,β = (bit:Int):=⟨β.toNat,by omega⟩
    clear hβ0
    by_cases hβ1:2048 ≤ bit
    ·have q1:decide ((2048:Int) ≤ (bit:Int)) = true:=decide_eq_true (by omega)
     have q2:decide (2048 ≤ bit) = true:=decide_eq_true hβ1
     go_wp2_with fail
     go_ret
     exact ⟨rfl,ST7.out.bel⟩
    have q1:decide ((2048:Int) ≤ (bit:Int)) = false:=decide_eq_false (by omega)
    have q2:decide (2048 ≤ bit) = false:=decide_eq_false hβ1
    have hbit:bit < 2048:=by omega
    clear hβ1
    obtain ⟨k,hk,hkg,hstG⟩:∃ k:Nat,γ = (k:Int) ∧ k < x.g ∧ stGr (x.g:Int) (x.s:Int) (x.i:Int) (x.j:Int) γ = ((x.st k:Nat):Int):=by
     have h:=his
     unfold isGr at h
     rw [Bool.and_eq_true,Bool.and_eq_true,decide_eq_true_eq,decide_eq_true_eq] at h
     refine ⟨γ.toNat,by omega,by omega,?_⟩
     unfold stGr Im.st
     rw [his,if_pos rfl]
     have e:γ = ((γ.toNat:Nat):Int):=by omega
     rw [e,← Int.natCast_mul]
     rw [Int.toNat_natCast];omega
    subst hk
    rw [hstG]
    clear hstG his
    have h4:=mayN HOK2.out.may
    have hc9:=HOK2.out.n
    have hat0:x.st k < c:=by
     have h:=HOK2.out.st (k:=k) (d:=0) hkg (by omega)
     rw [← hnx];exact h
    have hat1:x.st k + 1 < c:=by
     have h:=HOK2.out.st (k:=k) (d:=1) hkg (by omega)
     rw [← hnx];exact h
    have HFL:Hid (∀ dd,dd < 2 → ∀ z:Nat → Int,(∀ q,bt z q = if q = bit then !bt (L (x.st k + dd)) q else bt (L (x.st k + dd)) q) → 3 ≤ (Im.of (updN L (x.st k + dd) z) c).exam.1):=fun dd hd z hz => by
     have e:=HXE.out
     have hk':=hkg
     have ho:=HOK2.out
     rw [e] at hk' hz ho ⊢
     exact flip_exam HR.out ho hk' hd hbit hz
    have hst9:x.st k ≤ 2048:=by omega
    clear h4 hc9 hnx hkg
    obtain ⟨S,hS⟩:∃ S,S = x.st k:=⟨_,rfl⟩
    rw [← hS] at hat0 hat1 HFL hst9 ⊢
    clear hS
    have hat0':(S:Int) < (c:Int):=by omega
    have hat1':(S:Int) + 1 < (c:Int):=by omega
    cases B with
    | false =>
     cases hbv:bt (L (S)) bit with
     | false =>
      go_wp2_with fail
      refine (bitSetA_any q c (S) bit hat0 (by omega) hbit L (HY.out _) w7 ST7.out.im).mono ?_
      rintro e w8 hs
      rcases hs with ⟨h,-⟩ | ⟨-,rfl,hr8,ho8⟩
      ·rw [hbv] at h;cases h
      have ST8:=Lib.hid (ST7.out.only ho8 hr8)
      clear hr8 ho8 ST7
      obtain ⟨L1,hL1⟩:∃ L1,L1 = updN L (S) (bZ (setB (bt (L (S))) bit)):=⟨_,rfl⟩
      have H3:Hid (3 ≤ (Im.of L1 c).exam.1):=by show 3 ≤ _;rw [hL1];exact HFL.out 0 (by decide) _ (fun r => bt_set1 _ bit r hbv)
      have HY1:Hid (∀ b,Byt (L1 b)):=fun b => by
       rw [hL1];unfold updN;split
       ·exact bZ_byt _
       ·exact HY.out b
      have hbv1:bt (L1 (S)) bit = true:=by rw [hL1,updN_at,bt_bZ];unfold setB;exact if_pos rfl
      have HBK:Hid (updN L1 (S) (bZ (clrB (bt (L1 (S))) bit)) = L):=by
       show _ = _
       rw [hL1,updN_at,updN_two,set_clr (HY.out _) hbv,updN_self]
      rw [← hL1] at ST8
      clear hL1 HFL hbv
      go_wp2_with fail
      refine (ckRule_any (.slice (some ⟨q,0,none⟩) c c) c L1 HY1.out (by omega) w8 (HTA.out _ ST8.out.bel) (imv_of ST8.out.im)).mono ?_
      rintro e w9 ⟨rfl,hb9⟩
      have ST9:=Lib.hid (ST8.out.below hb9)
      clear ST8 hb9
      obtain ⟨R1,hR1⟩:∃ R1,R1 = (Im.of L1 c).exam.1:=⟨_,rfl⟩
      have hR3:3 ≤ R1:=by rw [hR1];exact H3.out
      have HR1:=Lib.hid hR1
      rw [← hR1]
      clear hR1
      have hR3':¬ (R1:Int) < 3:=by omega
      go_wp2_with fail
      refine (ckImage_any (.slice (some ⟨q,0,none⟩) c c) c L1 HY1.out (by omega) w9 (HTA.out _ ST9.out.bel) (imv_of ST9.out.im)).mono ?_
      rintro e w10 ⟨hC,hb10⟩
      have ST10:=Lib.hid (ST9.out.below hb10)
      clear ST9 hb10
      rcases hC with ⟨-,rfl⟩ | ⟨h,-⟩
      rotate_left
      ·exact absurd h (by have:=H3.out;omega)
      have hA1:At (w10.alloc (.cells (scells 0 0 0 0 0) 47)) w10.heap.size 47 (scells 0 0 0 0 0):=At.new _ _ _
      have HBB:Hid (Below w10.heap.size w10 (w10.alloc (.cells (scells 0 0 0 0 0) 47))):=(Below.refl _ _).alloc (Nat.le_refl _) _
      go_wp2_with (first | (refine wp_storeAt rfl 47 (.tmp 15) (.tmp 71) rfl w10.heap.size (scells 0 0 0 0 0) (scells 0 0 0 0 0) rfl rfl hA1 info_super rfl (all_s _ _ _ _ _) ?_))
      intro w11 hA11 ho11
      have ST11:=Lib.hid (ST10.out.below (HBB.out.trans (ho11.below (Nat.le_refl _))))
      clear hA1 HBB hA11 ho11 ST10
      have hqq:=ckQuiet_any (.slice (some ⟨q,0,none⟩) c c) c L1 HY1.out (by omega) w11 (HTA.out _ ST11.out.bel) (imv_of ST11.out.im)
      rw [show decide ((Im.of L1 c).exam.1 = 0 ∧ (Im.of L1 c).o = 0) = false from decide_eq_false (fun h => by have:=H3.out;omega)] at hqq
      have HQQ:=Lib.hid hqq
      clear hqq
      go_wp2_with fail
      refine HQQ.out.mono ?_
      rintro e w12 ⟨rfl,hb12⟩
      have ST12:=Lib.hid (ST11.out.below hb12)
      clear ST11 hb12 HQQ
      go_wp2_with fail
      refine (bitSetA_any q c (S) bit hat0 (by omega) hbit L1 (HY1.out _) w12 ST12.out.im).mono ?_
      rintro e w13 hs
      rcases hs with ⟨-,rfl,m,hw13⟩ | ⟨h,-⟩
      rotate_left
      ·rw [hbv1] at h;cases h
      have ST13:Hid (BiS w pb q (scells x.g x.s x.i x.j x.o) c L1 w13):=by rw [hw13];exact ST12.out.below ⟨rfl,rfl,rfl,Nat.le_refl _,fun _ _ => rfl⟩
      clear ST12 hw13
      go_wp2_with fail
      refine (bitClearA_any q c (S) bit hat0 (by omega) hbit L1 (HY1.out _) w13 ST13.out.im).mono ?_
      rintro e w14 hs
      rcases hs with ⟨h,-⟩ | ⟨-,rfl,hr14,ho14⟩
      ·rw [hbv1] at h;cases h
      have ST14:=Lib.hid (ST13.out.only ho14 hr14)
      clear ST13 hr14 ho14
      rw [HBK.out] at ST14
      go_wp2_with fail
      have hrr:=ckRule_any (.slice (some ⟨q,0,none⟩) c c) c L HY.out (by omega) w14 (HTA.out _ ST14.out.bel) (imv_of ST14.out.im)
      rw [HR.out] at hrr
      refine hrr.mono ?_
      rintro e w15 ⟨rfl,hb15⟩
      have HF:Hid (Below w.heap.size w w15):=ST14.out.bel.trans (hb15.mono ST14.out.bel.size)
      clear ST14 hb15 hrr
      go_wp2_with fail
      go_ret
      exact ⟨rfl,HF.out⟩
     | true =>
      go_wp2_with fail
      refine (bitSetA_any q c (S) bit hat0 (by omega) hbit L (HY.out _) w7 ST7.out.im).mono ?_
      rintro e w8 hs
      rcases hs with ⟨-,rfl,m,hw8⟩ | ⟨h,-⟩
      rotate_left
      ·rw [hbv] at h;cases h
      have ST7b:Hid (BiS w pb q (scells x.g x.s x.i x.j x.o) c L w8):=by rw [hw8];exact ST7.out.below ⟨rfl,rfl,rfl,Nat.le_refl _,fun _ _ => rfl⟩
      clear ST7 hw8
      go_wp2_with fail
      refine (bitClearA_any q c (S) bit hat0 (by omega) hbit L (HY.out _) w8 ST7b.out.im).mono ?_
      rintro e w8b hs
      rcases hs with ⟨h,-⟩ | ⟨-,rfl,hr8,ho8⟩
      ·rw [hbv] at h;cases h
      have ST8:=Lib.hid (ST7b.out.only ho8 hr8)
      clear hr8 ho8 ST7b
      obtain ⟨L1,hL1⟩:∃ L1,L1 = updN L (S) (bZ (clrB (bt (L (S))) bit)):=⟨_,rfl⟩
      have H3:Hid (3 ≤ (Im.of L1 c).exam.1):=by show 3 ≤ _;rw [hL1];exact HFL.out 0 (by decide) _ (fun r => bt_clr1 _ bit r hbv)
      have HY1:Hid (∀ b,Byt (L1 b)):=fun b => by
       rw [hL1];unfold updN;split
       ·exact bZ_byt _
       ·exact HY.out b
      have hbv1:bt (L1 (S)) bit = false:=by rw [hL1,updN_at,bt_bZ];unfold clrB;exact if_pos rfl
      have HBK:Hid (updN L1 (S) (bZ (setB (bt (L1 (S))) bit)) = L):=by
       show _ = _
       rw [hL1,updN_at,updN_two,clr_set (HY.out _) hbv,updN_self]
      rw [← hL1] at ST8
      clear hL1 HFL hbv
      go_wp2_with fail
      refine (ckRule_any (.slice (some ⟨q,0,none⟩) c c) c L1 HY1.out (by omega) w8b (HTA.out _ ST8.out.bel) (imv_of ST8.out.im)).mono ?_
      rintro e w9 ⟨rfl,hb9⟩
      have ST9:=Lib.hid (ST8.out.below hb9)
      clear ST8 hb9
      obtain ⟨R1,hR1⟩:∃ R1,R1 = (Im.of L1 c).exam.1:=⟨_,rfl⟩
      have hR3:3 ≤ R1:=by rw [hR1];exact H3.out
      have HR1:=Lib.hid hR1
      rw [← hR1]
      clear hR1
      have hR3':¬ (R1:Int) < 3:=by omega
      go_wp2_with fail
      refine (ckImage_any (.slice (some ⟨q,0,none⟩) c c) c L1 HY1.out (by omega) w9 (HTA.out _ ST9.out.bel) (imv_of ST9.out.im)).mono ?_
      rintro e w10 ⟨hC,hb10⟩
      have ST10:=Lib.hid (ST9.out.below hb10)
      clear ST9 hb10
      rcases hC with ⟨-,rfl⟩ | ⟨h,-⟩
      rotate_left
      ·exact absurd h (by have:=H3.out;omega)
      have hA1:At (w10.alloc (.cells (scells 0 0 0 0 0) 47)) w10.heap.size 47 (scells 0 0 0 0 0):=At.new _ _ _
      have HBB:Hid (Below w10.heap.size w10 (w10.alloc (.cells (scells 0 0 0 0 0) 47))):=(Below.refl _ _).alloc (Nat.le_refl _) _
      go_wp2_with (first | (refine wp_storeAt rfl 47 (.tmp 15) (.tmp 71) rfl w10.heap.size (scells 0 0 0 0 0) (scells 0 0 0 0 0) rfl rfl hA1 info_super rfl (all_s _ _ _ _ _) ?_))
      intro w11 hA11 ho11
      have ST11:=Lib.hid (ST10.out.below (HBB.out.trans (ho11.below (Nat.le_refl _))))
      clear hA1 HBB hA11 ho11 ST10
      have hqq:=ckQuiet_any (.slice (some ⟨q,0,none⟩) c c) c L1 HY1.out (by omega) w11 (HTA.out _ ST11.out.bel) (imv_of ST11.out.im)
      rw [show decide ((Im.of L1 c).exam.1 = 0 ∧ (Im.of L1 c).o = 0) = false from decide_eq_false (fun h => by have:=H3.out;omega)] at hqq
      have HQQ:=Lib.hid hqq
      clear hqq
      go_wp2_with fail
      refine HQQ.out.mono ?_
      rintro e w12 ⟨rfl,hb12⟩
      have ST12:=Lib.hid (ST11.out.below hb12)
      clear ST11 hb12 HQQ
      go_wp2_with fail
      refine (bitSetA_any q c (S) bit hat0 (by omega) hbit L1 (HY1.out _) w12 ST12.out.im).mono ?_
      rintro e w13 hs
      rcases hs with ⟨h,-⟩ | ⟨-,rfl,hr14,ho14⟩
      ·rw [hbv1] at h;cases h
      have ST14:=Lib.hid (ST12.out.only ho14 hr14)
      clear ST12 hr14 ho14
      rw [HBK.out] at ST14
      go_wp2_with fail
      have hrr:=ckRule_any (.slice (some ⟨q,0,none⟩) c c) c L HY.out (by omega) w13 (HTA.out _ ST14.out.bel) (imv_of ST14.out.im)
      rw [HR.out] at hrr
      refine hrr.mono ?_
      rintro e w15 ⟨rfl,hb15⟩
      have HF:Hid (Below w.heap.size w w15):=ST14.out.bel.trans (hb15.mono ST14.out.bel.size)
      clear ST14 hb15 hrr
      go_wp2_with fail
      go_ret
      exact ⟨rfl,HF.out⟩
    | true =>
     cases hbv:bt (L (S + 1)) bit with
     | false =>
      go_wp2_with fail
      refine (bitSetA_any q c (S + 1) bit hat1 (by omega) hbit L (HY.out _) w7 ST7.out.im).mono ?_
      rintro e w8 hs
      rcases hs with ⟨h,-⟩ | ⟨-,rfl,hr8,ho8⟩
      ·rw [hbv] at h;cases h
      have ST8:=Lib.hid (ST7.out.only ho8 hr8)
      clear hr8 ho8 ST7
      obtain ⟨L1,hL1⟩:∃ L1,L1 = updN L (S + 1) (bZ (setB (bt (L (S + 1))) bit)):=⟨_,rfl⟩
      have H3:Hid (3 ≤ (Im.of L1 c).exam.1):=by show 3 ≤ _;rw [hL1];exact HFL.out 1 (by decide) _ (fun r => bt_set1 _ bit r hbv)
      have HY1:Hid (∀ b,Byt (L1 b)):=fun b => by
       rw [hL1];unfold updN;split
       ·exact bZ_byt _
       ·exact HY.out b
      have hbv1:bt (L1 (S + 1)) bit = true:=by rw [hL1,updN_at,bt_bZ];unfold setB;exact if_pos rfl
      have HBK:Hid (updN L1 (S + 1) (bZ (clrB (bt (L1 (S + 1))) bit)) = L):=by
       show _ = _
       rw [hL1,updN_at,updN_two,set_clr (HY.out _) hbv,updN_self]
      rw [← hL1] at ST8
      clear hL1 HFL hbv
      go_wp2_with fail
      refine (ckRule_any (.slice (some ⟨q,0,none⟩) c c) c L1 HY1.out (by omega) w8 (HTA.out _ ST8.out.bel) (imv_of ST8.out.im)).mono ?_
      rintro e w9 ⟨rfl,hb9⟩
      have ST9:=Lib.hid (ST8.out.below hb9)
      clear ST8 hb9
      obtain ⟨R1,hR1⟩:∃ R1,R1 = (Im.of L1 c).exam.1:=⟨_,rfl⟩
      have hR3:3 ≤ R1:=by rw [hR1];exact H3.out
      have HR1:=Lib.hid hR1
      rw [← hR1]
      clear hR1
      have hR3':¬ (R1:Int) < 3:=by omega
      go_wp2_with fail
      refine (ckImage_any (.slice (some ⟨q,0,none⟩) c c) c L1 HY1.out (by omega) w9 (HTA.out _ ST9.out.bel) (imv_of ST9.out.im)).mono ?_
      rintro e w10 ⟨hC,hb10⟩
      have ST10:=Lib.hid (ST9.out.below hb10)
      clear ST9 hb10
      rcases hC with ⟨-,rfl⟩ | ⟨h,-⟩
      rotate_left
      ·exact absurd h (by have:=H3.out;omega)
      have hA1:At (w10.alloc (.cells (scells 0 0 0 0 0) 47)) w10.heap.size 47 (scells 0 0 0 0 0):=At.new _ _ _
      have HBB:Hid (Below w10.heap.size w10 (w10.alloc (.cells (scells 0 0 0 0 0) 47))):=(Below.refl _ _).alloc (Nat.le_refl _) _
      go_wp2_with (first | (refine wp_storeAt rfl 47 (.tmp 15) (.tmp 71) rfl w10.heap.size (scells 0 0 0 0 0) (scells 0 0 0 0 0) rfl rfl hA1 info_super rfl (all_s _ _ _ _ _) ?_))
      intro w11 hA11 ho11
      have ST11:=Lib.hid (ST10.out.below (HBB.out.trans (ho11.below (Nat.le_refl _))))
      clear hA1 HBB hA11 ho11 ST10
      have hqq:=ckQuiet_any (.slice (some ⟨q,0,none⟩) c c) c L1 HY1.out (by omega) w11 (HTA.out _ ST11.out.bel) (imv_of ST11.out.im)
      rw [show decide ((Im.of L1 c).exam.1 = 0 ∧ (Im.of L1 c).o = 0) = false from decide_eq_false (fun h => by have:=H3.out;omega)] at hqq
      have HQQ:=Lib.hid hqq
      clear hqq
      go_wp2_with fail
      refine HQQ.out.mono ?_
      rintro e w12 ⟨rfl,hb12⟩
      have ST12:=Lib.hid (ST11.out.below hb12)
      clear ST11 hb12 HQQ
      go_wp2_with fail
      refine (bitSetA_any q c (S + 1) bit hat1 (by omega) hbit L1 (HY1.out _) w12 ST12.out.im).mono ?_
      rintro e w13 hs
      rcases hs with ⟨-,rfl,m,hw13⟩ | ⟨h,-⟩
      rotate_left
      ·rw [hbv1] at h;cases h
      have ST13:Hid (BiS w pb q (scells x.g x.s x.i x.j x.o) c L1 w13):=by rw [hw13];exact ST12.out.below ⟨rfl,rfl,rfl,Nat.le_refl _,fun _ _ => rfl⟩
      clear ST12 hw13
      go_wp2_with fail
      refine (bitClearA_any q c (S + 1) bit hat1 (by omega) hbit L1 (HY1.out _) w13 ST13.out.im).mono ?_
      rintro e w14 hs
      rcases hs with ⟨h,-⟩ | ⟨-,rfl,hr14,ho14⟩
      ·rw [hbv1] at h;cases h
      have ST14:=Lib.hid (ST13.out.only ho14 hr14)
      clear ST13 hr14 ho14
      rw [HBK.out] at ST14
      go_wp2_with fail
      have hrr:=ckRule_any (.slice (some ⟨q,0,none⟩) c c) c L HY.out (by omega) w14 (HTA.out _ ST14.out.bel) (imv_of ST14.out.im)
      rw [HR.out] at hrr
      refine hrr.mono ?_
      rintro e w15 ⟨rfl,hb15⟩
      have HF:Hid (Below w.heap.size w w15):=ST14.out.bel.trans (hb15.mono ST14.out.bel.size)
      clear ST14 hb15 hrr
      go_wp2_with fail
      go_ret
      exact ⟨rfl,HF.out⟩
     | true =>
      go_wp2_with fail
      refine (bitSetA_any q c (S + 1) bit hat1 (by omega) hbit L (HY.out _) w7 ST7.out.im).mono ?_
      rintro e w8 hs
      rcases hs with ⟨-,rfl,m,hw8⟩ | ⟨h,-⟩
      rotate_left
      ·rw [hbv] at h;cases h
      have ST7b:Hid (BiS w pb q (scells x.g x.s x.i x.j x.o) c L w8):=by rw [hw8];exact ST7.out.below ⟨rfl,rfl,rfl,Nat.le_refl _,fun _ _ => rfl⟩
      clear ST7 hw8
      go_wp2_with fail
      refine (bitClearA_any q c (S + 1) bit hat1 (by omega) hbit L (HY.out _) w8 ST7b.out.im).mono ?_
      rintro e w8b hs
      rcases hs with ⟨h,-⟩ | ⟨-,rfl,hr8,ho8⟩
      ·rw [hbv] at h;cases h
      have ST8:=Lib.hid (ST7b.out.only ho8 hr8)
      clear hr8 ho8 ST7b
      obtain ⟨L1,hL1⟩:∃ L1,L1 = updN L (S + 1) (bZ (clrB (bt (L (S + 1))) bit)):=⟨_,rfl⟩
      have H3:Hid (3 ≤ (Im.of L1 c).exam.1):=by show 3 ≤ _;rw [hL1];exact HFL.out 1 (by decide) _ (fun r => bt_clr1 _ bit r hbv)
      have HY1:Hid (∀ b,Byt (L1 b)):=fun b => by
       rw [hL1];unfold updN;split
       ·exact bZ_byt _
       ·exact HY.out b
      have hbv1:bt (L1 (S + 1)) bit = false:=by rw [hL1,updN_at,bt_bZ];unfold clrB;exact if_pos rfl
      have HBK:Hid (updN L1 (S + 1) (bZ (setB (bt (L1 (S + 1))) bit)) = L):=by
       show _ = _
       rw [hL1,updN_at,updN_two,clr_set (HY.out _) hbv,updN_self]
      rw [← hL1] at ST8
      clear hL1 HFL hbv
      go_wp2_with fail
      refine (ckRule_any (.slice (some ⟨q,0,none⟩) c c) c L1 HY1.out (by omega) w8b (HTA.out _ ST8.out.bel) (imv_of ST8.out.im)).mono ?_
      rintro e w9 ⟨rfl,hb9⟩
      have ST9:=Lib.hid (ST8.out.below hb9)
      clear ST8 hb9
      obtain ⟨R1,hR1⟩:∃ R1,R1 = (Im.of L1 c).exam.1:=⟨_,rfl⟩
      have hR3:3 ≤ R1:=by rw [hR1];exact H3.out
      have HR1:=Lib.hid hR1
      rw [← hR1]
      clear hR1
      have hR3':¬ (R1:Int) < 3:=by omega
      go_wp2_with fail
      refine (ckImage_any (.slice (some ⟨q,0,none⟩) c c) c L1 HY1.out (by omega) w9 (HTA.out _ ST9.out.bel) (imv_of ST9.out.im)).mono ?_
      rintro e w10 ⟨hC,hb10⟩
      have ST10:=Lib.hid (ST9.out.below hb10)
      clear ST9 hb10
      rcases hC with ⟨-,rfl⟩ | ⟨h,-⟩
      rotate_left
      ·exact absurd h (by have:=H3.out;omega)
      have hA1:At (w10.alloc (.cells (scells 0 0 0 0 0) 47)) w10.heap.size 47 (scells 0 0 0 0 0):=At.new _ _ _
      have HBB:Hid (Below w10.heap.size w10 (w10.alloc (.cells (scells 0 0 0 0 0) 47))):=(Below.refl _ _).alloc (Nat.le_refl _) _
      go_wp2_with (first | (refine wp_storeAt rfl 47 (.tmp 15) (.tmp 71) rfl w10.heap.size (scells 0 0 0 0 0) (scells 0 0 0 0 0) rfl rfl hA1 info_super rfl (all_s _ _ _ _ _) ?_))
      intro w11 hA11 ho11
      have ST11:=Lib.hid (ST10.out.below (HBB.out.trans (ho11.below (Nat.le_refl _))))
      clear hA1 HBB hA11 ho11 ST10
      have hqq:=ckQuiet_any (.slice (some ⟨q,0,none⟩) c c) c L1 HY1.out (by omega) w11 (HTA.out _ ST11.out.bel) (imv_of ST11.out.im)
      rw [show decide ((Im.of L1 c).exam.1 = 0 ∧ (Im.of L1 c).o = 0) = false from decide_eq_false (fun h => by have:=H3.out;omega)] at hqq
      have HQQ:=Lib.hid hqq
      clear hqq
      go_wp2_with fail
      refine HQQ.out.mono ?_
      rintro e w12 ⟨rfl,hb12⟩
      have ST12:=Lib.hid (ST11.out.below hb12)
      clear ST11 hb12 HQQ
      go_wp2_with fail
      refine (bitSetA_any q c (S + 1) bit hat1 (by omega) hbit L1 (HY1.out _) w12 ST12.out.im).mono ?_
      rintro e w13 hs
      rcases hs with ⟨h,-⟩ | ⟨-,rfl,hr14,ho14⟩
      ·rw [hbv1] at h;cases h
      have ST14:=Lib.hid (ST12.out.only ho14 hr14)
      clear ST12 hr14 ho14
      rw [HBK.out] at ST14
      go_wp2_with fail
      have hrr:=ckRule_any (.slice (some ⟨q,0,none⟩) c c) c L HY.out (by omega) w13 (HTA.out _ ST14.out.bel) (imv_of ST14.out.im)
      rw [HR.out] at hrr
      refine hrr.mono ?_
      rintro e w15 ⟨rfl,hb15⟩
      have HF:Hid (Below w.heap.size w w15):=ST14.out.bel.trans (hb15.mono ST14.out.bel.size)
      clear ST14 hb15 hrr
      go_wp2_with fail
      go_ret
      exact ⟨rfl,HF.out⟩
end Go.Proofs.YtnbmmhoofilmfaaGreatDoor
