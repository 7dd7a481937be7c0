/- Texts of this claim, merged by a program (a claim may have 60 files): WCkD. -/
import Derived.Test.YtphamecphmbipaaGreatDoorK43
import Derived.Test.YtphamecphmbipaaGreatDoorK25
import Derived.Test.YtphamecphmbipaaGreatDoorK42
import Derived.Test.YtphamecphmbipaaGreatDoorK18
import Derived.Test.YtphamecphmbipaaGreatDoorK15
namespace Go.Proofs.YtphamecphmbipaaGreatDoor
open Go.RowKit
set_option linter.unusedVariables false
theorem geo_inode {x:Im} (hx:x.Ok) (t:Nat) (h1:1 ≤ t) (h2:t ≤ x.ni) (w:World):Calls Tryz.prog 20 #[gval x.g x.s x.i x.j,.int .i64 (t:Int)] w fun e w' => e = .returned (.tuple #[.int .i64 ((x.ib t:Nat):Int),.int .i64 ((x.ia t:Nat):Int),.bool true]) ∧ Below w.heap.size w w':=by
 have h:=geoInode_yes x.g x.s x.i x.j (t - 1) hx.may (by show t - 1 < x.g * x.i;have:t ≤ x.g * x.i:=h2;omega) w
 rw [show ((t - 1:Nat):Int) + 1 = (t:Int) by omega] at h
 exact h
theorem ib_lt {x:Im} (hx:x.Ok) {t:Nat} (h1:1 ≤ t) (h2:t ≤ x.ni):x.ib t < x.n:=by
 obtain ⟨k1,k2,k3,k4,k5,k6,k7,k8,k9,k10,k11⟩:=mayN hx.may
 have hγ:(t - 1) / x.i < x.g:=(Nat.div_lt_iff_lt_mul (by omega)).2 (by have:t ≤ x.g * x.i:=h2;omega)
 have hr:(t - 1) % x.i < x.i:=Nat.mod_lt _ (by omega)
 have:=hx.st hγ (d:=2 + (t - 1) % x.i / 4) (by omega)
 unfold Im.ib
 rwa [Nat.add_assoc]
def frW20 (F:Nat → Nat) (k:Nat):List Value:=[.int .i64 ((F k:Nat):Int)]
structure OwS (w:World) (p q g fq B:Nat) (da:Option Addr) (dc:Nat) (x:Im) (n:Nat) (L:Nat → Nat → Int) (o F:Nat → Nat) (W:World):Prop where
 b:BiS w p q (scells x.g x.s x.i x.j x.o) n L W
 o:RArr W g 3 1 n (ownF o)
 f:RArr W fq 3 1 x.g (frW20 F)
 d:RMine W B 67 3 (.slice da x.g dc) x.g (df (rB (L 1)) (rI (L 1)) (rD (L 1)))
 ne:g ≠ fq
 lf:w.heap.size ≤ fq
section
variable {w:World} {p q g fq B:Nat} {da:Option Addr} {dc:Nat} {x:Im} {n:Nat} {L:Nat → Nat → Int} {o F:Nat → Nat} {W W':World}
theorem OwS.below (h:OwS w p q g fq B da dc x n L o F W) (hb:Below W.heap.size W W'):OwS w p q g fq B da dc x n L o F W':=⟨h.b.below hb,h.o.below hb,h.f.below hb,h.d.below hb,h.ne,h.lf⟩
theorem OwS.own (h:OwS w p q g fq B da dc x n L o F W) {t:Nat} (ht:t < n):W.cell? ⟨g,t,none⟩ = some (.int .i64 ((o t:Nat):Int)):=by
 have:=h.o.seg t ht 0 _ rfl
 rwa [Nat.zero_add,Nat.mul_one,Nat.add_zero] at this
theorem OwS.fre (h:OwS w p q g fq B da dc x n L o F W) {t:Nat} (ht:t < x.g):W.cell? ⟨fq,t,none⟩ = some (.int .i64 ((F t:Nat):Int)):=by
 have:=h.f.seg t ht 0 _ rfl
 rwa [Nat.zero_add,Nat.mul_one,Nat.add_zero] at this
theorem OwS.inc (h:OwS w p q g fq B da dc x n L o F W) {k:Nat} (hk:k < x.g) (v:Nat):OwS w p q g fq B da dc x n L o (updN F k v) (W.setCell ⟨fq,k,none⟩ (.int .i64 (v:Int))):=by
 have ho:Only fq W (W.setCell ⟨fq,k,none⟩ (.int .i64 (v:Int))):=Only.setCell W ⟨fq,k,none⟩ _
 obtain ⟨cf,hf,_⟩:=h.f.blk
 obtain ⟨ci,hi,_⟩:=h.b.im.blk
 refine ⟨⟨h.b.im.only ho (At.unlike hi hf (by decide)),h.b.su.only ho (At.unlike h.b.su hf (by decide)),h.b.bel.trans (ho.below h.lf),h.b.lq⟩,h.o.only ho h.ne,?_,own_only h.d ho (at_own_neS hf h.d (by decide)),h.ne,h.lf⟩
 have:=h.f.cellset (k:=k) (j:=0) hk (by decide) (fun _ => rfl) (.int .i64 (v:Int))
 rw [Nat.mul_one,Nat.add_zero] at this
 refine this.congr fun j hj => ?_
 unfold frW20 updN
 by_cases e:j = k
 ·subst e;rw [if_pos rfl,if_pos rfl];rfl
 ·rw [if_neg e,if_neg e]
end
theorem info_int20:(Tryz.prog.info? 3).map (fun i => (i.zero,i.size,i.bytes)) = some (some (.int .i64 0),1,8):=by kernel_rfl
theorem run_mkint20 (n:Nat) (hn:n ≤ 2048) (W:World):(Instr.makeSlice 37 (.int .i64 (n:Int)) (.int .i64 (n:Int))).run Tryz.prog W = .ok (.slice (some ⟨W.heap.size,0,none⟩) n n) (W.alloc (.cells (madeCells #[.int .i64 0] n) 3)):=by
 have h:=run_mkrow (P:=Tryz.prog) 37 3 (.int .i64 0) 1 8 Tryz.underlying37 info_int20 .i64 .i64 n (by omega) (by omega) W
 rw [Nat.mul_one] at h
 exact h
structure ReD (w:World) (p q g:Nat) (x:Im) (n:Nat) (L:Nat → Nat → Int) (o:Nat → Nat) (st:Mv.St) (W:World):Prop where
 b:BiS w p q (scells x.g x.s x.i x.j x.o) n L W
 o:RArr W g 3 1 n (ownF o)
 d:st.n = 1 → RMine W w.heap.size 67 3 st.v x.g (df (rB (L 1)) (rI (L 1)) (rD (L 1)))
set_option maxRecDepth 100000 in
set_option maxHeartbeats 8000000 in
theorem checkOwners_walk (G S I J:Int) (d:PlAd) (P:PlanD) (hB:P.Bd) (w:World) (hT:Tab w) (hP:PlnR w.heap.size d P w) :
  Calls Tryz.prog 5 #[plVal G S I J d P] w fun e w' => e = .returned (.bool true) ∧ Below w.heap.size w w':=by
 have hb0:Below w.heap.size w (w.alloc (.cells (plRow G S I J d P) 27)):=(Below.refl _ _).alloc (Nat.le_refl _) _
 have HB0:=Lib.hid hb0
 have HX0:=Lib.hid (At.plan (w:=w) G S I J d P)
 have HBD:=Lib.hid hB
 have HPL:=Lib.hid hP
 have HT:=Lib.hid hT
 have HTA:Hid (∀ W,Below w.heap.size w W → Tab W):=fun W h => HT.out.below h (Nat.le_refl _)
 clear hb0 hB hP hT
 go_enter Tryz.func5,Tryz.ntmps5
 go_wp2_with fail
 refine (awake20_any _ (HTA.out _ HB0.out)).mono ?_
 rintro e w1 ⟨rfl,hb1⟩
 have HX1:=Lib.hid (HX0.out.below hb1 HX0.out.lt)
 have HB1:Hid (Below w.heap.size w w1):=HB0.out.trans (hb1.mono HB0.out.size)
 have hbx:=HX1.out
 clear HB0 HX0 hb1
 go_wp2_with (first | (refine wp_loadAtG rfl 27 (.tmp 1) rfl _ _ _ rfl hbx Tryz.underlying27 rfl (info_plan _ _ _ _ _ _) ?_))
 have hpl1:PlnR w1.heap.size d P w1:=(HPL.out.below HB1.out).wide HB1.out.size
 refine (great_any20 G S I J d P HBD.out w1 hpl1).mono ?_
 rintro e w2 ⟨⟨bg,rfl,hsm⟩,hb2⟩
 have HX2:=Lib.hid (HX1.out.below hb2 HX1.out.lt)
 have HB2:Hid (Below w.heap.size w w2):=HB1.out.trans (hb2.mono HB1.out.size)
 have HSM:=Lib.hid hsm
 clear HX1 HB1 hb2 hbx hsm hpl1
 cases bg with
 | true =>
  go_wp2_with fail
  go_ret
  exact ⟨rfl,HB2.out⟩
 | false =>
  have HS:=Lib.hid (HSM.out rfl)
  have hbx:=HX2.out
  clear HSM
  go_wp2_with (first | (refine wp_loadAtG rfl 27 (.tmp 1) rfl _ _ _ rfl hbx Tryz.underlying27 rfl (info_plan _ _ _ _ _ _) ?_))
  refine ((image20_any G S I J d P HBD.out HS.out w2 ((HPL.out.below HB2.out).wide HB2.out.size)).mono fun e w' h => img_w h).mono ?_
  rintro e w3 ⟨hb3,a,n,c,L,rfl,him,hy,hn9,hq⟩
  have HIM:=Lib.hid him
  have HY:=Lib.hid hy
  have HQ:=Lib.hid hq
  have HB3:Hid (Below w.heap.size w w3):=HB2.out.trans (hb3.mono HB2.out.size)
  have HB2S:=Lib.hid HB2.out.size
  clear him hy HX2 HB2 hb3 hbx HS hq
  go_wp2_with fail
  refine (ckOwners_any (.slice a n c) n L HY.out (by omega) w3 (HTA.out _ HB3.out) HIM.out).mono ?_
  rintro e w4 ⟨hb4,hO⟩
  have HIM4:=Lib.hid (HIM.out.below hb4)
  have HB4:Hid (Below w.heap.size w w4):=HB3.out.trans (hb4.mono HB3.out.size)
  have HQ4:Hid (0 < n → ∃ q,a = some ⟨q,0,none⟩ ∧ c = n ∧ w2.heap.size ≤ q ∧ RArr w4 q 32 256 n (bkF L)):=fun h => by
   obtain ⟨q,e1,e2,e3,e4⟩:=HQ.out h
   exact ⟨q,e1,e2,e3,e4.below hb4⟩
  have HW34:=Lib.hid hb4.size
  clear HIM hb4 HQ
  rcases hO with ⟨hr,rfl⟩ | ⟨hr,hok,g,rfl,hg,ho⟩
  ·have HRN:=Lib.hid hr
   clear hr HQ4 HB3
   go_wp2_with fail
   refine (ckImage_any (.slice a n c) n L HY.out (by omega) w4 (HTA.out _ HB4.out) HIM4.out).mono ?_
   rintro e w5 ⟨hC,hb5⟩
   have HB5:Hid (Below w.heap.size w w5):=HB4.out.trans (hb5.mono HB4.out.size)
   clear HB4 hb5 HIM4
   rcases hC with ⟨-,rfl⟩ | ⟨h,-⟩
   rotate_left
   ·exact absurd h HRN.out
   have hA0:At (w5.alloc (.cells (scells 0 0 0 0 0) 47)) w5.heap.size 47 (scells 0 0 0 0 0):=At.new _ _ _
   have hzs:=zero_super
   have HBA:Hid (Below w5.heap.size w5 (w5.alloc (.cells (scells 0 0 0 0 0) 47))):=(Below.refl _ _).alloc (Nat.le_refl _) _
   go_wp2_with (first | (refine wp_storeAt rfl 47 (.tmp 5) (.tmp 33) rfl w5.heap.size (scells 0 0 0 0 0) (scells 0 0 0 0 0) rfl rfl hA0 info_super rfl (all_s _ _ _ _ _) ?_))
   intro w6 hA6 ho6
   have HB6:Hid (Below w.heap.size w w6):=HB5.out.trans ((HBA.out.trans (ho6.below (Nat.le_refl _))).mono HB5.out.size)
   have heq:=fun W => run_eql_super 0 0 0 0 0 0 0 0 0 0 W
   rw [show eqS 0 0 0 0 0 0 0 0 0 0 = true from rfl] at heq
   clear hA0 ho6 HB5 HBA
   go_wp2_with (first | (refine wp_loadAtG rfl 47 (.tmp 5) rfl _ _ _ rfl hA6 Tryz.underlying47 rfl (by kernel_rfl) ?_))
   go_ret
   exact ⟨rfl,HB6.out⟩
  ·have hn0:0 < n:=by
    rcases Nat.eq_zero_or_pos n with h | h
    ·subst h;rw [exam_none] at hr;cases hr
    ·exact h
   obtain ⟨q,rfl,rfl,hq2,hrq⟩:=HQ4.out hn0
   have HOK:=Lib.hid hok
   have HR:=Lib.hid hr
   have HRQ:=Lib.hid hrq
   have HO:=Lib.hid ho
   have HQL:Hid (w.heap.size ≤ q):=by have:=HB2S.out;show _ ≤ _;omega
   have HGL:Hid (w.heap.size ≤ g ∧ g < w4.heap.size):=⟨by have:=HB3.out.size;omega,ho.lt⟩
   clear HQ4 hok hr hrq hq2 ho hg HB3 HIM4
   go_wp2_with fail
   refine (ckImage_any (.slice (some ⟨q,0,none⟩) c c) c L HY.out (by omega) w4 (HTA.out _ HB4.out) (imv_of HRQ.out)).mono ?_
   rintro e w5 ⟨hC,hb5⟩
   rcases hC with ⟨h,-⟩ | ⟨-,-,rfl⟩
   ·exact absurd HR.out h
   have HB5:Hid (Below w.heap.size w w5):=HB4.out.trans (hb5.mono HB4.out.size)
   have HRQ5:=Lib.hid (HRQ.out.below hb5)
   have HO5:=Lib.hid (HO.out.below hb5)
   have HGL5:Hid (g < w5.heap.size):=Nat.lt_of_lt_of_le HGL.out.2 hb5.size
   clear HB4 HRQ HO hb5
   obtain ⟨x,hx⟩:∃ x,x = Im.of L c:=⟨_,rfl⟩
   rw [← hx] at HO5 ⊢
   have HOK2:Hid x.Ok:=by show x.Ok;rw [hx];exact HOK.out
   have hxn:x.n = c:=by rw [hx];rfl
   have hxL:x.L = L:=by rw [hx];rfl
   have HGD:Hid (∃ m o u,Im.Good x m o u ∧ x.exam = (0,o)):=by
    show ∃ m o u,_
    rw [hx];exact Im.good_of HR.out
   clear hx HOK
   obtain ⟨m,o,u,hgood,hex⟩:=HGD.out
   rw [hex] at HO5
   have HG:=Lib.hid hgood
   clear hgood hex HGD
   have hA0:At (w5.alloc (.cells (scells 0 0 0 0 0) 47)) w5.heap.size 47 (scells 0 0 0 0 0):=At.new _ _ _
   have hzs:=zero_super
   have HBA:Hid (Below w5.heap.size w5 (w5.alloc (.cells (scells 0 0 0 0 0) 47))):=(Below.refl _ _).alloc (Nat.le_refl _) _
   go_wp2_with (first | (refine wp_storeAt rfl 47 (.tmp 5) (.tmp 33) rfl w5.heap.size (scells x.g x.s x.i x.j x.o) (scells 0 0 0 0 0) rfl rfl hA0 info_super rfl (all_s _ _ _ _ _) ?_))
   intro w6 hA6 ho6
   have HB6:Hid (Below w5.heap.size w5 w6):=HBA.out.trans (ho6.below (Nat.le_refl _))
   have ST:Hid (BiS w w5.heap.size q (scells x.g x.s x.i x.j x.o) c L w6):=⟨HRQ5.out.below HB6.out,hA6,HB5.out.trans (HB6.out.mono HB5.out.size),HQL.out⟩
   have HO6:=Lib.hid (HO5.out.below HB6.out)
   obtain ⟨pb,hpb⟩:∃ pb,pb = w5.heap.size:=⟨_,rfl⟩
   rw [← hpb] at ST ⊢
   clear hA0 hA6 ho6 HB6 HRQ5 HO5 HB5 HBA hpb
   go_wp2_with fail
   have hc1:1 < c:=by have:=HOK2.out.n;have:=mayN HOK2.out.may;omega
   have hc1':(1:Int) < (c:Int):=by omega
   have HC2:Hid (rdOk x.g x.s x.i x.j (L 1) = true):=by
    have:=HG.out.c2
    unfold Im.ck2 at this
    rw [hxL] at this
    exact this
   refine Mv.wp_region_mc (ReD w pb q g x c L o) ⟨0,undef⟩ (by kernel_rfl) (by kernel_rfl) (by kernel_rfl) ⟨ST.out.below (Below.refl _ _).drew,HO6.out.below (Below.refl _ _).drew,fun h => by cases h⟩ ?_
   clear ST HO6
   intro hne
   (refine Mv.lin_take 5 (by kernel_rfl) ?_;simp only [List.take_succ_cons,List.take_zero,List.drop_succ_cons,List.drop_zero])
   first | go_big_quiet_skip | (go_big_quiet_want;go_big_quiet_op;go_big_quiet_on)
   refine q_load rfl 23 (.tmp 46) rfl pb 0 rfl (gcells x.g x.s x.i x.j).toList _ (fun W h => by obtain ⟨_,h⟩:=h;exact h.b.geo) Tryz.underlying23 rfl (by kernel_rfl) ?_
   refine wpQuiet_frame (by simp only [Act.put,List.setIfInBounds_toArray,List.set_cons_succ,List.set_cons_zero];exact rfl) ?_
   first | go_big_quiet_skip | (go_big_quiet_want;go_big_quiet_op;go_big_quiet_on)
   first | go_big_quiet_skip | (go_big_quiet_want;go_big_quiet_op;go_big_quiet_on)
   refine q_load rfl 32 (.tmp 49) rfl q 256 rfl (bkF L 1) _ (fun W h => by obtain ⟨_,h⟩:=h;have:=RSeg.range h.b.im.seg 1 hc1;rwa [Nat.zero_add,Nat.one_mul] at this) Tryz.underlying32 rfl (by rw [bkF_len];exact info_block) ?_
   refine wpQuiet_frame (by simp only [Act.put,List.setIfInBounds_toArray,List.set_cons_succ,List.set_cons_zero];exact rfl) ?_
   refine wpQuiet_nil ?_
   refine Mv.lin_callE rfl rfl 16 #[gval x.g x.s x.i x.j,bval (L 1)] (fun W => by kernel_rfl) (fun W hW => ?_)
   refine (superReadDescs_any x.g x.s x.i x.j (L 1) (HY.out 1) W (HTA.out W hW.b.bel)).mono ?_
   rintro e w7 ⟨v,E,rfl,hpost,hb7⟩
   rcases hpost with ⟨_,rfl,hM⟩ | ⟨hno,_⟩
   rotate_left
   ·rw [HC2.out] at hno;cases hno
   have hM2:RMine w7 w.heap.size 67 3 v x.g (df (rB (L 1)) (rI (L 1)) (rD (L 1))):=by
    have:=hM.low hW.b.bel.size
    rwa [Int.toNat_natCast] at this
   refine ⟨_,⟨1,v⟩,rfl,⟨hW.b.below hb7,hW.o.below hb7,fun _ => hM2⟩,?_⟩
   clear hW hb7 hM hM2
   refine Mv.frame (by simp only [Act.put,List.setIfInBounds_toArray,List.set_cons_succ,List.set_cons_zero];exact rfl) ?_
   (refine Mv.lin_take 5 (by kernel_rfl) ?_;simp only [List.take_succ_cons,List.take_zero,List.drop_succ_cons,List.drop_zero])
   first | go_big_quiet_skip | (go_big_quiet_want;go_big_quiet_op;go_big_quiet_on)
   first | go_big_quiet_skip | (go_big_quiet_want;go_big_quiet_op;go_big_quiet_on)
   first | go_big_quiet_skip | (go_big_quiet_want;go_big_quiet_op;go_big_quiet_on)
   first | go_big_quiet_skip | (go_big_quiet_want;go_big_quiet_op;go_big_quiet_on)
   first | go_big_quiet_skip | (go_big_quiet_want;go_big_quiet_op;go_big_quiet_on)
   refine wpQuiet_nil ?_
   refine Mv.wpLin_nil ?_
   intro w8 h8
   have hd8:=h8.d rfl
   obtain ⟨da,dc,rfl⟩:∃ a c,v = .slice a x.g c:=RMine.form hd8
   have HB8:=Lib.hid h8.b
   have HO8:=Lib.hid h8.o
   have HD8:=Lib.hid hd8
   clear h8 hne hd8
   have g0:w8.cell? ⟨pb,0,none⟩ = some (.int .i64 (x.g:Int)):=HB8.out.su.cell (i:=0) rfl
   have hg4:x.g ≤ 4:=(mayN HOK2.out.may).2.1
   have hmk:=fun W => run_mkint20 x.g (by omega) W
   have ST9:Hid (OwS w pb q g w8.heap.size w.heap.size da dc x c L o (fun k => cntB (Im.freeB x o k) 0) (w8.alloc (.cells (madeCells #[.int .i64 0] x.g) 3))):=by
    have hb:Below w8.heap.size w8 (w8.alloc (.cells (madeCells #[.int .i64 0] x.g) 3)):=(Below.refl _ _).alloc (Nat.le_refl _) _
    have hr:=RArr.made (m:=1) w8 #[.int .i64 0] rfl (by decide) x.g 3
    rw [Nat.mul_one] at hr
    exact ⟨HB8.out.below hb,HO8.out.below hb,hr.congr fun _ _ => rfl,HD8.out.below hb,Nat.ne_of_lt HO8.out.lt,HB8.out.bel.size⟩
   have hs8:g < w8.heap.size:=HO8.out.lt
   clear HB8 HO8 HD8
   go_wp2_with fail
   obtain ⟨fq,hfq⟩:∃ fq,fq = w8.heap.size:=⟨_,rfl⟩
   rw [← hfq] at ST9 ⊢
   clear hmk g0 hfq hs8 HGL5
   go_loopw [10,11,12,13,14,15,16,17,18,19,20] (fun u _ _ _ _ _ _ _ _ _ _ wr => ∃ t:Nat,t ≤ c ∧ u = .int .i64 (t:Int) ∧ OwS w pb q g fq w.heap.size da dc x c L o (fun k => cntB (Im.freeB x o k) t) wr) (fun u _ _ _ _ _ _ _ _ _ _ _ => c - (intOf u).toNat)
   case atStart => exact ⟨0,Nat.zero_le _,rfl,ST9.out⟩
   case round =>
    clear ST9
    obtain ⟨t,ht,rfl,st⟩:=hrel
    have ST:=Lib.hid st
    clear st
    by_cases hlt:t < c
    ·have hlt':(t:Int) < (c:Int):=by omega
     have hrg:=ST.out.b.geo
     have HNX:Hid (∀ k,cntB (Im.freeB x o k) (t + 1) = cntB (Im.freeB x o k) t + if Im.freeB x o k t = true then 1 else 0):=fun k => rfl
     have hcl:∀ k,cntB (Im.freeB x o k) t ≤ t:=fun k => cntB_le _ t
     have HCL:=Lib.hid hcl
     obtain ⟨Ft,hFt⟩:∃ Ft:Nat → Nat,Ft = fun k => cntB (Im.freeB x o k) t:=⟨_,rfl⟩
     rw [← hFt] at ST
     have HFT:Hid (∀ k,Ft k = cntB (Im.freeB x o k) t):=fun k => by rw [hFt]
     clear hFt hcl
     go_wp2_with (first | (refine wp_loadMid rfl 23 (.tmp 74) rfl pb 0 (gcells x.g x.s x.i x.j).toList _ rfl hrg Tryz.underlying23 rfl (by kernel_rfl) ?_))
     refine (what2_any x.g x.s x.i x.j t (by omega) (by omega) wr).mono ?_
     rintro e w10 ⟨K,A,B,rfl,hwh,hb10⟩
     have ST10:=Lib.hid (ST.out.below hb10)
     have hdat:=what_data HOK2.out (by rw [hxn];exact hlt) hwh
     have hcas:=what_cases HOK2.out (by rw [hxn];exact hlt) hwh
     clear ST hb10 hrg hwh
     have co:=ST10.out.own hlt
     have HWHO:=Lib.hid (Im.trees_who HG.out.trees t)
     obtain ⟨ov,hov⟩:∃ ov,ov = o t:=⟨_,rfl⟩
     rw [← hov] at co HWHO
     have HOV:=Lib.hid hov
     clear hov
     cases hd:x.data t with
     | false =>
      have q7:(K != 7) = true:=by rw [hd] at hdat;rw [bne,hdat];rfl
      have hov0:ov = 0:=by
       rcases HWHO.out with h | h
       ·exact h
       ·rw [hd] at h;exact absurd h.1 (by decide)
      subst hov0
      have HFS:Hid (∀ k,Ft k = cntB (Im.freeB x o k) (t + 1)):=fun k => by
       rw [HNX.out,HFT.out]
       have:Im.freeB x o k t = false:=by unfold Im.freeB;rw [hd];rfl
       rw [this];rfl
      have HRL:Hid (OwS w pb q g fq w.heap.size da dc x c L o (fun k => cntB (Im.freeB x o k) (t + 1)) w10):=by
       have e:Ft = fun k => cntB (Im.freeB x o k) (t + 1):=funext HFS.out
       show OwS _ _ _ _ _ _ _ _ _ _ _ _ _ _
       rw [← e];exact ST10.out
      clear hd hdat hcas ST10 HWHO HOV
      go_wp2_with fail
      go_roundw
      case rel => first | exact ⟨t + 1,by omega,by go_num,HRL.out⟩ | ((repeat apply Exists.intro);refine ⟨?_,rfl⟩;exact ⟨t + 1,by omega,by go_num,HRL.out⟩)
      case measure => simp [intOf];omega
     | true =>
      have q7:(K != 7) = false:=by rw [hd] at hdat;rw [bne,hdat];rfl
      rcases hcas with ⟨-,h1,h2⟩ | ⟨γ,r,hγ,hr,htr,rfl,rfl,-⟩
      ·exfalso
       rw [hd] at hdat
       have:=beq_iff_eq.1 hdat
       omega
      have hrg:=ST10.out.b.geo
      have hrown:x.own ≤ r:=by
       have:=Im.data_in HOK2.out hγ hr
       rw [← htr,hd] at this
       exact of_decide_eq_true this.symm
      have hbit:=Im.bit_own HG.out hγ hr hrown
      rw [hxL,← htr,← HOV.out] at hbit
      have hr9:r < 2048:=by have:=(mayN HOK2.out.may);omega
      have hst0:x.st γ < c:=by
       have h:=HOK2.out.st hγ (d:=0) (by omega)
       rw [← hxn];exact h
      have HSTA:Hid (∀ W,Calls Tryz.prog 18 #[gval x.g x.s x.i x.j,.int .i64 (γ:Int)] W fun e w' => e = .returned (.tuple #[.int .i64 ((x.st γ:Nat):Int),.bool true]) ∧ Below W.heap.size W w'):=fun W => geoStart_yes x.g x.s x.i x.j γ HOK2.out.may hγ W
      obtain ⟨S,hS⟩:∃ S,S = x.st γ:=⟨_,rfl⟩
      rw [← hS] at hbit hst0 HSTA
      have HHAS:Hid (∀ W,Calls Tryz.prog 19 #[bval (L S),.int .i64 (r:Int)] W fun e w' => e = .returned (.bool (ov != 0)) ∧ Below W.heap.size W w'):=fun W => by
       rw [← hbit];exact bitHas_z (HY.out S) _ r rfl hr9 W
      have HFR:Hid (∀ k,Im.freeB x o k t = (decide (γ = k) && decide (ov = 0))):=fun k => by
       show _ = _
       unfold Im.freeB
       rw [hd,Bool.true_and,← HOV.out,htr,(Im.grp_in x hr).1]
      have hst0':(S:Int) < (c:Int):=by omega
      have hS9:S ≤ 2048:=by omega
      have hr0:r < 2048:=hr9
      clear hS hbit hdat hrown hd htr
      go_wp2_with (first | (refine wp_loadMid rfl 23 (.tmp 89) rfl pb 0 (gcells x.g x.s x.i x.j).toList _ rfl hrg Tryz.underlying23 rfl (by kernel_rfl) ?_))
      refine (HSTA.out w10).mono ?_
      rintro e w11 ⟨rfl,hb11⟩
      have ST11:=Lib.hid (ST10.out.below hb11)
      clear ST10 hb11 hrg HSTA co
      go_wp2_with fail
      by_cases hov0:ov = 0
      ·subst hov0
       have HH2:Hid (∀ W,Calls Tryz.prog 19 #[bval (L S),.int .i64 (r:Int)] W fun e w' => e = .returned (.bool false) ∧ Below W.heap.size W w'):=HHAS.out
       refine wp_region_S (OwS w pb q g fq w.heap.size da dc x c L o Ft) (by kernel_rfl) (by kernel_rfl) (ST11.out.below (Below.refl _ _).drew) ?_
       clear ST11 HHAS
       intro hne
       have hcx:∀ y:InW (OwS w pb q g fq w.heap.size da dc x c L o Ft),y.W.cell? ⟨g,t,none⟩ = some (.int .i64 ((0:Nat):Int)):=fun y => by
        have:=y.h.own hlt
        rwa [← HOV.out] at this
       repeat (first | go_big_quiet_skip | (go_big_quiet_want;go_big_quiet_op;go_big_quiet_on))
       refine q_load rfl 32 (.tmp 97) rfl q (S * 256) rfl (bkF L S) _ (fun W h => by have:=RSeg.range h.b.im.seg S hst0;rwa [Nat.zero_add] at this) Tryz.underlying32 rfl (by rw [bkF_len];exact info_block) ?_
       refine wpQuiet_frame (by simp only [Act.put,List.setIfInBounds_toArray,List.set_cons_succ,List.set_cons_zero];exact rfl) ?_
       first | go_big_quiet_skip | (go_big_quiet_want;go_big_quiet_op;go_big_quiet_on)
       go_big_quiet_want
       go_big_quiet_op
       refine ⟨_,fun s => q_call s (fun W hW => (HH2.out W).mono fun e w' h => ⟨h.1,hW.below h.2⟩),?_⟩
       go_big_quiet_on
       repeat (first | go_big_quiet_skip | (go_big_quiet_want;go_big_quiet_op;go_big_quiet_on))
       refine wpQuiet_nil ?_
       intro w12 h12'
       have ST12:=Lib.hid h12'.out
       clear h12' hne hcx
       have co:w12.cell? ⟨g,t,none⟩ = some (.int .i64 ((0:Nat):Int)):=by
        have:=ST12.out.own hlt
        rwa [← HOV.out] at this
       have cf:=ST12.out.fre hγ
       have ff:=ST12.out.f.soft γ
       have hγ':(γ:Int) < (x.g:Int):=by omega
       have hF9:Ft γ ≤ t:=by rw [HFT.out];exact HCL.out γ
       obtain ⟨fv,hfv⟩:∃ fv,fv = Ft γ:=⟨_,rfl⟩
       have ST13:=Lib.hid (ST12.out.inc hγ (fv + 1))
       rw [← hfv] at cf hF9
       have HFS:Hid (OwS w pb q g fq w.heap.size da dc x c L o (fun k => cntB (Im.freeB x o k) (t + 1)) (w12.setCell ⟨fq,γ,none⟩ (.int .i64 ((fv + 1:Nat):Int)))):=by
        have e:updN Ft γ (fv + 1) = fun k => cntB (Im.freeB x o k) (t + 1):=by
         funext k
         rw [HNX.out,HFR.out]
         unfold updN
         by_cases ek:k = γ
         ·subst ek;rw [if_pos rfl,hfv,HFT.out];simp
         ·rw [if_neg ek,HFT.out,decide_eq_false (fun h => ek h.symm)];rfl
        show OwS _ _ _ _ _ _ _ _ _ _ _ _ _ _
        rw [← e];exact ST13.out
       clear hfv ST12 ST13 HFT HNX HFR
       go_wp2_with fail
       go_roundw
       case rel => first | exact ⟨t + 1,by omega,by go_num,HFS.out⟩ | ((repeat apply Exists.intro);refine ⟨?_,rfl⟩;exact ⟨t + 1,by omega,by go_num,HFS.out⟩)
       case measure => simp [intOf];omega
      ·have HH2:Hid (∀ W,Calls Tryz.prog 19 #[bval (L S),.int .i64 (r:Int)] W fun e w' => e = .returned (.bool true) ∧ Below W.heap.size W w'):=fun W => by
        have:=HHAS.out W
        rwa [show (ov != 0) = true by simp [hov0]] at this
       have hov1:0 < ov:=by omega
       have hov1':(0:Int) < (ov:Int):=by omega
       have q9:((ov:Int) == 0) = false:=by simp;omega
       refine wp_region_S (OwS w pb q g fq w.heap.size da dc x c L o Ft) (by kernel_rfl) (by kernel_rfl) (ST11.out.below (Below.refl _ _).drew) ?_
       clear ST11 HHAS
       intro hne
       have hcx:∀ y:InW (OwS w pb q g fq w.heap.size da dc x c L o Ft),y.W.cell? ⟨g,t,none⟩ = some (.int .i64 ((ov:Nat):Int)):=fun y => by
        have:=y.h.own hlt
        rwa [← HOV.out] at this
       repeat (first | go_big_quiet_skip | (go_big_quiet_want;go_big_quiet_op;go_big_quiet_on))
       refine q_load rfl 32 (.tmp 97) rfl q (S * 256) rfl (bkF L S) _ (fun W h => by have:=RSeg.range h.b.im.seg S hst0;rwa [Nat.zero_add] at this) Tryz.underlying32 rfl (by rw [bkF_len];exact info_block) ?_
       refine wpQuiet_frame (by simp only [Act.put,List.setIfInBounds_toArray,List.set_cons_succ,List.set_cons_zero];exact rfl) ?_
       first | go_big_quiet_skip | (go_big_quiet_want;go_big_quiet_op;go_big_quiet_on)
       go_big_quiet_want
       go_big_quiet_op
       refine ⟨_,fun s => q_call s (fun W hW => (HH2.out W).mono fun e w' h => ⟨h.1,hW.below h.2⟩),?_⟩
       go_big_quiet_on
       repeat (first | go_big_quiet_skip | (go_big_quiet_want;go_big_quiet_op;go_big_quiet_on))
       refine wpQuiet_nil ?_
       intro w12 h12'
       have ST12:=Lib.hid h12'.out
       clear h12' hne hcx HH2
       have co:w12.cell? ⟨g,t,none⟩ = some (.int .i64 ((ov:Nat):Int)):=by
        have:=ST12.out.own hlt
        rwa [← HOV.out] at this
       obtain ⟨v1,v2,v3⟩:1 ≤ ov ∧ ov ≤ x.ni ∧ (x.ino ov).kind ≠ 0:=by
        rcases HWHO.out with h | h
        ·exact absurd h hov0
        ·exact h.2
       have HINO:Hid (∀ W,Calls Tryz.prog 20 #[gval x.g x.s x.i x.j,.int .i64 (ov:Int)] W fun e w' => e = .returned (.tuple #[.int .i64 ((x.ib ov:Nat):Int),.int .i64 ((x.ia ov:Nat):Int),.bool true]) ∧ Below W.heap.size W w'):=fun W => geo_inode HOK2.out ov v1 v2 W
       have hib:x.ib ov < c:=by rw [← hxn];exact ib_lt HOK2.out v1 v2
       have hia:x.ia ov ≤ 192:=by unfold Im.ia;have:(ov - 1) % x.i % 4 < 4:=Nat.mod_lt _ (by decide);omega
       have hck:getErr (L (x.ib ov)) (x.ia ov:Nat) = 0 ∧ x.ino ov = getIno (L (x.ib ov)) (x.ia ov:Nat):=by
        have h4:=HG.out.c4 ov v1 v2
        unfold Im.ck4 at h4
        rw [Bool.and_eq_true,hxL] at h4
        refine ⟨beq_iff_eq.1 h4.1,?_⟩
        unfold Im.ino
        rw [if_pos ⟨v1,v2⟩,hxL]
       have HGET:Hid (∀ W,Calls Tryz.prog 21 #[bval (L (x.ib ov)),.int .i64 ((x.ia ov:Nat):Int)] W fun e w' => e = .returned (.tuple #[(x.ino ov).val,.int .i64 0]) ∧ Below W.heap.size W w'):=fun W => by
        have h:=inoGet_any (L (x.ib ov)) (HY.out _) ((x.ia ov:Nat):Int) W (by omega) (by omega)
        rwa [← hck.2,hck.1] at h
       obtain ⟨ib,hibE⟩:∃ ib,ib = x.ib ov:=⟨_,rfl⟩
       obtain ⟨ia,hiaE⟩:∃ ia,ia = x.ia ov:=⟨_,rfl⟩
       obtain ⟨y,hy⟩:∃ y,y = x.ino ov:=⟨_,rfl⟩
       rw [← hibE] at HINO hib HGET
       rw [← hiaE] at HINO hia HGET
       rw [← hy] at HGET v3
       have hib':(ib:Int) < (c:Int):=by omega
       have hkd:(y.kind == 0) = false:=by simp [v3]
       have HFS:Hid (∀ W,OwS w pb q g fq w.heap.size da dc x c L o Ft W → OwS w pb q g fq w.heap.size da dc x c L o (fun k => cntB (Im.freeB x o k) (t + 1)) W):=fun W h => by
        have e:Ft = fun k => cntB (Im.freeB x o k) (t + 1):=by
         funext k
         rw [HNX.out,HFR.out,HFT.out,decide_eq_false hov0];simp
        rw [← e];exact h
       clear hck hibE hiaE hy v1 v2 v3 HFT HNX HFR HWHO hov0
       go_wp2_with fail
       clear co
       refine wp_region_S (OwS w pb q g fq w.heap.size da dc x c L o Ft) (by kernel_rfl) (by kernel_rfl) (ST12.out.below (Below.refl _ _).drew) ?_
       clear ST12
       intro hne
       have hcx:∀ y:InW (OwS w pb q g fq w.heap.size da dc x c L o Ft),y.W.cell? ⟨g,t,none⟩ = some (.int .i64 ((ov:Nat):Int)):=fun y => by
        have:=y.h.own hlt
        rwa [← HOV.out] at this
       repeat (first | go_big_quiet_skip | (go_big_quiet_want;go_big_quiet_op;go_big_quiet_on))
       refine q_load rfl 23 (.tmp 119) rfl pb 0 rfl (gcells x.g x.s x.i x.j).toList _ (fun W h => h.b.geo) Tryz.underlying23 rfl (by kernel_rfl) ?_
       refine wpQuiet_frame (by simp only [Act.put,List.setIfInBounds_toArray,List.set_cons_succ,List.set_cons_zero];exact rfl) ?_
       repeat (first | go_big_quiet_skip | (go_big_quiet_want;go_big_quiet_op;go_big_quiet_on))
       go_big_quiet_want
       go_big_quiet_op
       refine ⟨_,fun s => q_call s (fun W hW => (HINO.out W).mono fun e w' h => ⟨h.1,hW.below h.2⟩),?_⟩
       go_big_quiet_on
       repeat (first | go_big_quiet_skip | (go_big_quiet_want;go_big_quiet_op;go_big_quiet_on))
       refine wpQuiet_nil ?_
       intro w13 h13'
       have ST13:=Lib.hid h13'.out
       clear h13' hne hcx HINO
       have hrb:w13.rangeAt q (ib * 256) (bkF L ib):=by have:=RSeg.range ST13.out.b.im.seg ib hib;rwa [Nat.zero_add] at this
       go_wp2_with (first | (refine wp_loadMid rfl 32 (.tmp 132) rfl q (ib * 256) (bkF L ib) _ rfl hrb Tryz.underlying32 rfl (by rw [bkF_len];exact info_block) ?_))
       refine (HGET.out w13).mono ?_
       rintro e w14 ⟨rfl,hb14⟩
       have ST14:=Lib.hid (ST13.out.below hb14)
       clear ST13 hb14 hrb HGET
       have hzi:=zero_ino
       have hAi:At (w14.alloc (.cells Ino.nil.arr 63)) w14.heap.size 63 Ino.nil.arr:=At.new _ _ _
       go_wp2_with (first | (refine wp_storeAt rfl 63 (.tmp 19) (.tmp 136) rfl w14.heap.size y.arr Ino.nil.arr rfl rfl hAi (info_ino y) rfl (by kernel_rfl) ?_))
       intro w15 hy15 ho15
       have hb15:Below w14.heap.size w14 w15:=((Below.refl _ _).alloc (Nat.le_refl _) _).trans (ho15.below (Nat.le_refl _))
       have HRL:Hid (OwS w pb q g fq w.heap.size da dc x c L o (fun k => cntB (Im.freeB x o k) (t + 1)) w15):=Lib.hid (HFS.out _ (ST14.out.below hb15))
       have cy:w15.cell? ⟨w14.heap.size,0,none⟩ = some (.int .u8 y.kind):=hy15.cell (i:=0) rfl
       obtain ⟨ka,hka⟩:∃ k,k = w14.heap.size:=⟨_,rfl⟩
       rw [← hka] at cy ⊢
       clear hy15 ho15 hb15 ST14 hAi hzi HFS hka
       go_wp2_with fail
       go_roundw
       case rel => first | exact ⟨t + 1,by omega,by go_num,HRL.out⟩ | ((repeat apply Exists.intro);refine ⟨?_,rfl⟩;exact ⟨t + 1,by omega,by go_num,HRL.out⟩)
       case measure => simp [intOf];omega
    ·obtain rfl:c = t:=by omega
     have HFA:Hid (∀ k,k < x.g → ((cntB (Im.freeB x o k) c:Nat):Int) = rB (L 1) k):=fun k hk => by
      have:=Im.free_all HG.out HOK2.out hk
      rwa [hxn,hxL] at this
     obtain ⟨Ft,hFt⟩:∃ Ft:Nat → Nat,Ft = fun k => cntB (Im.freeB x o k) c:=⟨_,rfl⟩
     rw [← hFt] at ST
     have HFT:Hid (∀ k,k < x.g → ((Ft k:Nat):Int) = rB (L 1) k):=fun k hk => by rw [hFt];exact HFA.out k hk
     clear hFt HFA
     go_wp2_with fail
     go_loopw [21] (fun u wr => ∃ t:Nat,t ≤ x.g ∧ u = .int .i64 (t:Int) ∧ OwS w pb q g fq w.heap.size da dc x c L o Ft wr) (fun u _ => x.g - (intOf u).toNat)
     case atStart => exact ⟨0,Nat.zero_le _,rfl,ST.out⟩
     case round =>
      clear ST
      obtain ⟨k,hk,rfl,st⟩:=hrel
      have ST:=Lib.hid st
      clear st
      by_cases hkg:k < x.g
      ·have hkg':(k:Int) < (x.g:Int):=by omega
       obtain ⟨db,do_,hda⟩:∃ b f,da = some ⟨b,f,none⟩:=by
        rcases ST.out.d.row (df_len _ _ _) with h | h
        ·omega
        ·obtain ⟨b,f,e,_⟩:=h;exact ⟨b,f,e⟩
       subst hda
       have HFD:Hid (((Ft k:Nat):Int) = rB (L 1) k):=HFT.out k hkg
       have hcd:∀ y:InW (OwS w pb q g fq w.heap.size (some ⟨db,do_,none⟩) dc x c L o Ft),y.W.cell? ⟨db,do_ + k * 3,none⟩ = some (.int .i64 ((Ft k:Nat):Int)):=fun y => by
        rcases y.h.d.row (df_len _ _ _) with h | ⟨b,f,e,h⟩
        ·omega
        ·injection e with e;injection e with e1 e2;subst e1;subst e2
         have cd:=h k hkg 0 _ rfl
         rw [Nat.add_zero] at cd
         rwa [HFD.out]
       have hcf:∀ y:InW (OwS w pb q g fq w.heap.size (some ⟨db,do_,none⟩) dc x c L o Ft),y.W.cell? ⟨fq,k,none⟩ = some (.int .i64 ((Ft k:Nat):Int)):=fun y => y.h.fre hkg
       obtain ⟨fv,hfv⟩:∃ fv,fv = ((Ft k:Nat):Int):=⟨_,rfl⟩
       rw [← hfv] at hcf hcd
       have q1:(fv == fv) = true:=by simp
       have q2:(fv != fv) = false:=by simp
       clear hfv HFD
       go_wp2_with fail
       refine wp_region_S (OwS w pb q g fq w.heap.size (some ⟨db,do_,none⟩) dc x c L o Ft) (by kernel_rfl) (by kernel_rfl) (ST.out.below (Below.refl _ _).drew) ?_
       clear ST
       intro hne
       repeat (first | go_big_quiet_skip | (go_big_quiet_want;go_big_quiet_op;go_big_quiet_on))
       refine wpQuiet_nil ?_
       intro w12 h12'
       have ST12:=Lib.hid h12'.out
       clear h12' hne hcd hcf
       go_wp2_with fail
       go_roundw
       case rel => first | exact ⟨k + 1,by omega,by go_num,ST12.out⟩ | ((repeat apply Exists.intro);refine ⟨?_,rfl⟩;exact ⟨k + 1,by omega,by go_num,ST12.out⟩)
       case measure => simp [intOf];omega
      ·have hke:k = x.g:=by omega
       subst hke
       have HF:Hid (Below w.heap.size w wr):=Lib.hid ST.out.b.bel
       clear ST
       go_wp2_with fail
       go_ret
       exact ⟨rfl,HF.out⟩
end Go.Proofs.YtphamecphmbipaaGreatDoor
