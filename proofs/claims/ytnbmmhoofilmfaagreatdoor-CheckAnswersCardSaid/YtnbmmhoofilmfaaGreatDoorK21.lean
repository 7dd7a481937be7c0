/- Texts of this claim, merged by a program (a claim may have 60 files): CkB, CkW, Pl1. -/
import Derived.Test.YtnbmmhoofilmfaaGreatDoorK20
import Derived.Test.YtnbmmhoofilmfaaGreatDoorK09
import Derived.Test.YtnbmmhoofilmfaaGreatDoorK16
import Derived.Test.YtnbmmhoofilmfaaGreatDoorK14
import Derived.Test.YtnbmmhoofilmfaaGreatDoorK18
import Derived.Test.YtnbmmhoofilmfaaGreatDoorK02
namespace Go.Proofs.YtnbmmhoofilmfaaGreatDoor
open Go.RowKit
set_option linter.unusedVariables false
structure Im.Ok (x:Im):Prop where
 byt:∀ i,Byt (x.L i)
 may:mayG x.g x.s x.i x.j = true
 n:x.n = 2 + x.j + x.g * x.s
 o:x.o < 4294967296
theorem Im.Ok.st {x:Im} (h:x.Ok) {k d:Nat} (hk:k < x.g) (hd:d < x.s):x.st k + d < x.n:=by
 have:=h.n
 have h2:(k + 1) * x.s ≤ x.g * x.s:=Nat.mul_le_mul_right _ hk
 rw [Nat.succ_mul] at h2
 unfold Im.st;omega
theorem Im.Ok.n_le {x:Im} (h:x.Ok):x.n ≤ 2048:=by have:=(mayN h.may).2.2.2.2.2.2.2.2.2.2;have:=h.n;omega
abbrev XC (b off cap:Nat) (x:Im) (ds ino orp own sl un:Value):Array Value:=xcells (.slice (some ⟨b,off,none⟩) x.n cap) x.g x.s x.i x.j x.o ds ino orp own sl un
structure CkC (w:World) (p:Nat) (cs:Array Value) (b off:Nat) (x:Im) (W:World):Prop where
 a:At W p 115 cs
 i:RSeg W b off 256 x.n (bkF x.L)
 bel:Below w.heap.size w W
theorem CkC.img_lt {w:World} {p:Nat} {cs:Array Value} {b off:Nat} {x:Im} {W:World} (h:CkC w p cs b off x W) (hn:0 < x.n):b < W.heap.size:=RSeg.lt h.i hn (by intro e;have:=bkF_len x.L 0;rw [e] at this;cases this)
theorem CkC.below {w:World} {p:Nat} {cs:Array Value} {b off:Nat} {x:Im} {W W':World} (h:CkC w p cs b off x W) (hn:0 < x.n) (hb:Below W.heap.size W W'):CkC w p cs b off x W' :=
 ⟨h.a.below hb h.a.lt,RSeg.below h.i hb (h.img_lt hn),h.bel.trans (hb.mono h.bel.size)⟩
set_option maxRecDepth 100000 in
set_option maxHeartbeats 4000000 in
theorem ckBitmaps_any (p b off cap:Nat) (x:Im) (hx:x.Ok) (ds ino orp own sl un:Value) (w:World) (hA:At w p 115 (XC b off cap x ds ino orp own sl un)) (hI:RSeg w b off 256 x.n (bkF x.L)) :
  Calls Tryz.prog 96 #[.pointer (some ⟨p,0,none⟩)] w fun e w' => Said (allB x.ck3 x.g) 3 e ∧ Below w.heap.size w w':=by
 have HX:=Lib.hid hx
 obtain ⟨h1,h2,h3,h4,h5,h6,h7,h8,h9,h10,h11⟩:=mayN hx.may
 have hn9:=hx.n_le
 have hn0:0 < x.n:=by have:=hx.n;omega
 have ST0:Hid (CkC w p (XC b off cap x ds ino orp own sl un) b off x w):=⟨hA,hI,Below.refl _ _⟩
 have c6:w.cell? ⟨p,6,none⟩ = some (.int .i64 (x.g:Int)):=hA.cell (i:=6) rfl
 clear hA hI hx
 go_enter Tryz.func96,Tryz.ntmps96
 go_wp2_with fail
 clear c6
 go_loopw [9] (fun u wr => ∃ k:Nat,k ≤ x.g ∧ u = .int .i64 (k:Int) ∧ (∀ q,q < k → x.ck3 q = true) ∧ CkC w p (XC b off cap x ds ino orp own sl un) b off x wr) (fun u _ => x.g - (intOf u).toNat)
 case atStart => exact ⟨0,Nat.zero_le _,rfl,fun q h => by omega,ST0.out⟩
 case round =>
  clear ST0
  obtain ⟨k,hk,rfl,hP,st⟩:=hrel
  have HPP:=Lib.hid hP
  clear hP
  by_cases hlt:k < x.g
  ·have hlt':(k:Int) < (x.g:Int):=by omega
   have HS:=Lib.hid st
   clear st
   go_wp2_with fail
   refine (ckStart_any p x.g x.s x.i x.j k HX.out.may hlt wr (XG.of HS.out.a)).mono ?_
   rintro e w1 ⟨rfl,hb1⟩
   have st1:=HS.out.below hn0 hb1
   clear HS hb1
   have hst1:x.st k + 1 < x.n:=HX.out.st hlt (by omega)
   have HQ:Hid (2 + x.j + k * x.s = x.st k):=rfl
   rw [HQ.out]
   obtain ⟨q,hq⟩:∃ q,q = x.st k:=⟨_,rfl⟩
   have HQQ:=Lib.hid hq
   rw [← hq] at hst1 ⊢
   clear hq HQ
   have q0:(q:Int) < (x.n:Int):=by omega
   have q1:((q:Int) + 1) < (x.n:Int):=by omega
   go_wp2_with fail
   refine wp_region_bar2 (CkC w p (XC b off cap x ds ino orp own sl un) b off x) 11 (by kernel_rfl) (by kernel_rfl) (by kernel_rfl) (by kernel_rfl) (by kernel_rfl) (by decide) ⟨st1.a,st1.i,st1.bel.drew⟩ ?_
   clear st1
   simp only [List.take_succ_cons,List.take_zero,List.drop_succ_cons,List.drop_zero]
   intro hne
   have hc:∀ y:InW (CkC w p (XC b off cap x ds ino orp own sl un) b off x),y.W.cell? ⟨p,0,none⟩ = some (.slice (some ⟨b,off,none⟩) x.n cap):=fun y => y.h.a.cell (i:=0) rfl
   first | go_big_quiet_skip | (go_big_quiet_want;go_big_quiet_op;go_big_quiet_on)
   first | go_big_quiet_skip | (go_big_quiet_want;go_big_quiet_op;go_big_quiet_on)
   first | go_big_quiet_skip | (go_big_quiet_want;go_big_quiet_op;go_big_quiet_on)
   first | go_big_quiet_skip | (go_big_quiet_want;go_big_quiet_op;go_big_quiet_on)
   first | go_big_quiet_skip | (go_big_quiet_want;go_big_quiet_op;go_big_quiet_on)
   first | go_big_quiet_skip | (go_big_quiet_want;go_big_quiet_op;go_big_quiet_on)
   refine q_load rfl 32 (.tmp 20) rfl b (off + q * 256) rfl (bkF x.L q) _ (fun W h => RSeg.range h.i q (by omega)) Tryz.underlying32 rfl (by rw [bkF_len];exact info_block) ?_
   refine wpQuiet_frame (by simp only [Act.put,List.setIfInBounds_toArray,List.set_cons_succ,List.set_cons_zero];exact rfl) ?_
   first | go_big_quiet_skip | (go_big_quiet_want;go_big_quiet_op;go_big_quiet_on)
   go_big_quiet_want
   go_big_quiet_op
   refine ⟨_,fun s => q_call s (fun W hW => (ckOwn_any p x.g x.s x.i x.j h6 W (XG.of hW.a)).mono fun e w' h => ⟨h.1,h.2 ▸ hW⟩),?_⟩
   go_big_quiet_on
   go_big_quiet_want
   go_big_quiet_op
   refine ⟨_,fun s => q_call s (fun W hW => (bitFirst_z (HX.out.byt q) 0 _ 0 (2 + x.i / 4) rfl (by omega) (by omega) W).mono fun e w' h => ⟨h.1,hW.below hn0 h.2⟩),?_⟩
   go_big_quiet_on
   first | go_big_quiet_skip | (go_big_quiet_want;go_big_quiet_op;go_big_quiet_on)
   refine wpQuiet_nil ?_
   intro w5 h5
   have st5:=h5.out
   clear h5 hne hc
   have e1:=firstC_lt (bt (x.L q)) 0 (2 + x.i / 4)
   rw [Nat.zero_add] at e1
   obtain ⟨c1,hc1⟩:∃ c1,c1 = decide (firstC (bt (x.L q)) 0 (2 + x.i / 4) < 0):=⟨_,rfl⟩
   rw [← hc1]
   rw [← hc1] at e1
   have HC1:=Lib.hid e1
   clear e1 hc1
   go_wp2_with fail
   refine (must_any 3 c1 _).mono ?_
   rintro e w6 ⟨hS,rfl⟩
   rcases hS with ⟨rfl,rfl⟩ | ⟨rfl,rfl⟩
   rotate_left
   ·refine ⟨rfl,.inr ⟨allB_no hlt ?_,rfl⟩,st5.bel⟩
    have h:=HC1.out
    rw [HQQ.out] at h
    unfold Im.ck3
    rw [show Im.allS (bt (x.L (x.st k))) 0 x.own = false from h.symm];rfl
   have HS:=Lib.hid st5
   clear st5
   have st5:=HS.out
   clear HS
   go_wp2_with fail
   refine wp_region_bar2 (CkC w p (XC b off cap x ds ino orp own sl un) b off x) 14 (by kernel_rfl) (by kernel_rfl) (by kernel_rfl) (by kernel_rfl) (by kernel_rfl) (by decide) ⟨st5.a,st5.i,st5.bel.drew⟩ ?_
   clear st5
   simp only [List.take_succ_cons,List.take_zero,List.drop_succ_cons,List.drop_zero]
   intro hne
   have hc:∀ y:InW (CkC w p (XC b off cap x ds ino orp own sl un) b off x),y.W.cell? ⟨p,0,none⟩ = some (.slice (some ⟨b,off,none⟩) x.n cap):=fun y => y.h.a.cell (i:=0) rfl
   have hc7:∀ y:InW (CkC w p (XC b off cap x ds ino orp own sl un) b off x),y.W.cell? ⟨p,7,none⟩ = some (.int .i64 (x.s:Int)):=fun y => y.h.a.cell (i:=7) rfl
   first | go_big_quiet_skip | (go_big_quiet_want;go_big_quiet_op;go_big_quiet_on)
   first | go_big_quiet_skip | (go_big_quiet_want;go_big_quiet_op;go_big_quiet_on)
   first | go_big_quiet_skip | (go_big_quiet_want;go_big_quiet_op;go_big_quiet_on)
   first | go_big_quiet_skip | (go_big_quiet_want;go_big_quiet_op;go_big_quiet_on)
   first | go_big_quiet_skip | (go_big_quiet_want;go_big_quiet_op;go_big_quiet_on)
   first | go_big_quiet_skip | (go_big_quiet_want;go_big_quiet_op;go_big_quiet_on)
   refine q_load rfl 32 (.tmp 32) rfl b (off + q * 256) rfl (bkF x.L q) _ (fun W h => RSeg.range h.i q (by omega)) Tryz.underlying32 rfl (by rw [bkF_len];exact info_block) ?_
   refine wpQuiet_frame (by simp only [Act.put,List.setIfInBounds_toArray,List.set_cons_succ,List.set_cons_zero];exact rfl) ?_
   first | go_big_quiet_skip | (go_big_quiet_want;go_big_quiet_op;go_big_quiet_on)
   first | go_big_quiet_skip | (go_big_quiet_want;go_big_quiet_op;go_big_quiet_on)
   first | go_big_quiet_skip | (go_big_quiet_want;go_big_quiet_op;go_big_quiet_on)
   first | go_big_quiet_skip | (go_big_quiet_want;go_big_quiet_op;go_big_quiet_on)
   first | go_big_quiet_skip | (go_big_quiet_want;go_big_quiet_op;go_big_quiet_on)
   go_big_quiet_want
   go_big_quiet_op
   refine ⟨_,fun s => q_call s (fun W hW => (bitFirst_z (HX.out.byt q) _ 2048 x.s (2048 - x.s) rfl (by omega) (by omega) W).mono fun e w' h => ⟨h.1,hW.below hn0 h.2⟩),?_⟩
   go_big_quiet_on
   first | go_big_quiet_skip | (go_big_quiet_want;go_big_quiet_op;go_big_quiet_on)
   refine wpQuiet_nil ?_
   intro w6 h6
   have st6:=h6.out
   clear h6 hne hc hc7
   have e1:=firstC_lt (bt (x.L q)) x.s (2048 - x.s)
   rw [show x.s + (2048 - x.s) = 2048 by omega] at e1
   obtain ⟨c2,hc2⟩:∃ c2,c2 = decide (firstC (bt (x.L q)) x.s (2048 - x.s) < 0):=⟨_,rfl⟩
   rw [← hc2]
   rw [← hc2] at e1
   have HC2:=Lib.hid e1
   clear e1 hc2
   go_wp2_with fail
   refine (must_any 3 c2 _).mono ?_
   rintro e w7 ⟨hS,rfl⟩
   rcases hS with ⟨rfl,rfl⟩ | ⟨rfl,rfl⟩
   rotate_left
   ·refine ⟨rfl,.inr ⟨allB_no hlt ?_,rfl⟩,st6.bel⟩
    have h:=HC2.out
    rw [HQQ.out] at h
    unfold Im.ck3
    rw [show Im.allS (bt (x.L (x.st k))) x.s 2048 = false from h.symm,Bool.false_and,Bool.and_false]
   have HS:=Lib.hid st6
   clear st6
   have st6:=HS.out
   clear HS
   go_wp2_with fail
   refine wp_region_bar2 (CkC w p (XC b off cap x ds ino orp own sl un) b off x) 15 (by kernel_rfl) (by kernel_rfl) (by kernel_rfl) (by kernel_rfl) (by kernel_rfl) (by decide) ⟨st6.a,st6.i,st6.bel.drew⟩ ?_
   clear st6
   simp only [List.take_succ_cons,List.take_zero,List.drop_succ_cons,List.drop_zero]
   intro hne
   have hc:∀ y:InW (CkC w p (XC b off cap x ds ino orp own sl un) b off x),y.W.cell? ⟨p,0,none⟩ = some (.slice (some ⟨b,off,none⟩) x.n cap):=fun y => y.h.a.cell (i:=0) rfl
   have hc8:∀ y:InW (CkC w p (XC b off cap x ds ino orp own sl un) b off x),y.W.cell? ⟨p,8,none⟩ = some (.int .i64 (x.i:Int)):=fun y => y.h.a.cell (i:=8) rfl
   first | go_big_quiet_skip | (go_big_quiet_want;go_big_quiet_op;go_big_quiet_on)
   first | go_big_quiet_skip | (go_big_quiet_want;go_big_quiet_op;go_big_quiet_on)
   first | go_big_quiet_skip | (go_big_quiet_want;go_big_quiet_op;go_big_quiet_on)
   first | go_big_quiet_skip | (go_big_quiet_want;go_big_quiet_op;go_big_quiet_on)
   first | go_big_quiet_skip | (go_big_quiet_want;go_big_quiet_op;go_big_quiet_on)
   first | go_big_quiet_skip | (go_big_quiet_want;go_big_quiet_op;go_big_quiet_on)
   first | go_big_quiet_skip | (go_big_quiet_want;go_big_quiet_op;go_big_quiet_on)
   refine q_load rfl 32 (.tmp 48) rfl b (off + (q + 1) * 256) rfl (bkF x.L (q + 1)) _ (fun W h => RSeg.range h.i (q + 1) hst1) Tryz.underlying32 rfl (by rw [bkF_len];exact info_block) ?_
   refine wpQuiet_frame (by simp only [Act.put,List.setIfInBounds_toArray,List.set_cons_succ,List.set_cons_zero];exact rfl) ?_
   first | go_big_quiet_skip | (go_big_quiet_want;go_big_quiet_op;go_big_quiet_on)
   first | go_big_quiet_skip | (go_big_quiet_want;go_big_quiet_op;go_big_quiet_on)
   first | go_big_quiet_skip | (go_big_quiet_want;go_big_quiet_op;go_big_quiet_on)
   first | go_big_quiet_skip | (go_big_quiet_want;go_big_quiet_op;go_big_quiet_on)
   first | go_big_quiet_skip | (go_big_quiet_want;go_big_quiet_op;go_big_quiet_on)
   go_big_quiet_want
   go_big_quiet_op
   refine ⟨_,fun s => q_call s (fun W hW => (bitFirst_z (HX.out.byt (q + 1)) _ 2048 x.i (2048 - x.i) rfl (by omega) (by omega) W).mono fun e w' h => ⟨h.1,hW.below hn0 h.2⟩),?_⟩
   go_big_quiet_on
   first | go_big_quiet_skip | (go_big_quiet_want;go_big_quiet_op;go_big_quiet_on)
   refine wpQuiet_nil ?_
   intro w7 h7
   have st7:=h7.out
   clear h7 hne hc hc8
   have e1:=firstC_lt (bt (x.L (q + 1))) x.i (2048 - x.i)
   rw [show x.i + (2048 - x.i) = 2048 by omega] at e1
   obtain ⟨c3,hc3⟩:∃ c3,c3 = decide (firstC (bt (x.L (q + 1))) x.i (2048 - x.i) < 0):=⟨_,rfl⟩
   rw [← hc3]
   rw [← hc3] at e1
   have HC3:=Lib.hid e1
   clear e1 hc3
   go_wp2_with fail
   refine (must_any 3 c3 _).mono ?_
   rintro e w8 ⟨hS,rfl⟩
   rcases hS with ⟨rfl,rfl⟩ | ⟨rfl,rfl⟩
   rotate_left
   ·refine ⟨rfl,.inr ⟨allB_no hlt ?_,rfl⟩,st7.bel⟩
    have h:=HC3.out
    rw [HQQ.out] at h
    unfold Im.ck3
    rw [show Im.allS (bt (x.L (x.st k + 1))) x.i 2048 = false from h.symm,Bool.and_false,Bool.and_false]
   have HOK:Hid (x.ck3 k = true):=by
    show _ = _
    have g1:=HC1.out
    have g2:=HC2.out
    have g3:=HC3.out
    rw [HQQ.out] at g1 g2 g3
    unfold Im.ck3
    rw [show Im.allS (bt (x.L (x.st k))) 0 x.own = true from g1.symm,show Im.allS (bt (x.L (x.st k))) x.s 2048 = true from g2.symm,show Im.allS (bt (x.L (x.st k + 1))) x.i 2048 = true from g3.symm];rfl
   clear HC1 HC2 HC3 HQQ hst1 q0 q1
   go_wp2_with fail
   go_roundw
   case rel => exact ⟨k + 1,by omega,by first | rfl | go_num,fun r hr => by
    by_cases e:r = k
    ·rw [e];exact HOK.out
    ·exact HPP.out r (by omega),st7⟩
   case measure => simp [intOf];omega
  ·obtain rfl:k = x.g:=by omega
   go_wp2_with fail
   refine bodyPost_end (results_none rfl _ _ _) rfl ⟨.inl ⟨(allB_iff _ _).2 HPP.out,rfl⟩,st.bel⟩
theorem pcells_eq {K A F S P K' A' F' S' P':Int} (h:pcells K A F S P = pcells K' A' F' S' P'):K = K' ∧ A = A' ∧ F = F' ∧ S = S' ∧ P = P':=by
 simp only [pcells] at h
 simp only [Array.mk.injEq] at h
 simp only [List.cons.injEq,Value.int.injEq,true_and,and_true] at h
 exact h
theorem what_cases {x:Im} (hx:x.Ok) {v:Nat} (hv:v < x.n) {K A B:Int} (h:WhatIs x.g x.s x.i x.j v K A B) :
  (v < 2 + x.j ∧ 1 ≤ K ∧ K ≤ 3) ∨ ∃ γ r:Nat,γ < x.g ∧ r < x.s ∧ v = x.st γ + r ∧ A = (γ:Int) ∧ B = (r:Int) ∧ K = if r = 0 then 4 else if r = 1 then 5 else if r < x.own then 6 else 7:=by
 obtain ⟨h1,h2,h3,h4,h5,h6,h7,h8,h9,h10,h11⟩:=mayN hx.may
 have hn:=hx.n
 have e:((x.g * x.s:Nat):Int) = (x.g:Int) * (x.s:Int):=Int.natCast_mul _ _
 rcases h with ⟨h,_⟩ | ⟨_,k,Sz,Pl,hk,hp,hlo,hhi,hB⟩
 ·exfalso
  have hnb:nBl x.g x.s x.i x.j = 2 + x.j + x.g * x.s:=by unfold nBl;rw [hx.may];rfl
  rw [hnb,← e,hx.may] at h
  rcases h with h | h | h
  ·cases h
  ·omega
  ·omega
 by_cases h0:k = 0
 ·subst h0
  have e1:frF x.s ((x.i:Int) / 4) x.j 1 = 1:=rfl
  rw [Nat.zero_add,e1] at hhi
  obtain ⟨rfl,_⟩:=pcells_eq (hp.symm.trans (show ptF x.s ((x.i:Int) / 4) x.j 0 = pcells 1 0 0 1 0 from rfl))
  exact .inl ⟨by omega,by decide,by decide⟩
 by_cases h0:k = 1
 ·subst h0
  have e1:frF x.s ((x.i:Int) / 4) x.j (1 + 1) = 2:=rfl
  rw [e1] at hhi
  obtain ⟨rfl,_⟩:=pcells_eq (hp.symm.trans (show ptF x.s ((x.i:Int) / 4) x.j 1 = pcells 2 0 1 1 0 from rfl))
  exact .inl ⟨by omega,by decide,by decide⟩
 by_cases h0:k = 2
 ·subst h0
  have e1:frF x.s ((x.i:Int) / 4) x.j (2 + 1) = 2 + x.j:=by have:=frF_end x.s ((x.i:Int) / 4) x.j 0;simpa using this
  rw [e1] at hhi
  obtain ⟨rfl,_⟩:=pcells_eq (hp.symm.trans (show ptF x.s ((x.i:Int) / 4) x.j 2 = pcells 3 0 2 x.j 0 from rfl))
  exact .inl ⟨by omega,by decide,by decide⟩
 obtain ⟨γ,m,hm4,rfl⟩:∃ γ m,m < 4 ∧ k = 3 + 4 * γ + m:=⟨(k - 3) / 4,(k - 3) % 4,by omega,by omega⟩
 have hγ:γ < x.g:=by omega
 have eg:((γ * x.s:Nat):Int) = (γ:Int) * (x.s:Int):=Int.natCast_mul _ _
 have ei:(x.i:Int) / 4 = ((x.i / 4:Nat):Int):=by omega
 have hnx:frF x.s ((x.i:Int) / 4) x.j (3 + 4 * γ + m + 1) = 2 + x.j + (γ:Int) * x.s + (if m = 0 then 1 else if m = 1 then 2 else if m = 2 then 2 + (x.i:Int) / 4 else x.s):=by
  by_cases e3:m = 3
  ·subst e3
   have:=frF_end x.s ((x.i:Int) / 4) x.j (γ + 1)
   rw [show 3 + 4 * (γ + 1) = 3 + 4 * γ + 3 + 1 by omega] at this
   rw [this,if_neg (by decide),if_neg (by decide),if_neg (by decide)]
   push_cast
   rw [Int.add_mul,Int.one_mul];omega
  ·rw [show 3 + 4 * γ + m + 1 = 3 + 4 * γ + (m + 1) by omega,frF_at _ _ _ _ (show m + 1 < 4 by omega)]
   obtain rfl | rfl | rfl:m = 0 ∨ m = 1 ∨ m = 2:=by omega
   ·rfl
   ·rfl
   ·rfl
 rw [hnx,← eg] at hhi
 rw [frF_at _ _ _ _ hm4] at hlo hB hp
 rw [← eg] at hlo hB
 rw [ptF_at _ _ _ _ hm4] at hp
 refine .inr ⟨γ,v - x.st γ,hγ,?_,?_,?_,?_,?_⟩
 ·unfold Im.st
  obtain rfl | rfl | rfl | rfl:m = 0 ∨ m = 1 ∨ m = 2 ∨ m = 3:=by omega
  all_goals simp at hhi hlo;omega
 ·unfold Im.st
  obtain rfl | rfl | rfl | rfl:m = 0 ∨ m = 1 ∨ m = 2 ∨ m = 3:=by omega
  all_goals simp at hhi hlo;omega
 ·obtain rfl | rfl | rfl | rfl:m = 0 ∨ m = 1 ∨ m = 2 ∨ m = 3:=by omega
  ·rw [if_pos rfl] at hp;exact (pcells_eq hp).2.1.symm
  ·rw [if_neg (by decide),if_pos rfl] at hp;exact (pcells_eq hp).2.1.symm
  ·rw [if_neg (by decide),if_neg (by decide),if_pos rfl] at hp;exact (pcells_eq hp).2.1.symm
  ·rw [if_neg (by decide),if_neg (by decide),if_neg (by decide)] at hp;exact (pcells_eq hp).2.1.symm
 ·unfold Im.st
  obtain rfl | rfl | rfl | rfl:m = 0 ∨ m = 1 ∨ m = 2 ∨ m = 3:=by omega
  ·rw [if_pos rfl] at hp;have:=(pcells_eq hp).2.2.2.2;simp at hhi hlo hB;omega
  ·rw [if_neg (by decide),if_pos rfl] at hp;have:=(pcells_eq hp).2.2.2.2;simp at hhi hlo hB;omega
  ·rw [if_neg (by decide),if_neg (by decide),if_pos rfl] at hp;have:=(pcells_eq hp).2.2.2.2;simp at hhi hlo hB;omega
  ·rw [if_neg (by decide),if_neg (by decide),if_neg (by decide)] at hp;have:=(pcells_eq hp).2.2.2.2;simp at hhi hlo hB;omega
 ·unfold Im.st Im.own
  obtain rfl | rfl | rfl | rfl:m = 0 ∨ m = 1 ∨ m = 2 ∨ m = 3:=by omega
  ·rw [if_pos rfl] at hp;have:=(pcells_eq hp).1;simp at hhi hlo
   rw [if_pos (by omega)];exact this.symm
  ·rw [if_neg (by decide),if_pos rfl] at hp;have:=(pcells_eq hp).1;simp at hhi hlo
   rw [if_neg (by omega),if_pos (by omega)];exact this.symm
  ·rw [if_neg (by decide),if_neg (by decide),if_pos rfl] at hp;have:=(pcells_eq hp).1;simp at hhi hlo
   rw [if_neg (by omega),if_neg (by omega),if_pos (by omega)];exact this.symm
  ·rw [if_neg (by decide),if_neg (by decide),if_neg (by decide)] at hp;have:=(pcells_eq hp).1;simp at hhi hlo
   rw [if_neg (by omega),if_neg (by omega),if_neg (by omega)];exact this.symm
theorem st_div {x:Im} {γ r:Nat} (hr:r < x.s):(x.st γ + r - (2 + x.j)) % x.s = r ∧ (x.st γ + r - (2 + x.j)) / x.s = γ:=by
 unfold Im.st
 rw [show 2 + x.j + γ * x.s + r - (2 + x.j) = r + x.s * γ by rw [Nat.mul_comm];omega]
 exact ⟨by rw [Nat.add_mul_mod_self_left,Nat.mod_eq_of_lt hr],by rw [Nat.add_mul_div_left _ _ (by omega),Nat.div_eq_of_lt hr,Nat.zero_add]⟩
theorem data_st {x:Im} (hx:x.Ok) {γ r:Nat} (hγ:γ < x.g) (hr:r < x.s):x.data (x.st γ + r) = decide (x.own ≤ r):=by
 have h1:=hx.st hγ hr
 unfold Im.data
 rw [(st_div hr).1]
 have:2 + x.j ≤ x.st γ + r:=by unfold Im.st;omega
 simp [this,h1]
theorem what_data {x:Im} (hx:x.Ok) {v:Nat} (hv:v < x.n) {K A B:Int} (h:WhatIs x.g x.s x.i x.j v K A B):(K == 7) = x.data v:=by
 rcases what_cases hx hv h with ⟨h1,h2,h3⟩ | ⟨γ,r,hγ,hr,rfl,_,_,hK⟩
 ·unfold Im.data
  have:¬ 2 + x.j ≤ v:=by omega
  simp [this];omega
 ·rw [data_st hx hγ hr,hK]
  unfold Im.own
  by_cases h0:r = 0
  ·subst h0;simp
  by_cases h1:r = 1
  ·subst h1;simp;omega
  by_cases h2:r < 2 + x.i / 4
  ·rw [if_neg h0,if_neg h1,if_pos h2];simp;omega
  ·rw [if_neg h0,if_neg h1,if_neg h2];simp;omega
theorem turnZ_byt (z:Nat → Int) (i:Nat):Byt (turnZ z i):=bZ_byt _
namespace MS
variable {x:Im}
structure Wf (x:Im) (m:MS) (lev:Nat → Nat):Prop where
 byt:∀ b,Byt (m.L b)
 zero:∀ b,m.next ≤ b → x.data b = true → ∀ k,m.L b k = 0
 ptr:∀ b k,x.data b = true → b < m.next → 0 < lev b → k < 64 → (g32 (m.L b) (4 * k)).toNat = 0 ∨ (x.data (g32 (m.L b) (4 * k)).toNat = true ∧ (g32 (m.L b) (4 * k)).toNat < m.next ∧ lev (g32 (m.L b) (4 * k)).toNat + 1 = lev b)
 le:m.next ≤ x.n
def Pt (x:Im) (m:MS) (lev:Nat → Nat) (l v:Nat):Prop:=v = 0 ∨ (x.data v = true ∧ v < m.next ∧ lev v = l)
structure Ext (x:Im) (m:MS) (lev:Nat → Nat) (m':MS) (lev':Nat → Nat):Prop where
 le:m.next ≤ m'.next
 lev:∀ b,x.data b = true → b < m.next → lev' b = lev b
theorem Ext.refl (m:MS) (lev:Nat → Nat):Ext x m lev m lev:=⟨Nat.le_refl _,fun _ _ _ => rfl⟩
theorem Ext.trans {m m' m'':MS} {lev lev' lev'':Nat → Nat} (h:Ext x m lev m' lev') (k:Ext x m' lev' m'' lev''):Ext x m lev m'' lev'' :=
 ⟨Nat.le_trans h.le k.le,fun b hb hn => (k.lev b hb (Nat.lt_of_lt_of_le hn h.le)).trans (h.lev b hb hn)⟩
theorem Pt.ext {m m':MS} {lev lev':Nat → Nat} {l v:Nat} (h:Pt x m lev l v) (e:Ext x m lev m' lev'):Pt x m' lev' l v:=by
 rcases h with h | ⟨h1,h2,h3⟩
 ·exact .inl h
 ·exact .inr ⟨h1,Nat.lt_of_lt_of_le h2 e.le,(e.lev v h1 h2).trans h3⟩
theorem Pt.lt {m:MS} {lev:Nat → Nat} {l v:Nat} (h:Pt x m lev l v) (h0:v ≠ 0):v < x.n:=by
 rcases h with h | ⟨h1,_,_⟩
 ·exact absurd h h0
 ·unfold Im.data at h1
  rw [Bool.and_eq_true,Bool.and_eq_true,decide_eq_true_eq,decide_eq_true_eq] at h1
  exact h1.2.1
theorem takeF_wf (hs:2 ≤ x.s) (l:Nat):∀ (f:Nat) (m:MS) (lev:Nat → Nat),m.Wf x lev → m.next + f ≤ x.n → ∃ lev',(takeF x f m).2.Wf x lev' ∧ Ext x m lev (takeF x f m).2 lev' ∧ Pt x (takeF x f m).2 lev' l (takeF x f m).1
 | 0,m,lev,h,hf => ⟨lev,h,.refl _ _,.inl rfl⟩
 | f + 1,m,lev,h,hf => by
  rw [takeF]
  by_cases hd:x.data m.next = true
  ·rw [if_pos hd]
   refine ⟨updN lev m.next l,⟨fun b => ?_,fun b hb hdb k => ?_,fun b k hdb hb hl hk => ?_,by show m.next + 1 ≤ x.n;omega⟩,⟨by show m.next ≤ m.next + 1;omega,fun b hdb hb => ?_⟩,.inr ⟨hd,by show m.next < m.next + 1;omega,if_pos rfl⟩⟩
   ·show Byt (updN m.L _ _ b)
    unfold updN
    split
    ·exact turnZ_byt _ _
    ·exact h.byt b
   ·show updN m.L _ _ b k = 0
    have hne:=Im.data_ne (k:=grp x m.next) (d:=0) hdb (by decide) hs
    unfold updN
    rw [if_neg hne]
    exact h.zero b (by replace hb:m.next + 1 ≤ b:=hb;omega) hdb k
   ·have hne:=Im.data_ne (k:=grp x m.next) (d:=0) hdb (by decide) hs
    have e:(set x { m with next:=m.next + 1 } (grp x m.next) 0 (plc x m.next)).L b = m.L b:=by
     show updN m.L _ _ b = _
     unfold updN
     rw [if_neg hne]
    rw [e]
    replace hb:b < m.next + 1:=hb
    by_cases hbn:b = m.next
    ·left
     subst hbn
     have z:=h.zero m.next (Nat.le_refl _) hd
     unfold g32
     rw [z,z,z,z];rfl
    ·have hl':0 < lev b:=by unfold updN at hl;rwa [if_neg hbn] at hl
     rcases h.ptr b k hdb (by omega) hl' hk with h0 | ⟨h1,h2,h3⟩
     ·exact .inl h0
     ·refine .inr ⟨h1,by show _ < m.next + 1;omega,?_⟩
      unfold updN
      rw [if_neg hbn,if_neg (by omega)]
      exact h3
   ·unfold updN
    rw [if_neg (by omega)]
  ·rw [if_neg hd]
   obtain ⟨lev',h1,h2,h3⟩:=takeF_wf hs l f { m with next:=m.next + 1 } lev ⟨h.byt,fun b hb => h.zero b (by replace hb:m.next + 1 ≤ b:=hb;omega),fun b k hdb hb hl hk => by
    replace hb:b < m.next + 1:=hb
    have hbn:b ≠ m.next:=fun e => hd (e ▸ hdb)
    rcases h.ptr b k hdb (by omega) hl hk with h0 | ⟨h1,h2,h3⟩
    ·exact .inl h0
    ·exact .inr ⟨h1,Nat.lt_succ_of_lt h2,h3⟩,by show m.next + 1 ≤ x.n;omega⟩ (by show m.next + 1 + f ≤ x.n;omega)
   refine ⟨lev',h1,⟨?_,fun b hdb hb => h2.lev b hdb (by show b < m.next + 1;omega)⟩,h3⟩
   have:=h2.le
   replace this:m.next + 1 ≤ _:=this
   omega
theorem take_wf (hs:2 ≤ x.s) (l:Nat) {m:MS} {lev:Nat → Nat} (h:m.Wf x lev):∃ lev',(take x m).2.Wf x lev' ∧ Ext x m lev (take x m).2 lev' ∧ Pt x (take x m).2 lev' l (take x m).1 :=
 takeF_wf hs l _ m lev h (by have:=h.le;omega)
theorem Wf.put0 {m:MS} {lev:Nat → Nat} (h:m.Wf x lev) {b:Nat} (hb:Pt x m lev 0 b) (h0:b ≠ 0) {z:Nat → Int} (hz:Byt z):(m.put b z).Wf x lev:=by
 rcases hb with hb | ⟨h1,h2,h3⟩
 ·exact absurd hb h0
 refine ⟨fun c => ?_,fun c hc hdc k => ?_,fun c k hdc hc hl hk => ?_,h.le⟩
 ·show Byt (updN m.L b z c)
  unfold updN
  split
  ·exact hz
  ·exact h.byt c
 ·show updN m.L b z c k = 0
  replace hc:m.next ≤ c:=hc
  unfold updN
  rw [if_neg (by omega)]
  exact h.zero c hc hdc k
 ·have e:(m.put b z).L c = m.L c:=by
   show updN m.L b z c = _
   unfold updN
   rw [if_neg (fun e => by rw [e,h3] at hl;omega)]
  rw [e]
  exact h.ptr c k hdc hc hl hk
theorem Wf.word {m:MS} {lev:Nat → Nat} (h:m.Wf x lev) (hn:x.n ≤ 2048) {b l k v:Nat} (hb:Pt x m lev (l + 1) b) (h0:b ≠ 0) (hk:k < 64) (hv:Pt x m lev l v):(m.put b (over (m.L b) (4 * k) 4 (byteOf (v:Nat)))).Wf x lev:=by
 have hv9:v < 2048:=by
  by_cases e:v = 0
  ·omega
  ·have:=hv.lt e;omega
 rcases hb with hb | ⟨h1,h2,h3⟩
 ·exact absurd hb h0
 refine ⟨fun c => ?_,fun c hc hdc i => ?_,fun c i hdc hc hl hi => ?_,h.le⟩
 ·show Byt (updN m.L b _ c)
  unfold updN
  split
  ·exact byt_over (h.byt _) (byt_byteOf _) _ _
  ·exact h.byt c
 ·show updN m.L b _ c i = 0
  replace hc:m.next ≤ c:=hc
  unfold updN
  rw [if_neg (by omega)]
  exact h.zero c hc hdc i
 ·by_cases e:c = b
  ·subst e
   have e1:(m.put c (over (m.L c) (4 * k) 4 (byteOf (v:Nat)))).L c = over (m.L c) (4 * k) 4 (byteOf (v:Nat)):=if_pos rfl
   rw [e1]
   by_cases ei:i = k
   ·subst ei
    rw [g32_over _ _ _ (by omega) (by omega),Int.toNat_natCast]
    rcases hv with hv | ⟨v1,v2,v3⟩
    ·exact .inl hv
    ·exact .inr ⟨v1,v2,by omega⟩
   ·rw [g32_out _ _ _ _ _ (by omega)]
    exact h.ptr c i hdc hc hl hi
  ·have e1:(m.put b (over (m.L b) (4 * k) 4 (byteOf (v:Nat)))).L c = m.L c:=if_neg e
   rw [e1]
   exact h.ptr c i hdc hc hl hi
theorem down_wf (hs:2 ≤ x.s) (hn:x.n ≤ 2048):∀ (ks:List Nat) (b:Nat) (m:MS) (lev:Nat → Nat),m.Wf x lev → Pt x m lev ks.length b → (∀ k ∈ ks,k < 64) → ∃ lev',(down x ks b m).2.Wf x lev' ∧ Ext x m lev (down x ks b m).2 lev' ∧ Pt x (down x ks b m).2 lev' 0 (down x ks b m).1
 | [],b,m,lev,h,hb,hk => ⟨lev,h,.refl _ _,hb⟩
 | k :: ks,b,m,lev,h,hb,hk => by
  rw [down]
  by_cases h0:b = 0
  ·rw [if_pos h0]
   exact ⟨lev,h,.refl _ _,.inl rfl⟩
  rw [if_neg h0]
  have hk0:=hk k (List.mem_cons_self ..)
  have hks:∀ k ∈ ks,k < 64:=fun k' h' => hk k' (List.mem_cons_of_mem _ h')
  by_cases hv:(g32 (m.L b) (4 * k)).toNat = 0
  ·rw [if_pos hv]
   obtain ⟨lev1,a1,a2,a3⟩:=take_wf hs ks.length h
   have w1:=a1.word hn (hb.ext a2) h0 hk0 a3
   obtain ⟨lev2,b1,b2,b3⟩:=down_wf hs hn ks (m.take x).1 _ lev1 w1 (by rcases a3 with a3 | a3;exact .inl a3;exact .inr a3) hks
   exact ⟨lev2,b1,a2.trans ⟨b2.le,b2.lev⟩,b3⟩
  ·rw [if_neg hv]
   have hp:Pt x m lev ks.length (g32 (m.L b) (4 * k)).toNat:=by
    rcases hb with hb | ⟨h1,h2,h3⟩
    ·exact absurd hb h0
    ·rw [List.length_cons] at h3
     rcases h.ptr b k h1 h2 (by omega) hk0 with h' | ⟨g1,g2,g3⟩
     ·exact .inl h'
     ·exact .inr ⟨g1,g2,by omega⟩
   exact down_wf hs hn ks _ m lev h hp hks
def PtI (x:Im) (m:MS) (lev:Nat → Nat) (y:Ino):Prop:=∀ q,q < 11 → (0 ≤ y.p q ∧ y.p q < 4294967296) ∧ Pt x m lev (Im.lvl q) (y.p q).toNat
theorem PtI.ext {m m':MS} {lev lev':Nat → Nat} {y:Ino} (h:PtI x m lev y) (e:Ext x m lev m' lev'):PtI x m' lev' y:=fun q hq => ⟨(h q hq).1,(h q hq).2.ext e⟩
theorem hang_wf (hs:2 ≤ x.s) (hn:x.n ≤ 2048) {m:MS} {lev:Nat → Nat} (h:m.Wf x lev) {y:Ino} (hy:PtI x m lev y) (i:Int) :
  ∃ lev',(hang x y i m).2.2.Wf x lev' ∧ Ext x m lev (hang x y i m).2.2 lev' ∧ PtI x (hang x y i m).2.2 lev' (hang x y i m).2.1 ∧ Pt x (hang x y i m).2.2 lev' 0 (hang x y i m).1:=by
 unfold hang
 by_cases hi:i < 0 ∨ 65536 ≤ i
 ·rw [if_pos hi]
  exact ⟨lev,h,.refl _ _,hy,.inl rfl⟩
 rw [if_neg hi]
 have hi9:i.toNat < 65536:=by omega
 have hq:=Im.wayP_lt i.toNat
 have hl:=Im.wayB_len i.toNat
 have hk:=Im.wayB_lt hi9
 by_cases h0:y.p (Im.wayP i.toNat) = 0
 ·rw [if_pos h0]
  obtain ⟨lev1,a1,a2,a3⟩:=take_wf hs (Im.lvl (Im.wayP i.toNat)) h
  obtain ⟨lev2,b1,b2,b3⟩:=down_wf hs hn (Im.wayB i.toNat) (m.take x).1 _ lev1 a1 (by rw [hl];exact a3) hk
  refine ⟨lev2,b1,a2.trans b2,fun q hq' => ?_,b3⟩
  dsimp only
  by_cases e:q = Im.wayP i.toNat
  ·rw [if_pos e,e,Int.toNat_natCast]
   have:(m.take x).1 < 2048:=by
    by_cases e:(m.take x).1 = 0
    ·omega
    ·have:=a3.lt e;omega
   exact ⟨by omega,a3.ext b2⟩
  ·rw [if_neg e]
   exact ⟨(hy q hq').1,((hy q hq').2.ext a2).ext b2⟩
 ·rw [if_neg h0]
  obtain ⟨lev2,b1,b2,b3⟩:=down_wf hs hn (Im.wayB i.toNat) (y.p (Im.wayP i.toNat)).toNat m lev h (by rw [hl];exact (hy _ hq).2) hk
  exact ⟨lev2,b1,b2,hy.ext b2,b3⟩
theorem wf0 (hx:x.Ok):Wf x ⟨mkB x.g x.s x.i x.j,0⟩ (fun _ => 0):=by
 obtain ⟨h1,h2,h3,h4,h5,h6,h7,h8,h9,h10,h11⟩:=mayN hx.may
 refine ⟨fun b => mkB_byt _ _ _ _ b,fun b _ hd k => ?_,fun b k _ hb _ _ => (by cases hb),Nat.zero_le _⟩
 have hd2:=hd
 unfold Im.data Im.own at hd2
 rw [Bool.and_eq_true,Bool.and_eq_true,decide_eq_true_eq,decide_eq_true_eq,decide_eq_true_eq] at hd2
 obtain ⟨a1,a2,a3⟩:=hd2
 have hr:(b - (2 + x.j)) % x.s < x.s:=Nat.mod_lt _ (by omega)
 have:=mkB_group (g:=x.g) (i:=x.i) (γ:=(b - (2 + x.j)) / x.s) (d:=(b - (2 + x.j)) % x.s) h3 h8 hr
 have e:2 + x.j + (b - (2 + x.j)) / x.s * x.s + (b - (2 + x.j)) % x.s = b:=by
  have:=Nat.div_add_mod (b - (2 + x.j)) x.s
  rw [Nat.mul_comm] at this
  omega
 rw [e] at this
 show mkB x.g x.s x.i x.j b k = 0
 rw [this]
 rw [if_neg (by omega),if_neg (by omega),if_neg (by omega)]
end MS
end Go.Proofs.YtnbmmhoofilmfaaGreatDoor
