/- Texts of this claim, merged. -/
import Derived.Test.YtphamecphmbipaaGreatDoorK20
set_option maxRecDepth 100000
set_option maxHeartbeats 16000000

namespace Go.Proofs.YtphamecphmbipaaGreatDoor
open Go.RowKit
set_option linter.unusedVariables false
theorem run_desc1m (x y v:Int) (w:World):(Instr.buildSlice 51 1 #[(0,dval x y v)]).run Tryz.prog w = .ok (.slice (some ⟨w.heap.size,0,none⟩) 1 1) (w.alloc (.cells #[.int .i64 x,.int .i64 y,.int .i64 v] 67)):=by kernel_rfl
theorem info_boolP:(Tryz.prog.info? 4).map (fun i => (i.zero,i.size,i.bytes)) = some (some (.bool false),1,1):=by kernel_rfl
theorem own_onlyM {W W':World} {base k p:Nat} {v:Value} {e:TypeId} {size:Nat} {xs:List Value} (h:W.ownsRow base e size v k xs) (ho:Only p W W') (hp:v.ownBlock ≠ some p):W'.ownsRow base e size v k xs :=
 World.ownsRow.kept h (row:=some p) ⟨ho.os,ho.tape,ho.output,by rw [ho.size];exact Nat.le_refl _,fun k _ hk => ho.block k (fun e => hk (by rw [e]))⟩ (.inr hp)
structure QmS (w:World) (g s i j n qa ca q:Nat) (im:Nat → Nat → Int) (W:World):Prop where
 ge:At W w.heap.size 23 (gcells g s i j)
 al:RMine W (w.heap.size + 1) 134 4 (.slice (some ⟨qa,0,none⟩) n ca) n (thF s (i / 4) j)
 im:RArr W q 32 256 n (fun b => Ks .u8 256 (im b))
 bel:Below w.heap.size w W
 o1:w.heap.size < qa
 o2:qa < q
section
variable {w:World} {g s i j n qa ca q:Nat} {im im':Nat → Nat → Int} {W W':World}
theorem QmS.below (h:QmS w g s i j n qa ca q im W) (hb:Below W.heap.size W W'):QmS w g s i j n qa ca q im W' :=
 ⟨h.ge.below hb h.ge.lt,RMine.below h.al hb,h.im.below hb,h.bel.trans (hb.mono h.bel.size),h.o1,h.o2⟩
theorem QmS.grown (h:QmS w g s i j n qa ca q im W) {row:Option Nat} (hg:W.grownBy W' row) (hr:∀ p,row = some p → q < p):QmS w g s i j n qa ca q im W' :=
 ⟨h.ge.grown hg (fun e => by have:=hr _ e.symm;have:=h.o1;have:=h.o2;omega),World.ownsRow.kept h.al hg (by
   rw [show (Value.slice (some ⟨qa,0,none⟩) n ca).ownBlock = some qa from rfl]
   exact .inr (fun e => by have:=hr _ e.symm;have:=h.o2;omega)),h.im.grown hg (fun e => by have:=hr _ e.symm;omega),h.bel.grown hg h.bel.size (fun k e => by have:=hr k e;have:=h.o1;have:=h.o2;omega),h.o1,h.o2⟩
theorem QmS.put (h:QmS w g s i j n qa ca q im W) (hA:RArr W' q 32 256 n (fun b => Ks .u8 256 (im' b))) (ho:Only q W W'):QmS w g s i j n qa ca q im' W' :=
 ⟨h.ge.only ho (by have:=h.o1;have:=h.o2;omega),own_onlyM h.al ho (fun e => by have e':some qa = some q:=e;injection e' with e';have:=h.o2;omega),hA,h.bel.trans (ho.below (by have:=h.o1;have:=h.o2;omega)),h.o1,h.o2⟩
theorem QmS.congr (h:QmS w g s i j n qa ca q im W) (e:∀ b,b < n → im b = im' b):QmS w g s i j n qa ca q im' W:=⟨h.ge,h.al,h.im.congr fun b hb => by rw [e b hb],h.bel,h.o1,h.o2⟩
end
structure QmL (w:World) (g s i j n qa ca q:Nat) (im:Nat → Nat → Int) (gd cd:Nat) (W:World):Prop where
 m:QmS w g s i j n qa ca q im W
 d:RMine W (q + 1) 67 3 (.slice (some ⟨gd,0,none⟩) g cd) g (df (dkB g s i j) (dkI i) dkD)
section
variable {w:World} {g s i j n qa ca q gd cd:Nat} {im im':Nat → Nat → Int} {W W':World}
theorem QmL.below (h:QmL w g s i j n qa ca q im gd cd W) (hb:Below W.heap.size W W'):QmL w g s i j n qa ca q im gd cd W':=⟨h.m.below hb,RMine.below h.d hb⟩
theorem QmL.put (h:QmL w g s i j n qa ca q im gd cd W) (hA:RArr W' q 32 256 n (fun b => Ks .u8 256 (im' b))) (ho:Only q W W'):QmL w g s i j n qa ca q im' gd cd W' :=
 ⟨h.m.put hA ho,own_onlyM h.d ho (fun e => by have:=(World.ownsRow.lt h.d _ e).1;omega)⟩
theorem QmL.congr (h:QmL w g s i j n qa ca q im gd cd W) (e:∀ b,b < n → im b = im' b):QmL w g s i j n qa ca q im' gd cd W:=⟨h.m.congr e,h.d⟩
theorem QmL.set (h:QmL w g s i j n qa ca q im gd cd W) {b:Nat} (hb:b < n) (z:Nat → Int):QmL w g s i j n qa ca q (fun x => if x = b then z else im x) gd cd (W.setCells q (b * 256) (Ks .u8 256 z)):=by
 have hs:=h.m.im.set hb (vs:=Ks .u8 256 z) (by simp [Ks]) (fun i => by simp [Ks])
 exact h.put (hs.1.congr fun x _ => by by_cases e:x = b <;> simp [e]) hs.2
end
def qmI (g s i j b x:Nat):Nat → Int:=if x < b then mkB g s i j x else fun _ => 0
theorem qmI_next {g s i j b x:Nat} (z:Nat → Int) (hz:z = mkB g s i j b):(if x = b then z else qmI g s i j b x) = qmI g s i j (b + 1) x:=by
 unfold qmI
 by_cases e:x = b
 ·rw [if_pos e,if_pos (by omega),e,hz]
 ·rw [if_neg e]
  by_cases e2:x < b
  ·rw [if_pos e2,if_pos (by omega)]
  ·rw [if_neg e2,if_neg (by omega)]
theorem qmI_next2 {g s i j b x:Nat} (z z0:Nat → Int) (hz:z = mkB g s i j b):(if x = b then z else if x = b then z0 else qmI g s i j b x) = qmI g s i j (b + 1) x:=by
 rw [← qmI_next z hz]
 by_cases e:x = b
 ·rw [if_pos e,if_pos e]
 ·rw [if_neg e,if_neg e,if_neg e]
theorem QmL.only {w:World} {g s i j n qa ca q gd cd p:Nat} {im:Nat → Nat → Int} {W W':World} (h:QmL w g s i j n qa ca q im gd cd W) (ho:Only p W W') (hp:q < p) (hd:gd < p):QmL w g s i j n qa ca q im gd cd W' :=
 ⟨⟨h.m.ge.only ho (by have:=h.m.o1;have:=h.m.o2;omega),own_onlyM h.m.al ho (fun e => by have e':some qa = some p:=e;injection e' with e';have:=h.m.o2;omega),h.m.im.only ho (by omega),h.m.bel.trans (ho.below (by have:=h.m.o1;have:=h.m.o2;omega)),h.m.o1,h.m.o2⟩,
  own_onlyM h.d ho (fun e => by have e':some gd = some p:=e;injection e' with e';omega)⟩
theorem wp_stQm {ops:Array Oper} {rest:List Oper} {o:Oper} {a:Act} {Q:Exit → Act → World → Prop} {w:World} {g s i j n qa ca q gd cd:Nat} {im:Nat → Nat → Int} {W:World} (hgd:o.guard = none) (x y:Operand) (ho:o.op = .store 32 x y) (h:QmL w g s i j n qa ca q im gd cd W) {b:Nat} (hb:b < n) (z:Nat → Int) (off:Nat)
  (hx:a.eval x = .pointer (some ⟨q,off,none⟩)) (hy:a.eval y = bval z) (hoff:off = b * 256) (hk:∀ w',QmL w g s i j n qa ca q (fun x => if x = b then z else im x) gd cd w' → wpList Tryz.prog ops Q rest (a.put o.dst undef) w'):wpList Tryz.prog ops Q (o :: rest) a W :=
 wpList_store_mid hgd 32 x y ho q (b * 256) (Ks .u8 256 z).toArray (by rw [hx,hoff]) hy (by have:=h.m.im.there hb;simpa [Ks] using this) (info_block' _) (Ks_one _ _ _) (hk _ (h.set hb z))
structure QmD (w:World) (g s i j n qa ca q k:Nat) (v:Value) (Da:Int) (st:Mv.St) (W:World):Prop where
 m:QmS w g s i j n qa ca q (fun _ _ => 0) W
 s0:st.n < 2 → RMine W (q + 1) 67 3 v k (df (fun _ => Da) (fun _ => (i:Int)) (fun _ => 0))
 s1:st.n = 1 → ∀ p,st.v = .slice (some ⟨p,0,none⟩) 1 1 → ∀ x u,(df (fun _ => Da) (fun _ => (i:Int)) (fun _ => 0) k)[x]? = some u → W.cell? ((⟨p,0,none⟩:Addr).add x) = some u
 s2:st.n = 2 → RMine W (q + 1) 67 3 st.v (k + 1) (df (fun _ => Da) (fun _ => (i:Int)) (fun _ => 0))
 z:q + 1 ≤ W.heap.size
def btF (P:Nat → Bool) (x y:Nat):List Value:=[.bool (if y < x then P y else false)]
theorem btF_set {P:Nat → Bool} {W:World} {qb x:Nat} (h:RArr W qb 4 1 2048 (btF P x)) (hx:x < 2048) (v:Bool) (hv:v = P x):RArr (W.setCell ⟨qb,x,none⟩ (.bool v)) qb 4 1 2048 (btF P (x + 1)):=by
 have:=h.cellset hx (j:=0) (by omega) (fun _ => rfl) (.bool v)
 rw [Nat.mul_one,Nat.add_zero] at this
 refine this.congr fun y hy => ?_
 unfold btF
 by_cases e:y = x
 ·rw [if_pos e,if_neg (by omega),if_pos (by omega),e,hv];rfl
 ·rw [if_neg e]
  by_cases e2:y < x
  ·rw [if_pos e2,if_pos (by omega)]
  ·rw [if_neg e2,if_neg (by omega)]
theorem btF_no {P:Nat → Bool} {W:World} {qb x:Nat} (h:RArr W qb 4 1 2048 (btF P x)) (hv:P x = false):RArr W qb 4 1 2048 (btF P (x + 1)):=h.congr fun y hy => by
 unfold btF
 by_cases e:y = x
 ·rw [if_neg (by omega),if_pos (by omega),e,hv]
 ·by_cases e2:y < x
  ·rw [if_pos e2,if_pos (by omega)]
  ·rw [if_neg e2,if_neg (by omega)]
theorem btF_cell {P:Nat → Bool} {W:World} {qb x:Nat} (h:RArr W qb 4 1 2048 (btF P x)) (hx:x < 2048):W.cell? ⟨qb,x,none⟩ = some (.bool false) ∧ W.frozen? ⟨qb,x,none⟩ = false:=by
 have h1:=h.seg x hx 0 (.bool false) (by unfold btF;rw [if_neg (by omega)];rfl)
 rw [Nat.zero_add,Nat.mul_one,Nat.add_zero] at h1
 have h2:=(h.there hx 0 (by omega)).2
 rw [Nat.mul_one,Nat.add_zero] at h2
 exact ⟨h1,h2⟩
theorem btF_row {P:Nat → Bool} {W:World} {qb:Nat} (h:RArr W qb 4 1 2048 (btF P 2048)):RRow W (some ⟨qb,0,none⟩) 1 2048 (boF P) :=
 .inr ⟨qb,0,rfl,fun x hx j v hj => h.seg x hx j v (by unfold btF;rw [if_pos hx];exact hj)⟩
theorem rmake_no (G S I J:Int) (hm:mayG G S I J = false) (w:World) :
  Calls Tryz.prog 27 #[gval G S I J] w fun e w' => e = .returned (.tuple #[.slice none 0 0,.int .i64 50]) ∧ Below w.heap.size w w':=by
 have hs0:=At.new w 23 (gcells G S I J)
 have hL0:Hid (Below w.heap.size w (w.alloc (.cells (gcells G S I J) 23))):=(Below.refl _ _).alloc (Nat.le_refl _) _
 go_enter Tryz.func27,Tryz.ntmps27
 go_wp2_with (first | (refine wp_loadAtG rfl 23 (.tmp 1) rfl _ _ _ rfl hs0 Tryz.underlying23 rfl (by kernel_rfl) ?_))
 refine (rMay5_any G S I J _).mono ?_
 rintro e w1 ⟨rfl,hb1⟩
 rw [hm]
 have HL:=Lib.hid (hL0.out.trans (hb1.mono hL0.out.size))
 clear hs0 hL0 hb1
 go_wp2_with fail
 go_ret2
 exact ⟨rfl,HL.out⟩
theorem rmake_yes (g s i j:Nat) (hm:mayG g s i j = true) (w:World) :
  Calls Tryz.prog 27 #[gval g s i j] w fun e w' => ∃ q,e = .returned (.tuple #[.slice (some ⟨q,0,none⟩) (2 + j + g * s) (2 + j + g * s),.int .i64 0]) ∧ MkImg w g s i j q w':=by
 obtain ⟨h1,h2,h3,h4,h5,h6,h7,h8,h9,h10,h11⟩:=mayN hm
 have hs0:=At.new w 23 (gcells g s i j)
 have hL0:Below w.heap.size w (w.alloc (.cells (gcells g s i j) 23)):=(Below.refl _ _).alloc (Nat.le_refl _) _
 have HM:=Lib.hid hm
 clear hm
 go_enter Tryz.func27,Tryz.ntmps27
 go_wp2_with (first | (refine wp_loadAtG rfl 23 (.tmp 1) rfl _ _ _ rfl hs0 Tryz.underlying23 rfl (by kernel_rfl) ?_))
 refine (rMay5_any g s i j _).mono ?_
 rintro e w1 ⟨rfl,hb1⟩
 rw [HM.out]
 have hs1:=hs0.below hb1 hs0.lt
 have HL1:=Lib.hid (hL0.trans (hb1.mono hL0.size))
 clear hs0 hL0 hb1
 go_wp2_with (first | (refine wp_loadAtG rfl 23 (.tmp 1) rfl _ _ _ rfl hs1 Tryz.underlying23 rfl (by kernel_rfl) ?_))
 refine (rAll_any g s i j _).mono ?_
 rintro e w2 ⟨hb2,h | ⟨_,v,rfl,hv⟩⟩
 ·rw [HM.out] at h;cases h.1
 simp only [Int.toNat_natCast] at hv
 obtain ⟨n,hn⟩:∃ n,n = 2 + j + g * s:=⟨_,rfl⟩
 have hn48:n ≤ 2048:=by omega
 have hn58:58 ≤ n:=by have:=Nat.mul_le_mul h1 h3;omega
 have HNN:=Lib.hid hn
 rw [← hn] at hv
 clear hn h11
 obtain ⟨qa,ca,rfl,hqa,hqa2,hca,hca2⟩:=hv.form' (by omega)
 have hlw1:=hs1.lt
 have hs2:=hs1.below hb2 hs1.lt
 have HL2:=Lib.hid (HL1.out.trans (hb2.mono HL1.out.size))
 have HV2:=Lib.hid (RMine.low hv (base':=w.heap.size + 1) (by omega))
 have hmk:=fun W => run_mkimage n hn48 W
 obtain ⟨q,hq⟩:∃ q,q = w2.heap.size:=⟨_,rfl⟩
 have ST3:Hid (QmS w g s i j n qa ca q (fun _ _ => 0) (w2.alloc (.cells (madeCells (Ks .u8 256 fun _ => 0).toArray (n * 256)) 32))):=by
  rw [hq]
  exact ⟨hs2.alloc _,RMine.alloc HV2.out _,image_made w2 n,HL2.out.alloc HL2.out.size _,by omega,by omega⟩
 obtain ⟨W3,hW3⟩:∃ W,W = w2.alloc (.cells (madeCells (Ks .u8 256 fun _ => 0).toArray (n * 256)) 32):=⟨_,rfl⟩
 have hW3':Hid (W3 = w2.alloc (.cells (madeCells (Ks .u8 256 fun _ => 0).toArray (n * 256)) 32)):=hW3
 have hsz3:q + 1 ≤ W3.heap.size:=by rw [hW3,hq];simp
 rw [← hW3] at ST3
 have HQ:=Lib.hid hq
 clear hv hs1 hs2 HL1 HL2 HV2 hb2 hW3 hq hqa hqa2 hlw1 hca2
 go_wp2_with fail
 rw [← hW3'.out,← HQ.out]
 clear hW3' HQ hmk
 have HDA:Hid (∀ W,Calls Tryz.prog 58 #[gval g s i j] W fun e w' => e = .returned (.int .i64 (nDa g s i j)) ∧ Below W.heap.size W w'):=fun W => rData5_any g s i j W
 obtain ⟨Da,hDa⟩:∃ Da,Da = nDa (g:Int) s i j:=⟨_,rfl⟩
 rw [← hDa] at HDA
 have HDD:=Lib.hid hDa
 clear hDa
 obtain ⟨i0,hi0,hzz⟩:=Option.map_eq_some_iff.1 info_desc3
 simp only [Prod.mk.injEq] at hzz
 obtain ⟨hz0,hz1,hz2⟩:=hzz
 go_loopw [6,7] (fun v u wr => ∃ (a:Option Addr) (c k:Nat),v = .slice a k c ∧ u = .int .i64 (k:Int) ∧ k ≤ g ∧ QmS w g s i j n qa ca q (fun _ _ => 0) wr ∧ RMine wr (q + 1) 67 3 (.slice a k c) k (df (fun _ => Da) (fun _ => (i:Int)) (fun _ => 0)) ∧ q + 1 ≤ wr.heap.size) (fun _ u _ => g - (intOf u).toNat)
 case atStart => exact ⟨none,0,0,rfl,rfl,Nat.zero_le _,ST3.out,RMine.nil _ _ _ _ _,hsz3⟩
 case round =>
  clear ST3 hsz3
  obtain ⟨da,dc,k,rfl,rfl,hk,st,hd,hsz⟩:=hrel
  have c0:wr.cell? ⟨w.heap.size,0,none⟩ = some (.int .i64 (g:Int)):=st.ge.cell (i:=0) rfl
  by_cases hlt:k < g
  ·have hlt':(k:Int) < (g:Int):=by omega
   go_wp2_with fail
   clear c0
   refine Mv.wp_region_mc (QmD w g s i j n qa ca q k (.slice da k dc) Da) ⟨0,undef⟩ (by kernel_rfl) (by kernel_rfl) (by kernel_rfl) ⟨st.below ((Below.refl _ _).drew),fun _ => hd,(fun h => by cases h),(fun h => by cases h),hsz⟩ ?_
   clear st hd hsz
   intro hne
   have c2:∀ y:InW (fun W => ∃ t,QmD w g s i j n qa ca q k (.slice da k dc) Da t W),y.W.cell? ⟨w.heap.size,2,none⟩ = some (.int .i64 (i:Int)):=fun y => by obtain ⟨_,h⟩:=y.h;exact h.m.ge.cell (i:=2) rfl
   (refine Mv.lin_take 2 (by kernel_rfl) ?_;simp only [List.take_succ_cons,List.take_zero,List.drop_succ_cons,List.drop_zero])
   first | go_big_quiet_skip | (go_big_quiet_want;go_big_quiet_op;go_big_quiet_on)
   refine q_load rfl 23 (.tmp 1) rfl _ _ rfl (gcells g s i j).toList _ (fun W h => by obtain ⟨_,h⟩:=h;exact h.m.ge.range) Tryz.underlying23 rfl (by kernel_rfl) ?_
   refine wpQuiet_frame (by simp only [Act.put,List.setIfInBounds_toArray,List.set_cons_succ,List.set_cons_zero];exact rfl) ?_
   refine wpQuiet_nil ?_
   refine Mv.lin_call rfl rfl 58 #[gval g s i j] (.int .i64 Da) ⟨0,undef⟩ (fun W => by kernel_rfl) (fun W hW => ?c0) ?_
   case c0 => exact (HDA.out W).mono fun e w' h => ⟨h.1,hW.m.below h.2,fun h0 => RMine.below (hW.s0 h0) h.2,(fun h => by cases h),(fun h => by cases h),by have:=hW.z;have:=h.2.size;omega⟩
   refine Mv.frame (by simp only [Act.put,List.setIfInBounds_toArray,List.set_cons_succ,List.set_cons_zero];exact rfl) ?_
   (refine Mv.lin_take 3 (by kernel_rfl) ?_;simp only [List.take_succ_cons,List.take_zero,List.drop_succ_cons,List.drop_zero])
   first | go_big_quiet_skip | (go_big_quiet_want;go_big_quiet_op;go_big_quiet_on)
   first | go_big_quiet_skip | (go_big_quiet_want;go_big_quiet_op;go_big_quiet_on)
   first | go_big_quiet_skip | (go_big_quiet_want;go_big_quiet_op;go_big_quiet_on)
   refine wpQuiet_nil ?_
   refine Mv.lin_build1 rfl _ _ _ _ rfl fun W hW => ⟨_,_,⟨1,.slice (some ⟨W.heap.size,0,none⟩) 1 1⟩,run_desc1m _ _ _ W,?_,?_⟩
   ·refine ⟨hW.m.below ((Below.refl _ _).alloc (Nat.le_refl _) _),fun _ => RMine.alloc (hW.s0 (by decide)) _,?_,(fun h => by cases h),by have:=hW.z;simp;omega⟩
    rintro _ p hp
    injection hp with h1 h2 h3;injection h1 with h1;injection h1 with h1;subst h1
    exact cells_news W (df (fun _ => Da) (fun _ => (i:Int)) (fun _ => 0) k) _
   generalize W.heap.size = g0 at *
   clear hW
   refine Mv.frame (by simp only [Act.put,List.setIfInBounds_toArray,List.set_cons_succ,List.set_cons_zero];exact rfl) ?_
   refine Mv.lin_append rfl _ _ _ rfl fun W hW => ?_
   have hown:=hW.s0 (by show (1:Nat) < 2;decide)
   obtain ⟨v',w',hr,ho,hg,_⟩:=run_append_own (P:=Tryz.prog) W (q + 1) 51 51 67 i0 (dval 0 0 0) 3 24 Tryz.underlying51 hi0 hz0 hz1 hz2 rfl (by decide) (.slice da k dc) k (Cs (df (fun _ => Da) (fun _ => (i:Int)) (fun _ => 0)) k) hown ⟨g0,0,none⟩ 1 1 (df (fun _ => Da) (fun _ => (i:Int)) (fun _ => 0) k) rfl
    (hW.s1 rfl g0 rfl) (df_one _ _ _ k) (by unfold maxLen;omega) (by omega) hW.z
   refine ⟨v',w',⟨2,v'⟩,hr,?_,?_⟩
   ·have hob:∀ p,(Value.slice da k dc).ownBlock = some p → q + 1 ≤ p:=fun p hp => (World.ownsRow.lt hown p hp).1
    exact ⟨hW.m.grown hg (fun p e => by have:=hob p e;omega),(fun h => absurd h (by show ¬ (2:Nat) < 2;decide)),(fun h => by cases h),fun _ => RMine.append ho (by rfl),by have:=hW.z;have:=hg.size;omega⟩
   clear hr ho hg hW hown
   refine Mv.frame (by simp only [Act.put,List.setIfInBounds_toArray,List.set_cons_succ,List.set_cons_zero];exact rfl) ?_
   (refine Mv.lin_take 1 (by kernel_rfl) ?_;simp only [List.take_succ_cons,List.take_zero,List.drop_succ_cons,List.drop_zero])
   first | go_big_quiet_skip | (go_big_quiet_want;go_big_quiet_op;go_big_quiet_on)
   refine wpQuiet_nil ?_
   refine Mv.wpLin_nil ?_
   intro w9 h9
   have hd9:=h9.s2 rfl
   obtain ⟨da9,dc9,rfl⟩:=RMine.form hd9
   have ST9:=Lib.hid h9.m
   have HD9:=Lib.hid hd9
   have hz9:=h9.z
   clear h9 hne c2 hd9
   go_wp2_with fail
   go_roundw
   case rel => first | exact ⟨da9,dc9,k + 1,rfl,by first | rfl | go_num,by omega,ST9.out,HD9.out,hz9⟩ | ((repeat apply Exists.intro);exact ⟨⟨da9,dc9,k + 1,rfl,by first | rfl | go_num,by omega,ST9.out,HD9.out,hz9⟩,rfl⟩)
   case measure => simp [intOf];omega
  ·obtain rfl:g = k:=by omega
   obtain ⟨gd,cd,hv,hgd,hgd2,hcd,hcd2⟩:=hd.form' (by omega)
   injection hv with hv1 hv2 hv3
   subst hv1 hv3
   have b1:wr.cell? ⟨gd,1,none⟩ = some (.int .i64 (i:Int)):=by
    have:=RMine.seg hd (df_len _ _ _) 0 (by omega) 1 (.int .i64 (i:Int)) rfl
    simpa using this
   have b2:wr.cell? ⟨gd,2,none⟩ = some (.int .i64 0):=by
    have:=RMine.seg hd (df_len _ _ _) 0 (by omega) 2 (.int .i64 0) rfl
    simpa using this
   have f1:wr.frozen? ⟨gd,1,none⟩ = false:=World.ownsRow.frozenAt hd 1
   have f2:wr.frozen? ⟨gd,2,none⟩ = false:=World.ownsRow.frozenAt hd 2
   have c2:wr.cell? ⟨w.heap.size,2,none⟩ = some (.int .i64 (i:Int)):=st.ge.cell (i:=2) rfl
   have e1:IntKind.i64.wrap ((i:Int) - 1) = (i:Int) - 1:=IntWalk.i64_in _ (by omega)
   have y1:=World.ownsRow.stored hd 1 (.int .i64 ((i:Int) - 1))
   have y2:=World.ownsRow.stored y1.1 2 (.int .i64 1)
   have STL:Hid (QmL w g s i j n qa ca q (qmI g s i j 0) gd dc ((wr.setCell ⟨gd,1,none⟩ (.int .i64 ((i:Int) - 1))).setCell ⟨gd,2,none⟩ (.int .i64 1))):=by
    refine ⟨((st.grown y1.2 (fun p e => by injection e with e;omega)).grown y2.2 (fun p e => by injection e with e;omega)).congr fun b _ => rfl,?_⟩
    have:=y2.1
    rw [Cs_desc0 Da i g h1,HDD.out] at this
    exact this
   have hg0:(0:Int) < (g:Int):=by omega
   have ord:gd < ((wr.setCell ⟨gd,1,none⟩ (.int .i64 ((i:Int) - 1))).setCell ⟨gd,2,none⟩ (.int .i64 1)).heap.size:=by simpa using hgd2
   clear y1 y2 hd st hcd2
   go_wp2_with fail
   clear b1 b2 f1 f2 c2 c0
   have HSD:Hid (∀ W,(Instr.makeSlice 132 (.int .i64 2048) (.int .i64 2048)).run Tryz.prog W = .ok (.slice (some ⟨W.heap.size,0,none⟩) 2048 2048) (W.alloc (.cells (madeCells (Value.bool false).cells (2048 * 1)) 4))):=fun W => run_mkrow (P:=Tryz.prog) 132 4 (.bool false) 1 1 Tryz.underlying132 info_boolP .i64 .i64 2048 (by omega) (by omega) W
   obtain ⟨BC,hBC⟩:∃ BC,BC = madeCells (Value.bool false).cells (2048 * 1):=⟨_,rfl⟩
   rw [← hBC] at HSD
   have HBC:=Lib.hid hBC
   clear hBC
   go_loopw [8,9,10] (fun u _ _ wr => ∃ b:Nat,u = .int .i64 (b:Int) ∧ b ≤ n ∧ QmL w g s i j n qa ca q (qmI g s i j b) gd dc wr) (fun u _ _ _ => n - (intOf u).toNat)
   case atStart => exact ⟨0,rfl,Nat.zero_le _,STL.out⟩
   case round =>
    clear STL ord
    obtain ⟨b,rfl,hbn,stl⟩:=hrel
    by_cases hlt:b < n
    ·have hlt':(b:Int) < (n:Int):=by omega
     have bb0:(0:Int) ≤ (b:Int):=by omega
     obtain ⟨K,γ,A,O,hth,⟨hK1,hK2⟩,hrf⟩:=thF_mk HM.out (b:=b) (by have:=HNN.out;omega)
     have HRF:=Lib.hid hrf
     have HTH:=Lib.hid hth
     have hmb:=HSD.out
     obtain ⟨qb,hqb⟩:∃ qb,qb = wr.heap.size:=⟨_,rfl⟩
     have hbt0:RArr (wr.alloc (.cells BC 4)) qb 4 1 2048 (btF (kdP s i K γ) 0):=by
      rw [hqb,HBC.out]
      exact (RArr.made (m:=1) wr (Value.bool false).cells rfl (by omega) 2048 4).congr fun y _ => rfl
     have hq1:q < qb:=by rw [hqb];exact stl.m.im.lt
     have hq2:gd < qb:=by rw [hqb];exact (World.ownsRow.lt stl.d gd rfl).2
     have HL4:=Lib.hid (stl.below ((Below.refl wr.heap.size wr).alloc (Nat.le_refl _) (.cells BC 4)))
     have HB4:=Lib.hid hbt0
     have hsz4:qb < (wr.alloc (.cells BC 4)).heap.size:=hbt0.lt
     obtain ⟨W4,hW4⟩:∃ W4,W4 = wr.alloc (.cells BC 4):=⟨_,rfl⟩
     have HW4:=Lib.hid hW4
     have HQB:=Lib.hid hqb
     rw [← hW4] at HL4 HB4 hsz4
     clear stl hbt0 hW4 hqb hrf hth
     go_wp2_with fail
     rw [← HW4.out,← HQB.out]
     clear HW4 HQB hmb
     obtain ⟨t4,ht4⟩:∃ t4,t4 = i / 4:=⟨_,rfl⟩
     have hquo:(i:Int).tdiv 4 = (t4:Int):=by rw [Int.tdiv_eq_ediv_of_nonneg (by omega)];omega
     have ht16:t4 ≤ 16:=by omega
     go_loopw [10] (fun u wq => ∃ x:Nat,u = .int .i64 (x:Int) ∧ x ≤ 2048 ∧ QmL w g s i j n qa ca q (qmI g s i j b) gd dc wq ∧ RArr wq qb 4 1 2048 (btF (kdP s i K γ) x) ∧ qb < wq.heap.size) (fun u _ => 2048 - (intOf u).toNat)
     case atStart => exact ⟨0,rfl,Nat.zero_le _,HL4.out,HB4.out,hsz4⟩
     case round =>
      clear HL4 HB4 hsz4
      obtain ⟨x,rfl,hx2,stl,hbt,hsz⟩:=hrel
      have hrow:wr.rangeAt qa (b * 4) (tv K γ A O):=by
       have:=(RMine.seg stl.m.al (thF_len s (i / 4) j)).range b hlt
       rw [HTH.out,Nat.zero_add] at this;exact this
      have cK:wr.cell? ⟨qa,b * 4,none⟩ = some (.int .u8 K):=hrow 0 _ rfl
      have cG:wr.cell? ⟨qa,b * 4 + 1,none⟩ = some (.int .i64 γ):=hrow 1 _ rfl
      have cO:wr.cell? ⟨qa,b * 4 + 3,none⟩ = some (.int .i64 O):=hrow 3 _ rfl
      have g1:wr.cell? ⟨w.heap.size,1,none⟩ = some (.int .i64 (s:Int)):=stl.m.ge.cell (i:=1) rfl
      have g2:wr.cell? ⟨w.heap.size,2,none⟩ = some (.int .i64 (i:Int)):=stl.m.ge.cell (i:=2) rfl
      clear hrow
      have n1:¬ qa = qb:=by have:=stl.m.o2;omega
      have n2:¬ qb = qa:=by omega
      have n3:¬ w.heap.size = qb:=by have:=stl.m.o2;have:=stl.m.o1;omega
      have n4:¬ qb = w.heap.size:=by omega
      by_cases hx:x < 2048
      ·have hx':(x:Int) < 2048:=by omega
       have x0:(0:Int) ≤ (x:Int):=by omega
       obtain ⟨c9,f9⟩:=btF_cell hbt hx
       have hcase:K = 4 ∨ K = 5 ∨ (K ≠ 4 ∧ K ≠ 5):=by omega
       rcases hcase with rfl | rfl | ⟨k4,k5⟩
       ·by_cases ha:x < 2 + t4
        ·have ha':(x:Int) < 2 + (t4:Int):=by omega
         have hv:(true:Bool) = kdP s i 4 γ x:=by rw [kdP_4];unfold mapB;rw [show decide (x < 2 + i / 4) = true from decide_eq_true (by omega)];rfl
         have HB2:=Lib.hid (btF_set hbt hx _ hv)
         have HL2:=Lib.hid (stl.only (Only.setCell wr ⟨qb,x,none⟩ (.bool (true))) hq1 hq2)
         have hsz2:=hsz
         clear hbt stl hv
         go_wp2_with fail
         go_roundw
         case rel => exact ⟨x + 1,by first | rfl | go_num,by omega,HL2.out,HB2.out,by simpa using hsz2⟩
         case measure => first | (simp [intOf];done) | (simp [intOf];omega)
        have ha':¬ (x:Int) < 2 + (t4:Int):=by omega
        by_cases hb:s ≤ x
        ·have hb':(s:Int) ≤ (x:Int):=by omega
         have hv:(true:Bool) = kdP s i 4 γ x:=by rw [kdP_4];unfold mapB;rw [show decide (s ≤ x) = true from decide_eq_true hb,show decide (x < 2048) = true from decide_eq_true hx];simp
         have HB2:=Lib.hid (btF_set hbt hx _ hv)
         have HL2:=Lib.hid (stl.only (Only.setCell wr ⟨qb,x,none⟩ (.bool (true))) hq1 hq2)
         have hsz2:=hsz
         clear hbt stl hv
         go_wp2_with fail
         go_roundw
         case rel => exact ⟨x + 1,by first | rfl | go_num,by omega,HL2.out,HB2.out,by simpa using hsz2⟩
         case measure => first | (simp [intOf];done) | (simp [intOf];omega)
        have hb':(x:Int) < (s:Int):=by omega
        have hb2:decide ((s:Int) ≤ (x:Int)) = false:=decide_eq_false (by omega)
        have hb3:decide ((x:Int) < 2 + (i:Int) / 4) = false:=decide_eq_false (by omega)
        have hv:(false:Bool) = kdP s i 4 γ x:=by rw [kdP_4];unfold mapB;rw [show decide (x < 2 + i / 4) = false from decide_eq_false (by omega),show decide (s ≤ x) = false from decide_eq_false hb];rfl
        have HB2:=Lib.hid (btF_set hbt hx _ hv)
        have HL2:=Lib.hid (stl.only (Only.setCell wr ⟨qb,x,none⟩ (.bool (false))) hq1 hq2)
        have hsz2:=hsz
        clear hbt stl hv
        go_wp2_with fail
        go_roundw
        case rel => exact ⟨x + 1,by first | rfl | go_num,by omega,HL2.out,HB2.out,by simpa using hsz2⟩
        case measure => first | (simp [intOf];done) | (simp [intOf];omega)
       ·by_cases ha:i ≤ x
        ·have ha':(i:Int) ≤ (x:Int):=by omega
         have hv:(true:Bool) = kdP s i 5 γ x:=by rw [kdP_5];unfold mapB;rw [show decide (i ≤ x) = true from decide_eq_true ha,show decide (x < 2048) = true from decide_eq_true hx];simp
         have HB2:=Lib.hid (btF_set hbt hx _ hv)
         have HL2:=Lib.hid (stl.only (Only.setCell wr ⟨qb,x,none⟩ (.bool (true))) hq1 hq2)
         have hsz2:=hsz
         clear hbt stl hv
         go_wp2_with fail
         go_roundw
         case rel => exact ⟨x + 1,by first | rfl | go_num,by omega,HL2.out,HB2.out,by simpa using hsz2⟩
         case measure => first | (simp [intOf];done) | (simp [intOf];omega)
        have ha':¬ (i:Int) ≤ (x:Int):=by omega
        by_cases hb:x = 0
        ·subst hb
         by_cases hc:γ = 0
         ·subst hc
          have hv:(true:Bool) = kdP s i 5 0 0:=by rw [kdP_5];unfold mapB;rw [if_pos rfl];simp
          have HB2:=Lib.hid (btF_set hbt hx _ hv)
          have HL2:=Lib.hid (stl.only (Only.setCell wr ⟨qb,0,none⟩ (.bool (true))) hq1 hq2)
          have hsz2:=hsz
          clear hbt stl hv
          go_wp2_with fail
          go_roundw
          case rel => exact ⟨0 + 1,by first | rfl | go_num,by omega,HL2.out,HB2.out,by simpa using hsz2⟩
          case measure => first | (simp [intOf];done) | (simp [intOf];omega)
         have hc':(γ == 0) = false:=by rw [beq_eq_false_iff_ne];exact hc
         have hv:(false:Bool) = kdP s i 5 γ 0:=by rw [kdP_5];unfold mapB;rw [if_neg hc];first | (simp;done) | (simp;omega)
         have HB2:=Lib.hid (btF_set hbt hx _ hv)
         have HL2:=Lib.hid (stl.only (Only.setCell wr ⟨qb,0,none⟩ (.bool (false))) hq1 hq2)
         have hsz2:=hsz
         clear hbt stl hv
         go_wp2_with fail
         go_roundw
         case rel => exact ⟨0 + 1,by first | rfl | go_num,by omega,HL2.out,HB2.out,by simpa using hsz2⟩
         case measure => first | (simp [intOf];done) | (simp [intOf];omega)
        have hb':((x:Int) == 0) = false:=by rw [beq_eq_false_iff_ne];omega
        have hv:(false:Bool) = kdP s i 5 γ x:=by rw [kdP_5];unfold mapB;rw [show decide (i ≤ x) = false from decide_eq_false ha];by_cases hc:γ = 0 <;> simp [hc] <;> try omega
        have HB2:=Lib.hid (btF_set hbt hx _ hv)
        have HL2:=Lib.hid (stl.only (Only.setCell wr ⟨qb,x,none⟩ (.bool (false))) hq1 hq2)
        have hsz2:=hsz
        clear hbt stl hv
        go_wp2_with fail
        go_roundw
        case rel => exact ⟨x + 1,by first | rfl | go_num,by omega,HL2.out,HB2.out,by simpa using hsz2⟩
        case measure => first | (simp [intOf];done) | (simp [intOf];omega)
       ·have q4:(K == 4) = false:=by rw [beq_eq_false_iff_ne];exact k4
        have q5:(K == 5) = false:=by rw [beq_eq_false_iff_ne];exact k5
        have HB2:=Lib.hid (btF_no hbt (by rw [kdP_no k4 k5]))
        have HL2:=Lib.hid stl
        clear hbt stl c9 f9
        go_wp2_with fail
        go_roundw
        case rel => first | exact ⟨x + 1,by first | rfl | go_num,by omega,HL2.out,HB2.out,hsz⟩ | ((repeat apply Exists.intro);exact ⟨⟨x + 1,by first | rfl | go_num,by omega,HL2.out,HB2.out,hsz⟩,rfl⟩)
        case measure => simp [intOf];omega
      ·obtain rfl:x = 2048:=by omega
       have hrow:=btF_row hbt
       have hlq:∀ b' off,(some ⟨qb,0,none⟩:Option Addr) = some ⟨b',off,none⟩ → b' < wr.heap.size:=fun b' off e => by injection e with e;injection e with e1;omega
       have STL5:=Lib.hid stl
       clear stl hbt cK cG cO g1 g2
       go_wp2_with fail
       refine (rBits4_any (kdP s i K γ) (some ⟨qb,0,none⟩) 2048 wr hrow hlq).mono ?_
       rintro e w6 ⟨rfl,hb6⟩
       obtain ⟨z,hz⟩:∃ z,z = bZ (kdP s i K γ):=⟨_,rfl⟩
       have HZ:=Lib.hid hz
       rw [← hz]
       have stl6:=STL5.out.below hb6
       clear STL5 hb6 hrow hlq hz
       go_wp2_with (first | (refine wp_stQm rfl (.tmp 103) (.tmp 102) rfl stl6 hlt z _ rfl rfl (by omega) ?_))
       intro w7 stl7
       have STL7:=Lib.hid stl7
       clear stl6 stl7
       have hge7:=STL7.out.m.ge
       have cO7:w7.cell? ⟨qa,b * 4 + 3,none⟩ = some (.int .i64 O):=by
        have:=(RMine.seg STL7.out.m.al (thF_len s (i / 4) j)).range b hlt
        rw [HTH.out,Nat.zero_add] at this;exact this 3 _ rfl
       have hrg7:w7.rangeAt q (b * 256) (Ks .u8 256 z):=by
        have:=STL7.out.m.im.seg.range b hlt
        rw [Nat.zero_add,if_pos rfl] at this;exact this
       by_cases b0:b = 0
       ·have q0:((b:Int) == 0) = true:=by rw [beq_iff_eq];omega
        clear hrg7 cO7
        go_wp2_with (first | (refine wp_loadAtG rfl 23 (.tmp 1) rfl _ _ _ rfl hge7 Tryz.underlying23 rfl (by kernel_rfl) ?_) | fail)
        refine (rsWrite_any g s i j 0 (by decide) _).mono ?_
        rintro e w8 ⟨rfl,hb8⟩
        obtain ⟨y,hy⟩:∃ y,y = supZ (g:Int) s i j 0:=⟨_,rfl⟩
        have HY:=Lib.hid hy
        rw [← hy]
        have stl8:=STL7.out.below hb8
        have HQ9:Hid (y = mkB g s i j b):=by show _ = _;rw [← HRF.out];unfold rfB;rw [if_pos b0];exact HY.out
        clear STL7 hb8 hy
        go_wp2_with (first | (refine wp_stQm rfl (.tmp 115) (.tmp 113) rfl stl8 hlt y _ rfl rfl (by omega) ?_))
        intro w9 stl9
        have STA:=Lib.hid (stl9.congr (im':=qmI g s i j (b + 1)) fun x _ => by have h:=qmI_next2 (x:=x) y z HQ9.out;first | exact h | (rw [b0] at h ⊢;exact h) | (rw [b1] at h ⊢;exact h) | (rw [b2] at h ⊢;exact h))
        clear stl8 stl9
        go_wp2_with fail
        go_roundw
        case rel => first | exact ⟨b + 1,by first | rfl | go_num,by omega,STA.out⟩ | ((repeat apply Exists.intro);exact ⟨⟨b + 1,by first | rfl | go_num,by omega,STA.out⟩,rfl⟩)
        case measure => simp [intOf];omega
       have q0:((b:Int) == 0) = false:=by rw [beq_eq_false_iff_ne];omega
       by_cases b1:b = 1
       ·have q1:((b:Int) == 1) = true:=by rw [beq_iff_eq];omega
        clear hrg7 cO7
        go_wp2_with (first | (refine wp_loadAtG rfl 23 (.tmp 1) rfl _ _ _ rfl hge7 Tryz.underlying23 rfl (by kernel_rfl) ?_) | fail)
        refine (rsWriteDescs_any g s i j (some ⟨gd,0,none⟩) g dc (dkB g s i j) (dkI i) dkD (by omega) _ (RMine.row STL7.out.d (df_len _ _ _))).mono ?_
        rintro e w8 ⟨rfl,hb8⟩
        obtain ⟨y,hy⟩:∃ y,y = descZ (g:Int) s i j g (dkB g s i j) (dkI i) dkD:=⟨_,rfl⟩
        have HY:=Lib.hid hy
        rw [← hy]
        have stl8:=STL7.out.below hb8
        have HQ9:Hid (y = mkB g s i j b):=by show _ = _;rw [← HRF.out];unfold rfB;rw [if_neg b0,if_pos b1];exact HY.out
        clear STL7 hb8 hy
        go_wp2_with (first | (refine wp_stQm rfl (.tmp 127) (.tmp 125) rfl stl8 hlt y _ rfl rfl (by omega) ?_))
        intro w9 stl9
        have STA:=Lib.hid (stl9.congr (im':=qmI g s i j (b + 1)) fun x _ => by have h:=qmI_next2 (x:=x) y z HQ9.out;first | exact h | (rw [b0] at h ⊢;exact h) | (rw [b1] at h ⊢;exact h) | (rw [b2] at h ⊢;exact h))
        clear stl8 stl9
        go_wp2_with fail
        go_roundw
        case rel => first | exact ⟨b + 1,by first | rfl | go_num,by omega,STA.out⟩ | ((repeat apply Exists.intro);exact ⟨⟨b + 1,by first | rfl | go_num,by omega,STA.out⟩,rfl⟩)
        case measure => simp [intOf];omega
       have q1:((b:Int) == 1) = false:=by rw [beq_eq_false_iff_ne];omega
       by_cases b2:b = 2
       ·have q2:((b:Int) == 2) = true:=by rw [beq_iff_eq];omega
        clear hrg7 hge7 cO7
        go_wp2_with (first | fail)
        refine (rWriteHead_any 1 0 _ (by omega) (by omega)).mono ?_
        rintro e w8 ⟨rfl,hb8⟩
        obtain ⟨y,hy⟩:∃ y,y = headZ 1 0:=⟨_,rfl⟩
        have HY:=Lib.hid hy
        rw [← hy]
        have stl8:=STL7.out.below hb8
        have HQ9:Hid (y = mkB g s i j b):=by show _ = _;rw [← HRF.out];unfold rfB;rw [if_neg b0,if_neg b1,if_pos b2];exact HY.out
        clear STL7 hb8 hy
        go_wp2_with (first | (refine wp_stQm rfl (.tmp 138) (.tmp 136) rfl stl8 hlt y _ rfl rfl (by omega) ?_))
        intro w9 stl9
        have STA:=Lib.hid (stl9.congr (im':=qmI g s i j (b + 1)) fun x _ => by have h:=qmI_next2 (x:=x) y z HQ9.out;first | exact h | (rw [b0] at h ⊢;exact h) | (rw [b1] at h ⊢;exact h) | (rw [b2] at h ⊢;exact h))
        clear stl8 stl9
        go_wp2_with fail
        go_roundw
        case rel => first | exact ⟨b + 1,by first | rfl | go_num,by omega,STA.out⟩ | ((repeat apply Exists.intro);exact ⟨⟨b + 1,by first | rfl | go_num,by omega,STA.out⟩,rfl⟩)
        case measure => simp [intOf];omega
       have q2:((b:Int) == 2) = false:=by rw [beq_eq_false_iff_ne];omega
       by_cases hO:O = 1
       ·have qO:(O == 1) = true:=by rw [beq_iff_eq];exact hO
        clear hge7
        go_wp2_with (first | (refine wp_loadMid rfl 32 (.tmp 151) rfl q (b * 256) (Ks .u8 256 z) _ rfl hrg7 Tryz.underlying32 rfl (by rw [Ks_length];exact info_block) ?_) | fail)
        refine (rput_yes z (by rw [HZ.out];exact bZ_byt _) 0 rootI rootIsOk _ rootOk).mono ?_
        rintro e w8 ⟨rfl,hb8⟩
        obtain ⟨y,hy⟩:∃ y,y = over z (0:Int).toNat 64 rootI.byte:=⟨_,rfl⟩
        have HY:=Lib.hid hy
        rw [← hy]
        have stl8:=STL7.out.below hb8
        have HQ9:Hid (y = mkB g s i j b):=by show _ = _;rw [← HRF.out];unfold rfB;rw [if_neg b0,if_neg b1,if_neg b2,if_pos hO];rw [← HZ.out];exact HY.out
        clear STL7 hb8 hy
        go_wp2_with (first | (refine wp_stQm rfl (.tmp 157) (.tmp 155) rfl stl8 hlt y _ rfl rfl (by omega) ?_))
        intro w9 stl9
        have STA:=Lib.hid (stl9.congr (im':=qmI g s i j (b + 1)) fun x _ => by have h:=qmI_next2 (x:=x) y z HQ9.out;first | exact h | (rw [b0] at h ⊢;exact h) | (rw [b1] at h ⊢;exact h) | (rw [b2] at h ⊢;exact h))
        clear stl8 stl9
        go_wp2_with fail
        go_roundw
        case rel => first | exact ⟨b + 1,by first | rfl | go_num,by omega,STA.out⟩ | ((repeat apply Exists.intro);exact ⟨⟨b + 1,by first | rfl | go_num,by omega,STA.out⟩,rfl⟩)
        case measure => simp [intOf];omega
       have qO:(O == 1) = false:=by rw [beq_eq_false_iff_ne];exact hO
       have STA:=Lib.hid (STL7.out.congr (im':=qmI g s i j (b + 1)) fun x _ => qmI_next z (by rw [← HRF.out];unfold rfB;rw [if_neg b0,if_neg b1,if_neg b2,if_neg hO];exact HZ.out))
       clear STL7 hrg7 hge7
       go_wp2_with fail
       go_roundw
       case rel => first | exact ⟨b + 1,by first | rfl | go_num,by omega,STA.out⟩ | ((repeat apply Exists.intro);exact ⟨⟨b + 1,by first | rfl | go_num,by omega,STA.out⟩,rfl⟩)
       case measure => simp [intOf];omega
    ·obtain rfl:n = b:=by omega
     have STE:=Lib.hid stl
     clear stl
     go_wp2_with fail
     go_ret2
     refine ⟨q,by rw [← HNN.out];rfl,by have:=STE.out.m.o1;have:=STE.out.m.o2;omega,?_,STE.out.m.bel⟩
     rw [← HNN.out]
     exact STE.out.m.im.congr fun x hx => by unfold qmI;rw [if_pos hx]
end Go.Proofs.YtphamecphmbipaaGreatDoor
