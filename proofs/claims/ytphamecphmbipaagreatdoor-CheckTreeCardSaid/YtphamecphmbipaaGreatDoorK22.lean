/- Texts of this claim, merged. -/
import Derived.Test.YtphamecphmbipaaGreatDoorK19
namespace Go.Proofs.YtphamecphmbipaaGreatDoor
open Go.RowKit
set_option linter.unusedVariables false
def inoF (x:Im) (t:Nat):List Value:=(x.ino t).arr.toList
def inoK (x:Im) (k t:Nat):List Value:=(if t < k then x.ino t else Ino.nil).arr.toList
theorem inoK_len (x:Im) (k t:Nat):(inoK x k t).length = 16:=rfl
theorem Im.ino_zero (x:Im):x.ino 0 = Ino.nil:=by unfold Im.ino;rw [if_neg (by omega)]
theorem Im.ia_le (x:Im) (t:Nat):x.ia t ≤ 192:=by unfold Im.ia;omega
theorem Im.ino_ok {x:Im} (h:x.Ok) (t:Nat):(x.ino t).Ok:=by
 unfold Im.ino;split
 ·exact getIno_ok (h.byt _) _
 ·exact nil_ok
theorem info_inode:(Tryz.prog.info? 63).map (fun i => (i.zero,i.size,i.bytes)) = some (some Ino.nil.val,16,80):=by kernel_rfl
theorem run_mkinodes (n:Nat) (hn:n ≤ 2048) (W:World):(Instr.makeSlice 86 (.int .i64 (n:Int)) (.int .i64 (n:Int))).run Tryz.prog W = .ok (.slice (some ⟨W.heap.size,0,none⟩) n n) (W.alloc (.cells (madeCells Ino.nil.val.cells (n * 16)) 63)) :=
 run_mkrow (P:=Tryz.prog) 86 63 Ino.nil.val 16 80 Tryz.underlying86 info_inode .i64 .i64 n (by omega) (by omega) W
theorem info_inoL (y:Ino):(Tryz.prog.info? 63).map (·.size) = some y.arr.toList.length:=by kernel_rfl
theorem ino_oneL (y:Ino):∀ v ∈ y.arr.toList,v.oneCell' = true:=by
 have:=arr_one y
 rwa [← Array.all_toList,List.all_eq_true] at this
structure CkI (w:World) (p b off cap:Nat) (x:Im) (ds orp own sl un:Value) (q k:Nat) (W:World):Prop where
 a:At W p 105 (XC b off cap x ds (.slice (some ⟨q,0,none⟩) (x.ni + 1) (x.ni + 1)) orp own sl un)
 i:RSeg W b off 256 x.n (bkF x.L)
 r:RArr W q 63 16 (x.ni + 1) (inoK x k)
 bl:b < W.heap.size
 gr:w.grownBy W (some p)
section
variable {w:World} {p b off cap:Nat} {x:Im} {ds orp own sl un:Value} {q k:Nat} {W W':World}
theorem CkI.below (h:CkI w p b off cap x ds orp own sl un q k W) (hb:Below W.heap.size W W'):CkI w p b off cap x ds orp own sl un q k W' :=
 ⟨h.a.below hb h.a.lt,RSeg.below h.i hb h.bl,h.r.below hb,Nat.lt_of_lt_of_le h.bl hb.size,grown_trans h.gr (grown_below hb)⟩
theorem RSeg.only {w w':World} {b off m n:Nat} {f:Nat → List Value} (h:RSeg w b off m n f) {g:Nat} (ho:Only g w w') (hg:b ≠ g):RSeg w' b off m n f :=
 fun i hi j v hv => (ho.cell (p:=⟨b,off + i * m + j,none⟩) hg).trans (h i hi j v hv)
theorem RSeg.grownQ {w w':World} {b off m n:Nat} {f:Nat → List Value} (h:RSeg w b off m n f) {row:Option Nat} (hg:w.grownBy w' row) (hb:b < w.heap.size) (hr:some b ≠ row):RSeg w' b off m n f :=
 fun i hi j v hv => (World.cell?_of_block (w:=w) (a:=⟨b,off + i * m + j,none⟩) (hg.block b hb hr)).trans (h i hi j v hv)
theorem CkI.only (h:CkI w p b off cap x ds orp own sl un q k W) {g:Nat} (ho:Only g W W') (h1:p ≠ g) (h2:b ≠ g) (h3:q ≠ g) (h4:w.heap.size ≤ g):CkI w p b off cap x ds orp own sl un q k W' :=
 ⟨h.a.only ho h1,RSeg.only h.i ho h2,h.r.only ho h3,by rw [ho.size];exact h.bl,
  ⟨ho.os.trans h.gr.os,ho.tape.trans h.gr.tape,ho.output.trans h.gr.output,by rw [ho.size];exact h.gr.size,fun j hj hne => (ho.block j (by omega)).trans (h.gr.block j hj hne)⟩⟩
theorem CkI.next (h:CkI w p b off cap x ds orp own sl un q k W) (hk:k < x.ni + 1) (hp:p ≠ q) (hb:b ≠ q) (hq:w.heap.size ≤ q) :
  CkI w p b off cap x ds orp own sl un q (k + 1) (W.setCells q (k * 16) (inoF x k)):=by
 obtain ⟨hr,ho⟩:=h.r.set hk (vs:=inoF x k) rfl (inoK_len x k)
 refine ⟨h.a.only ho hp,RSeg.only h.i ho hb,hr.congr fun t ht => ?_,by rw [ho.size];exact h.bl,
  ⟨ho.os.trans h.gr.os,ho.tape.trans h.gr.tape,ho.output.trans h.gr.output,by rw [ho.size];exact h.gr.size,fun j hj hne => (ho.block j (by omega)).trans (h.gr.block j hj hne)⟩⟩
 unfold inoK inoF
 by_cases e:t = k
 ·subst e;rw [if_pos rfl,if_pos (by omega)]
 ·rw [if_neg e]
  by_cases e2:t < k
  ·rw [if_pos e2,if_pos (by omega)]
  ·rw [if_neg e2,if_neg (by omega)]
end
structure CkN (w:World) (p b off cap:Nat) (x:Im) (ds orp own sl un:Value) (q k g:Nat) (y:Ino) (W:World):Prop where
 s:CkI w p b off cap x ds orp own sl un q k W
 y:InoAt W g 63 y
theorem CkN.below {w:World} {p b off cap:Nat} {x:Im} {ds orp own sl un:Value} {q k g:Nat} {y:Ino} {W W':World} (h:CkN w p b off cap x ds orp own sl un q k g y W) (hb:Below W.heap.size W W'):CkN w p b off cap x ds orp own sl un q k g y W' :=
 ⟨h.s.below hb,(hb.block g (Array.getElem?_eq_some_iff.1 h.y).1).trans h.y⟩
set_option maxRecDepth 100000 in
set_option maxHeartbeats 8000000 in
theorem ckInodes_any (p b off cap:Nat) (x:Im) (hx:x.Ok) (ds orp own sl un:Value) (w:World) (hA:At w p 105 (XC b off cap x ds (.slice none 0 0) orp own sl un)) (hI:RSeg w b off 256 x.n (bkF x.L)) (hbp:b ≠ p) :
  Calls Tryz.prog 78 #[.pointer (some ⟨p,0,none⟩)] w fun e w' => Said (allB (fun t => x.ck4 (t + 1)) x.ni) 4 e ∧ w.grownBy w' (some p) ∧
   (allB (fun t => x.ck4 (t + 1)) x.ni = true → ∃ q,w.heap.size ≤ q ∧ At w' p 105 (XC b off cap x ds (.slice (some ⟨q,0,none⟩) (x.ni + 1) (x.ni + 1)) orp own sl un) ∧ RArr w' q 63 16 (x.ni + 1) (inoF x)):=by
 have HX:=Lib.hid hx
 obtain ⟨h1,h2,h3,h4,h5,h6,h7,h8,h9,h10,h11⟩:=mayN hx.may
 have hn9:=hx.n_le
 have hn0:0 < x.n:=by have:=hx.n;omega
 have hni:x.ni ≤ 256:=gi_bd hx.may
 have HNI:Hid (nIn x.g x.s x.i x.j = ((x.ni:Nat):Int)):=nIn_nat hx.may
 have ST0:Hid (CkC w p (XC b off cap x ds (.slice none 0 0) orp own sl un) b off x w):=⟨hA,hI,Below.refl _ _⟩
 have hpl:=hA.lt
 have hbl:b < w.heap.size:=ST0.out.img_lt hn0
 have hg:=XG.of hA
 have HG:Hid (w.rangeAt p 6 (gcells x.g x.s x.i x.j).toList):=hg
 clear hA hI hx hg
 have hal:=zero_ino
 go_enter Tryz.func78,Tryz.ntmps78
 go_wp2_with (first | (refine wp_loadMid rfl 23 (.tmp 14) rfl p 6 (gcells x.g x.s x.i x.j).toList _ rfl HG.out Tryz.underlying23 rfl (by kernel_rfl) ?_))
 refine (geoInodes_any x.g x.s x.i x.j _).mono ?_
 rintro e w1 ⟨rfl,hb1⟩
 rw [HNI.out]
 have ST1:=Lib.hid (ST0.out.below hn0 hb1)
 have hw1:=hb1.size
 clear ST0 hb1 HG
 obtain ⟨N,hN⟩:∃ N,N = x.ni:=⟨_,rfl⟩
 have HN:=Lib.hid hN
 rw [← hN] at hni ⊢
 clear hN HNI
 obtain ⟨q,hq⟩:∃ q,q = w1.heap.size:=⟨_,rfl⟩
 have hmk:(Instr.makeSlice 86 (.int .i64 ((N:Int) + 1)) (.int .i64 ((N:Int) + 1))).run Tryz.prog w1 = .ok (.slice (some ⟨q,0,none⟩) (N + 1) (N + 1)) (w1.alloc (.cells (madeCells Ino.nil.val.cells ((N + 1) * 16)) 63)):=by
  rw [hq];exact run_mkinodes (N + 1) (by omega) w1
 have hqw:w.heap.size ≤ q:=by rw [hq];exact hw1
 obtain ⟨W1,hW1⟩:∃ W1,W1 = w1.alloc (.cells (madeCells Ino.nil.val.cells ((N + 1) * 16)) 63):=⟨_,rfl⟩
 have ha1:At W1 p 105 (XC b off cap x ds (.slice none 0 0) orp own sl un):=by rw [hW1];exact ST1.out.a.alloc _
 have c11:W1.cell? ⟨p,11,none⟩ = some (.slice none 0 0):=ha1.cell (i:=11) rfl
 have f11:W1.frozen? ⟨p,11,none⟩ = false:=soft_of_heap ha1 11
 rw [← hW1] at hmk
 have ST2:Hid (CkI w p b off cap x ds orp own sl un q 0 (W1.setCell ⟨p,11,none⟩ (.slice (some ⟨q,0,none⟩) (N + 1) (N + 1)))):=by
  have ho:Only p W1 (W1.setCell ⟨p,11,none⟩ (.slice (some ⟨q,0,none⟩) (N + 1) (N + 1))):=Only.setCell W1 ⟨p,11,none⟩ _
  have hbW:Below w1.heap.size w1 W1:=by rw [hW1];exact (Below.refl _ _).alloc (Nat.le_refl _) _
  have hrr:RArr W1 q 63 16 (N + 1) (fun _ => Ino.nil.arr.toList):=by
   rw [hW1,hq];exact RArr.made (m:=16) w1 Ino.nil.arr rfl (by omega) (N + 1) _
  have hb1:=ST1.out.img_lt hn0
  refine ⟨by rw [← HN.out];exact ha1.set1 11 _,RSeg.only (RSeg.below ST1.out.i hbW hb1) ho hbp,?_,by rw [ho.size];exact Nat.lt_of_lt_of_le hb1 hbW.size,grown_trans (grown_below (ST1.out.bel.trans (hbW.mono ST1.out.bel.size))) (grown_only ho)⟩
  rw [← HN.out]
  refine (hrr.only ho (by omega)).congr fun t ht => ?_
  unfold inoK;rw [if_neg (by omega)]
 have HQ:=Lib.hid hqw
 clear hW1 ha1 hq ST1 hw1
 go_wp2_with fail
 clear c11 f11 hmk
 have ST3:Hid (CkI w p b off cap x ds orp own sl un q (0 + 1) (W1.setCell ⟨p,11,none⟩ (.slice (some ⟨q,0,none⟩) (N + 1) (N + 1)))):=by
  have h:=ST2.out
  refine ⟨h.a,h.i,h.r.congr fun t ht => ?_,h.bl,h.gr⟩
  unfold inoK
  by_cases e:t = 0
  ·subst e;rw [if_neg (by omega),if_pos (by omega),x.ino_zero]
  ·rw [if_neg (by omega),if_neg (by omega)]
 have hpq:p ≠ q:=by omega
 have hbq:b ≠ q:=by omega
 clear ST2
 go_loopw [3] (fun u wr => ∃ k:Nat,k ≤ N ∧ u = .int .i64 ((k:Int) + 1) ∧ (∀ t,t < k → x.ck4 (t + 1) = true) ∧ CkI w p b off cap x ds orp own sl un q (k + 1) wr) (fun u _ => N + 1 - (intOf u).toNat)
 case atStart => exact ⟨0,Nat.zero_le _,rfl,fun t h => by omega,ST3.out⟩
 case round =>
  clear ST3
  obtain ⟨k,hk,rfl,hP,st⟩:=hrel
  have HPP:=Lib.hid hP
  clear hP
  by_cases hlt:k < N
  ·have hlt':(k:Int) + 1 ≤ (N:Int):=by omega
   have hgi:k < x.g * x.i:=by have:=HN.out;unfold Im.ni at this;omega
   have HS:=Lib.hid st
   have HG:Hid (wr.rangeAt p 6 (gcells x.g x.s x.i x.j).toList):=XG.of st.a
   clear st
   go_wp2_with (first | (refine wp_loadMid rfl 23 (.tmp 31) rfl p 6 (gcells x.g x.s x.i x.j).toList _ rfl HG.out Tryz.underlying23 rfl (by kernel_rfl) ?_))
   refine (geoInode_yes x.g x.s x.i x.j k HX.out.may hgi wr).mono ?_
   rintro e w1 ⟨rfl,hb1⟩
   have st1:=HS.out.below hb1
   clear HS HG hb1
   have HB1:Hid (2 + x.j + k / x.i * x.s + 2 + k % x.i / 4 = x.ib (k + 1)):=rfl
   have HB2:Hid (k % x.i % 4 * 64 = x.ia (k + 1)):=rfl
   rw [HB1.out,HB2.out]
   clear HB1 HB2
   have hIlt:x.ib (k + 1) < x.n:=by
    have hγ:k / x.i < x.g:=Nat.div_lt_of_lt_mul (by rw [Nat.mul_comm];exact hgi)
    have hr:k % x.i < x.i:=Nat.mod_lt _ (by omega)
    have:=HX.out.st hγ (d:=2 + k % x.i / 4) (by omega)
    show x.st (k / x.i) + 2 + k % x.i / 4 < x.n
    omega
   have HINO:Hid (x.ino (k + 1) = getIno (x.L (x.ib (k + 1))) (x.ia (k + 1))):=by
    show _ = _
    unfold Im.ino
    rw [if_pos ⟨by omega,by have:=HN.out;omega⟩]
   have ha9:x.ia (k + 1) ≤ 192:=x.ia_le (k + 1)
   obtain ⟨I,hI⟩:∃ I,I = x.ib (k + 1):=⟨_,rfl⟩
   obtain ⟨a,ha⟩:∃ a,a = x.ia (k + 1):=⟨_,rfl⟩
   have HII:=Lib.hid hI
   have HAA:=Lib.hid ha
   rw [← hI] at hIlt ⊢
   rw [← ha] at ha9 ⊢
   clear hI ha
   have hIlt':(I:Int) < (x.n:Int):=by omega
   have c0:w1.cell? ⟨p,0,none⟩ = some (.slice (some ⟨b,off,none⟩) x.n cap):=st1.a.cell (i:=0) rfl
   have hrg:w1.rangeAt b (off + I * 256) (bkF x.L I):=RSeg.range st1.i I hIlt
   go_wp2_with (first | (refine wp_loadMid rfl 32 (.tmp 44) rfl b (off + I * 256) (bkF x.L I) _ rfl hrg Tryz.underlying32 rfl (by rw [bkF_len];exact info_block) ?_))
   refine (inoGet_any (x.L I) (HX.out.byt I) (a:Int) w1 (by omega) (by omega)).mono ?_
   rintro e w2 ⟨rfl,hb2⟩
   have st2:=st1.below hb2
   have HIN:Hid (getIno (x.L I) (a:Int) = x.ino (k + 1)):=by show _ = _;rw [HINO.out,HII.out,HAA.out]
   rw [HIN.out]
   clear st1 c0 hrg hb2 HINO
   obtain ⟨y,hy⟩:∃ y,y = x.ino (k + 1):=⟨_,rfl⟩
   have HY:=Lib.hid hy
   rw [← hy]
   clear hy
   have hnew:=InoAt.new w2 .nil
   go_wp2_with (first | (refine wp_storeIno rfl (.tmp 7) (.tmp 48) rfl w2.heap.size y .nil rfl rfl hnew ?_))
   intro w3 hy3 ho3
   obtain ⟨g,hg⟩:∃ g,g = w2.heap.size:=⟨_,rfl⟩
   have hgl:w.heap.size ≤ g ∧ p ≠ g ∧ b ≠ g ∧ q ≠ g:=by
    have h1:=st2.gr.size
    have h2:=st2.r.lt
    have h3:=st2.bl
    have h4:=st2.a.lt
    omega
   obtain ⟨hg1,hg2,hg3,hg4⟩:=hgl
   rw [← hg] at hy3 ho3 ⊢
   have st3:CkN w p b off cap x ds orp own sl un q (k + 1) g y w3:=⟨(st2.below ((Below.refl _ _).alloc (Nat.le_refl _) _)).only ho3 hg2 hg3 hg4 hg1,hy3⟩
   clear hnew hy3 ho3 hg st2
   have hlt2:k < x.ni:=by have:=HN.out;omega
   have hni2:N = x.ni:=HN.out
   have HG3:Hid (w3.rangeAt p 6 (gcells x.g x.s x.i x.j).toList):=XG.of st3.s.a
   obtain ⟨E,hE⟩:∃ E,E = getErr (x.L I) (a:Int):=⟨_,rfl⟩
   have HEE:Hid (E = getErr (x.L (x.ib (k + 1))) (x.ia (k + 1))):=by show _ = _;rw [hE,HII.out,HAA.out]
   rw [← hE]
   clear hE
   have HNO:Hid (x.ck4 (k + 1) = false → (Said (allB (fun t => x.ck4 (t + 1)) x.ni) 4 (.panicked (brk 4)) ∧ (allB (fun t => x.ck4 (t + 1)) x.ni = true → False))):=fun h =>
    ⟨.inr ⟨allB_no (p:=fun t => x.ck4 (t + 1)) hlt2 h,rfl⟩,fun h2 => by rw [allB_no (p:=fun t => x.ck4 (t + 1)) hlt2 h] at h2;cases h2⟩
   have ST3':=Lib.hid st3
   have HNI:=Lib.hid hni2
   clear st3 hlt2 hni2
   by_cases hE0:E = 0
   rotate_left
   ·have q1:(E == 0) = false:=by simp [hE0]
    have HF:Hid (x.ck4 (k + 1) = false):=by show _ = _;unfold Im.ck4;rw [← HEE.out,q1];rfl
    clear hE0
    go_wp2_with fail
    refine (must_no 4 _).mono ?_
    rintro e w4 ⟨rfl,rfl⟩
    exact ⟨rfl,(HNO.out HF.out).1,ST3'.out.s.gr,fun h => ((HNO.out HF.out).2 h).elim⟩
   subst hE0
   go_wp2_with fail
   refine (must_yes 4 _).mono ?_
   rintro e w4 ⟨rfl,rfl⟩
   go_wp2_with (first | (refine wp_loadMid rfl 23 (.tmp 56) rfl p 6 (gcells x.g x.s x.i x.j).toList _ rfl HG3.out Tryz.underlying23 rfl (by kernel_rfl) ?_))
   refine (geoHome_yes x.g x.s x.i x.j k HX.out.may hgi _).mono ?_
   rintro e w5 ⟨rfl,hb5⟩
   have st5:=ST3'.out.below hb5
   obtain ⟨γ,hγ⟩:∃ γ,γ = k / x.i:=⟨_,rfl⟩
   obtain ⟨ρ,hρ⟩:∃ ρ,ρ = k % x.i:=⟨_,rfl⟩
   have hγ9:γ < x.g:=by rw [hγ];exact Nat.div_lt_of_lt_mul (by rw [Nat.mul_comm];exact hgi)
   have hρ9:ρ < x.i:=by rw [hρ];exact Nat.mod_lt _ (by omega)
   obtain ⟨Q,hQ⟩:∃ Q,Q = x.st γ:=⟨_,rfl⟩
   have hst1:Q + 1 < x.n:=by rw [hQ];exact HX.out.st hγ9 (by omega)
   have HUS:Hid (x.used (k + 1) = bt (x.L (Q + 1)) ρ):=by show _ = _;rw [hQ,hγ,hρ];rfl
   have HSQ:Hid (2 + x.j + γ * x.s = Q):=hQ.symm
   rw [← hγ,← hρ]
   clear hb5 HG3 ST3' hγ hρ hQ
   have hst2:(Q:Int) + 1 < (x.n:Int):=by omega
   have q0:(0:Int) ≤ (Q:Int) + 1:=by omega
   go_wp2_with fail
   refine wp_region_bar2 (CkN w p b off cap x ds orp own sl un q (k + 1) g y) 16 (by kernel_rfl) (by kernel_rfl) (by kernel_rfl) (by kernel_rfl) (by kernel_rfl) (by decide) (st5.below (Below.refl _ _).drew) ?_
   clear st5
   simp only [List.take_succ_cons,List.take_zero,List.drop_succ_cons,List.drop_zero]
   intro hne
   have hc:∀ z:InW (CkN w p b off cap x ds orp own sl un q (k + 1) g y),z.W.cell? ⟨p,0,none⟩ = some (.slice (some ⟨b,off,none⟩) x.n cap):=fun z => z.h.s.a.cell (i:=0) rfl
   have hk0:∀ z:InW (CkN w p b off cap x ds orp own sl un q (k + 1) g y),z.W.cell? ⟨g,0,none⟩ = some (.int .u8 y.kind):=fun z => cell_of_heap z.h.y (i:=0) rfl
   first | go_big_quiet_skip | (go_big_quiet_want;go_big_quiet_op;go_big_quiet_on)
   first | go_big_quiet_skip | (go_big_quiet_want;go_big_quiet_op;go_big_quiet_on)
   first | go_big_quiet_skip | (go_big_quiet_want;go_big_quiet_op;go_big_quiet_on)
   first | go_big_quiet_skip | (go_big_quiet_want;go_big_quiet_op;go_big_quiet_on)
   first | go_big_quiet_skip | (go_big_quiet_want;go_big_quiet_op;go_big_quiet_on)
   first | go_big_quiet_skip | (go_big_quiet_want;go_big_quiet_op;go_big_quiet_on)
   go_big_quiet_want
   go_big_quiet_op
   refine ⟨_,fun s => q_call s (fun W hW => (ckStart_any p x.g x.s x.i x.j γ HX.out.may hγ9 W (XG.of hW.s.a)).mono fun e w' h => ⟨show e = .returned (.int .i64 ((Q:Nat):Int)) by rw [h.1,HSQ.out],hW.below h.2⟩),?_⟩
   go_big_quiet_on
   first | go_big_quiet_skip | (go_big_quiet_want;go_big_quiet_op;go_big_quiet_on)
   first | go_big_quiet_skip | (go_big_quiet_want;go_big_quiet_op;go_big_quiet_on)
   refine q_load rfl 32 (.tmp 71) rfl b (off + (Q + 1) * 256) rfl (bkF x.L (Q + 1)) _ (fun W h => RSeg.range h.s.i (Q + 1) hst1) Tryz.underlying32 rfl (by rw [bkF_len];exact info_block) ?_
   refine wpQuiet_frame (by simp only [Act.put,List.setIfInBounds_toArray,List.set_cons_succ,List.set_cons_zero];exact rfl) ?_
   first | go_big_quiet_skip | (go_big_quiet_want;go_big_quiet_op;go_big_quiet_on)
   go_big_quiet_want
   go_big_quiet_op
   refine ⟨_,fun s => q_call s (fun W hW => (bitHas_z (HX.out.byt (Q + 1)) _ ρ rfl (by omega) W).mono fun e w' h => ⟨h.1,hW.below h.2⟩),?_⟩
   go_big_quiet_on
   first | go_big_quiet_skip | (go_big_quiet_want;go_big_quiet_op;go_big_quiet_on)
   first | go_big_quiet_skip | (go_big_quiet_want;go_big_quiet_op;go_big_quiet_on)
   first | go_big_quiet_skip | (go_big_quiet_want;go_big_quiet_op;go_big_quiet_on)
   first | go_big_quiet_skip | (go_big_quiet_want;go_big_quiet_op;go_big_quiet_on)
   refine wpQuiet_nil ?_
   intro w6 h6
   have st6:=h6.out
   clear h6 hne hc hk0
   obtain ⟨c,hcc⟩:∃ c,c = (bt (x.L (Q + 1)) ρ == (y.kind != 0)):=⟨_,rfl⟩
   have HCK:Hid (x.ck4 (k + 1) = c):=by show _ = _;unfold Im.ck4;rw [← HEE.out,HUS.out,← HY.out,hcc];rfl
   have ST6:=Lib.hid st6
   rw [← hcc]
   clear st6 hcc
   go_wp2_with fail
   refine (must_any 4 c _).mono ?_
   rintro e w7 ⟨hS,rfl⟩
   rcases hS with ⟨rfl,rfl⟩ | ⟨rfl,rfl⟩
   rotate_left
   ·exact ⟨rfl,(HNO.out HCK.out).1,ST6.out.s.gr,fun h => ((HNO.out HCK.out).2 h).elim⟩
   clear HNO HEE HUS HSQ hst1 hst2 q0
   have hkN:(k:Int) + 1 < (x.ni:Int) + 1:=by have:=HNI.out;omega
   have k0:(0:Int) ≤ (k:Int) + 1:=by omega
   go_wp2_with fail
   refine wp_region_bar2 (CkN w p b off cap x ds orp own sl un q (k + 1) g y) 7 (by kernel_rfl) (by kernel_rfl) (by kernel_rfl) (by kernel_rfl) (by kernel_rfl) (by decide) (ST6.out.below (Below.refl _ _).drew) ?_
   clear ST6
   simp only [List.take_succ_cons,List.take_zero,List.drop_succ_cons,List.drop_zero]
   intro hne
   have hc:∀ z:InW (CkN w p b off cap x ds orp own sl un q (k + 1) g y),z.W.cell? ⟨p,11,none⟩ = some (.slice (some ⟨q,0,none⟩) (x.ni + 1) (x.ni + 1)):=fun z => z.h.s.a.cell (i:=11) rfl
   first | go_big_quiet_skip | (go_big_quiet_want;go_big_quiet_op;go_big_quiet_on)
   first | go_big_quiet_skip | (go_big_quiet_want;go_big_quiet_op;go_big_quiet_on)
   first | go_big_quiet_skip | (go_big_quiet_want;go_big_quiet_op;go_big_quiet_on)
   first | go_big_quiet_skip | (go_big_quiet_want;go_big_quiet_op;go_big_quiet_on)
   first | go_big_quiet_skip | (go_big_quiet_want;go_big_quiet_op;go_big_quiet_on)
   refine q_load rfl 63 (.tmp 7) rfl g 0 rfl y.arr.toList _ (fun W h => At.range (show At W g 63 y.arr from h.y)) Tryz.underlying63 rfl (by kernel_rfl) ?_
   refine wpQuiet_frame (by simp only [Act.put,List.setIfInBounds_toArray,List.set_cons_succ,List.set_cons_zero];exact rfl) ?_
   first | go_big_quiet_skip | (go_big_quiet_want;go_big_quiet_op;go_big_quiet_on)
   refine wpQuiet_nil ?_
   intro w8 h8
   have st8:=h8.out
   clear h8 hne hc
   have hth:w8.there q ((k + 1) * 16) y.arr.toList.length:=st8.s.r.there (k:=k + 1) (by have:=HNI.out;omega)
   have ST9:Hid (CkI w p b off cap x ds orp own sl un q (k + 1 + 1) (w8.setCells q ((k + 1) * 16) y.arr.toList)):=by
    have:=st8.s.next (k:=k + 1) (by have:=HNI.out;omega) hpq hbq HQ.out
    rw [HY.out];exact this
   have HALL:Hid (∀ t,t < k + 1 → x.ck4 (t + 1) = true):=fun t ht => by
    rcases Nat.lt_succ_iff_lt_or_eq.1 ht with h | h
    ·exact HPP.out t h
    ·rw [h];exact HCK.out
   clear st8
   go_wp2_with (first | (refine wp_storeMid rfl 63 (.tmp 86) (.tmp 85) rfl q ((k + 1) * 16) y.arr.toList rfl rfl hth (info_inoL y) (ino_oneL y) ?_))
   intro w9 hw9
   rw [← hw9.out] at ST9
   clear hw9 hth
   go_wp2_with fail
   go_roundw
   case rel => first | exact ⟨k + 1,by omega,by first | rfl | go_num,HALL.out,ST9.out⟩ | ((repeat apply Exists.intro);exact ⟨⟨k + 1,by omega,by first | rfl | go_num,HALL.out,ST9.out⟩,rfl⟩)
   case measure => simp [intOf];omega
  ·obtain rfl:k = N:=by omega
   have ST:=Lib.hid st
   clear st
   go_wp2_with fail
   refine bodyPost_end (results_none rfl _ _ _) rfl ⟨.inl ⟨by rw [← HN.out];exact (allB_iff _ _).2 HPP.out,rfl⟩,ST.out.gr,fun _ => ⟨q,HQ.out,ST.out.a,ST.out.r.congr (f':=inoF x) fun t ht => by unfold inoK inoF;rw [if_pos (by have:=HN.out;omega)]⟩⟩
end Go.Proofs.YtphamecphmbipaaGreatDoor
