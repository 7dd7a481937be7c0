/- Texts of this claim, merged. -/
import Derived.Test.YtphamecphmbipaaGreatDoorK36
namespace Go.Proofs.YtphamecphmbipaaGreatDoor
open Go.RowKit
set_option linter.unusedVariables false
namespace Im
variable {x:Im}
theorem slotF_bd {z:Nat → Int} {k:Nat} {r r':List (List UInt8) × List Nat} (h:x.slotF z k r = some r') (hb:∀ d ∈ r.2,d ≤ x.ni):(∀ d ∈ r'.2,d ≤ x.ni) ∧ r'.2.length ≤ r.2.length + 1:=by
 unfold slotF at h
 split at h
 ·injection h with h;subst h;exact ⟨hb,by omega⟩
 split at h
 ·rename_i hc
  injection h with h;subst h
  refine ⟨fun d hd => ?_,by simp⟩
  rcases List.mem_append.1 hd with hd | hd
  ·exact hb d hd
  ·rw [List.mem_singleton.1 hd];exact hc.2.1
 ·cases h
theorem dirF_bd {t:Nat} {r:List (List UInt8) × List Nat} (h:x.dirF t = some r):(∀ d ∈ r.2,d ≤ x.ni) ∧ r.2.length ≤ (x.ino t).size.toNat / 256 * 8:=by
 unfold dirF at h
 refine foldO_inv (P:=fun k r => (∀ d ∈ r.2,d ≤ x.ni) ∧ r.2.length ≤ k * 8) h ⟨fun d hd => (by cases hd),Nat.le_refl _⟩ fun k a b hk ha hb => ?_
 unfold dirB' at hb
 split at hb
 ·have:=foldO_inv (P:=fun j r => (∀ d ∈ r.2,d ≤ x.ni) ∧ r.2.length ≤ a.2.length + j) hb ⟨ha.1,Nat.le_refl _⟩ fun j a' b' _ ha' hb' => by
   have h2:=slotF_bd hb' ha'.1
   exact ⟨h2.1,by omega⟩
  exact ⟨this.1,by omega⟩
 ·cases hb
theorem dirs_bd {u:Nat → List Nat} (hM:∀ t,1 ≤ t → t ≤ x.ni → (x.ino t).May) (h:x.dirs = some u) (t:Nat):(∀ d ∈ u t,d ≤ x.ni) ∧ (u t).length ≤ 600000:=by
 refine foldO_inv (P:=fun _ u => ∀ t,(∀ d ∈ u t,d ≤ x.ni) ∧ (u t).length ≤ 600000) h (fun _ => ⟨fun d hd => (by cases hd),Nat.zero_le _⟩) (fun k a b hk ha hb => ?_) t
 split at hb
 ·cases hd:x.dirF (k + 1) with
  | none => rw [hd] at hb;cases hb
  | some r =>
   rw [hd] at hb
   injection hb with hb
   subst hb
   intro t
   show (∀ d ∈ updN a (k + 1) r.2 t,d ≤ x.ni) ∧ (updN a (k + 1) r.2 t).length ≤ 600000
   by_cases e:t = k + 1
   ·have h2:=dirF_bd hd
    have h3:=(Ino.may_bd (hM (k + 1) (by omega) (by omega))).1
    rw [show updN a (k + 1) r.2 t = r.2 by unfold updN;rw [if_pos e]]
    exact ⟨h2.1,by omega⟩
   ·rw [show updN a (k + 1) r.2 t = a t by unfold updN;rw [if_neg e]]
    exact ha t
 ·injection hb with hb;exact hb ▸ ha
theorem nat_beq (a b:Nat):(a == b) = ((a:Int) == (b:Int)):=by
 rw [Bool.eq_iff_iff,beq_iff_eq,beq_iff_eq];omega
theorem cnt_le {u:Nat → List Nat} (h:∀ t,(u t).length ≤ 600000) (t:Nat):∀ n,cnt u t n ≤ n * 600000
 | 0 => Nat.le_refl _
 | n + 1 => by
  have h1:=cnt_le h t n
  have h2:(u n).count t ≤ (u n).length:=List.count_le_length
  have h3:=h n
  rw [cnt];omega
end Im
structure CkL (w:World) (p b off:Nat) (x:Im) (cs:Array Value) (q g:Nat) (c:Nat → Nat) (W:World):Prop where
 s:CkX w p b off x cs q W
 o:RArr W g 3 1 (x.ni + 1) (ownF c)
section
variable {w:World} {p b off:Nat} {x:Im} {cs:Array Value} {q g:Nat} {c:Nat → Nat} {W W':World}
theorem CkL.below (h:CkL w p b off x cs q g c W) (hb:Below W.heap.size W W'):CkL w p b off x cs q g c W':=⟨h.s.below hb,h.o.below hb⟩
theorem CkL.set (h:CkL w p b off x cs q g c W) {v:Nat} (hv:v < x.ni + 1) (t:Nat) (h1:p ≠ g) (h2:b ≠ g) (h3:q ≠ g) (h4:w.heap.size ≤ g):CkL w p b off x cs q g (updN c v t) (W.setCell ⟨g,v,none⟩ (.int .i64 (t:Int))):=by
 have ho:Only g W (W.setCell ⟨g,v,none⟩ (.int .i64 (t:Int))):=Only.setCell W ⟨g,v,none⟩ _
 refine ⟨h.s.only ho h1 h2 h3 h4,?_⟩
 have:=h.o.cellset (k:=v) (j:=0) hv (by decide) (fun i => ownF_len c i) (.int .i64 (t:Int))
 rw [Nat.mul_one,Nat.add_zero] at this
 refine this.congr fun i hi => ?_
 unfold ownF updN
 by_cases e:i = v
 ·rw [if_pos e,if_pos e];rfl
 ·rw [if_neg e,if_neg e]
end
theorem UnR.keep {w:World} {base ug n p:Nat} {u:Nat → List Nat} {cs:Array Value} (h:UnR w base ug n u) (hA:At w p 105 cs) (hup:ug ≠ p) :
  ∃ (a:Nat → Option Addr) (c:Nat → Nat),∀ W,w.grownBy W (some p) → ∀ t,t < n → W.cell? ⟨ug,t,none⟩ = some (.slice (a t) (u t).length (c t)) ∧ RRow W (a t) 1 (u t).length (nmF (u t)):=by
 obtain ⟨a,c,h1,h2⟩:=h
 refine ⟨a,c,fun W hg t ht => ⟨(h1.grown hg (fun e => by injection e with e;exact hup e)).int1 ht rfl,RMine.row (World.ownsRow.kept (h2 t ht) hg ?_) (nmF_len _)⟩⟩
 cases h3:(Value.slice (a t) (u t).length (c t)).ownBlock with
 | none => exact .inl rfl
 | some r => exact .inr (fun e => at_own_neS hA (h2 t ht) (by decide) (by rw [h3];exact e))
def LinkPost (w:World) (p b off cap:Nat) (x:Im) (ds orp own un:Value) (q:Nat) (u:Nat → List Nat) (e:Ending) (w':World):Prop :=
 w.grownBy w' (some p) ∧ Said (allB (fun t => x.ck10 u (t + 1)) x.ni) 10 e ∧ (allB (fun t => x.ck10 u (t + 1)) x.ni = true → ∃ sl,At w' p 105 (XC b off cap x ds (.slice (some ⟨q,0,none⟩) (x.ni + 1) (x.ni + 1)) orp own sl un))
theorem LinkPost.no {w:World} {p b off cap:Nat} {x:Im} {ds orp own un:Value} {q:Nat} {u:Nat → List Nat} {w':World} (h:allB (fun t => x.ck10 u (t + 1)) x.ni = false) (hg:w.grownBy w' (some p)):LinkPost w p b off cap x ds orp own un q u (.panicked (brk 10)) w' :=
 ⟨hg,.inr ⟨h,rfl⟩,fun e => by rw [h] at e;cases e⟩
set_option maxRecDepth 100000 in
set_option maxHeartbeats 16000000 in
theorem ckLinks_any (p b off cap:Nat) (x:Im) (hx:x.Ok) (ds orp own:Value) (q ug base:Nat) (u:Nat → List Nat) (hU:∀ t,(∀ d ∈ u t,d ≤ x.ni) ∧ (u t).length ≤ 600000) (w:World) (hbp:b ≠ p) (hqp:q ≠ p) (hup:ug ≠ p)
  (h:CkX w p b off x (XC b off cap x ds (.slice (some ⟨q,0,none⟩) (x.ni + 1) (x.ni + 1)) orp own (.slice none 0 0) (.slice (some ⟨ug,0,none⟩) (x.ni + 1) (x.ni + 1))) q w) (hu:UnR w base ug (x.ni + 1) u) :
  Calls Tryz.prog 84 #[.pointer (some ⟨p,0,none⟩)] w fun e w' => LinkPost w p b off cap x ds orp own (.slice (some ⟨ug,0,none⟩) (x.ni + 1) (x.ni + 1)) q u e w':=by
 have HX:=Lib.hid hx
 have hni:x.ni ≤ 256:=gi_bd hx.may
 have c11:w.cell? ⟨p,11,none⟩ = some (.slice (some ⟨q,0,none⟩) (x.ni + 1) (x.ni + 1)):=h.a.cell (i:=11) rfl
 obtain ⟨g,hg⟩:∃ g,g = w.heap.size:=⟨_,rfl⟩
 have hpg:p ≠ g:=by rw [hg];exact Nat.ne_of_lt h.a.lt
 have hbg:b ≠ g:=by rw [hg];exact Nat.ne_of_lt h.bl
 have hqg:q ≠ g:=by rw [hg];exact Nat.ne_of_lt h.r.lt
 have hmk:(Instr.makeSlice 37 (.int .i64 ((x.ni:Int) + 1)) (.int .i64 ((x.ni:Int) + 1))).run Tryz.prog w = .ok (.slice (some ⟨g,0,none⟩) (x.ni + 1) (x.ni + 1)) (w.alloc (.cells (madeCells #[.int .i64 0] ((x.ni + 1) * 1)) 3)):=by
  rw [hg];exact run_mkints (x.ni + 1) (by omega) w
 obtain ⟨W1,hW1⟩:∃ W1,W1 = w.alloc (.cells (madeCells #[.int .i64 0] ((x.ni + 1) * 1)) 3):=⟨_,rfl⟩
 have hb1:Below w.heap.size w W1:=by rw [hW1];exact (Below.refl _ _).alloc (Nat.le_refl _) _
 have hr1:RArr W1 g 3 1 (x.ni + 1) (ownF fun _ => 0):=by
  rw [hW1,hg];exact (RArr.made (m:=1) w #[.int .i64 0] rfl (by omega) (x.ni + 1) _)
 have h1:=h.below hb1
 have ST1:Hid (CkL w p b off x (XC b off cap x ds (.slice (some ⟨q,0,none⟩) (x.ni + 1) (x.ni + 1)) orp own (.slice (some ⟨g,0,none⟩) (x.ni + 1) (x.ni + 1)) (.slice (some ⟨ug,0,none⟩) (x.ni + 1) (x.ni + 1))) q g (fun _ => 0) (W1.setCell ⟨p,14,none⟩ (.slice (some ⟨g,0,none⟩) (x.ni + 1) (x.ni + 1)))) :=
  ⟨h1.setF 14 _ hbp hqp,hr1.only (Only.setCell W1 ⟨p,14,none⟩ _) (show g ≠ p from fun e => hpg e.symm)⟩
 have c14:W1.cell? ⟨p,14,none⟩ = some (.slice none 0 0):=h1.a.cell (i:=14) rfl
 have f14:W1.frozen? ⟨p,14,none⟩ = false:=soft_of_heap h1.a 14
 have c15:(W1.setCell ⟨p,14,none⟩ (.slice (some ⟨g,0,none⟩) (x.ni + 1) (x.ni + 1))).cell? ⟨p,15,none⟩ = some (.slice (some ⟨ug,0,none⟩) (x.ni + 1) (x.ni + 1)):=ST1.out.s.a.cell (i:=15) rfl
 have hgw:w.heap.size ≤ g:=by omega
 obtain ⟨ua,uc,huk⟩:=hu.keep h.a hup
 have HUN:=Lib.hid huk
 clear huk
 rw [← hW1] at hmk
 obtain ⟨cs,hcs⟩:∃ cs,cs = XC b off cap x ds (.slice (some ⟨q,0,none⟩) (x.ni + 1) (x.ni + 1)) orp own (.slice (some ⟨g,0,none⟩) (x.ni + 1) (x.ni + 1)) (.slice (some ⟨ug,0,none⟩) (x.ni + 1) (x.ni + 1)):=⟨_,rfl⟩
 have HCS:Hid (∀ W,At W p 105 cs → W.cell? ⟨p,11,none⟩ = some (.slice (some ⟨q,0,none⟩) (x.ni + 1) (x.ni + 1)) ∧ W.cell? ⟨p,14,none⟩ = some (.slice (some ⟨g,0,none⟩) (x.ni + 1) (x.ni + 1)) ∧ At W p 105 (XC b off cap x ds (.slice (some ⟨q,0,none⟩) (x.ni + 1) (x.ni + 1)) orp own (.slice (some ⟨g,0,none⟩) (x.ni + 1) (x.ni + 1)) (.slice (some ⟨ug,0,none⟩) (x.ni + 1) (x.ni + 1)))):=fun W h => by
  rw [hcs] at h
  exact ⟨h.cell (i:=11) rfl,h.cell (i:=14) rfl,h⟩
 rw [← hcs] at ST1
 have HGW:=Lib.hid hgw
 have HU:=Lib.hid hU
 clear h h1 hb1 hr1 hW1 hx hgw hcs hg hu hU
 go_enter Tryz.func84,Tryz.ntmps84
 go_wp2_with fail
 clear c11 hmk c14 f14 c15
 go_loopw [21] (fun v wr => ∃ k:Nat,k ≤ x.ni + 1 ∧ v = .int .i64 (k:Int) ∧ CkL w p b off x cs q g (fun t => Im.cnt u t k) wr) (fun v _ => x.ni + 1 - (intOf v).toNat)
 case atStart => exact ⟨0,Nat.zero_le _,rfl,ST1.out⟩
 case round =>
  clear ST1
  obtain ⟨k,hk,rfl,st⟩:=hrel
  have ST:=Lib.hid st
  clear st
  by_cases hlt:k < x.ni + 1
  ·have hlt':(k:Int) < (x.ni:Int) + 1:=by omega
   have k0:(0:Int) ≤ (k:Int):=by omega
   obtain ⟨cu,_⟩:=HUN.out _ ST.out.s.gr k hlt
   have hlen:=(HU.out k).2
   obtain ⟨n,hn⟩:∃ n,n = (u k).length:=⟨_,rfl⟩
   have HN:=Lib.hid hn
   obtain ⟨a,ha⟩:∃ a,a = ua k:=⟨_,rfl⟩
   obtain ⟨c,hc⟩:∃ c,c = uc k:=⟨_,rfl⟩
   have HRW:Hid (∀ W,w.grownBy W (some p) → RRow W a 1 n (nmF (u k))):=fun W hW => by rw [ha,hn];exact (HUN.out W hW k hlt).2
   rw [← hn] at hlen
   rw [← hn,← ha,← hc] at cu
   clear hn ha hc
   go_wp2_with fail
   clear cu
   go_loopw [27] (fun v wr => ∃ j:Nat,j ≤ n ∧ v = .int .i64 (j:Int) ∧ CkL w p b off x cs q g (fun t => Im.cnt u t k + ((u k).take j).count t) wr) (fun v _ => n - (intOf v).toNat)
   case atStart => exact ⟨0,Nat.zero_le _,rfl,by simpa using ST.out⟩
   case round =>
    clear ST
    obtain ⟨j,hj,rfl,st⟩:=hrel
    have ST:=Lib.hid st
    clear st
    by_cases hjn:j < n
    ·have hj':(j:Int) < (n:Int):=by omega
     have j0:(0:Int) ≤ (j:Int):=by omega
     obtain ⟨b',off',hae,hsg⟩:∃ b' off',a = some ⟨b',off',none⟩ ∧ RSeg wr b' off' 1 n (nmF (u k)):=by
      rcases HRW.out _ ST.out.s.gr with h | h
      ·omega
      ·exact h
     subst hae
     obtain ⟨d,hd⟩:∃ d,d = (u k).getD j 0:=⟨_,rfl⟩
     have cd:wr.cell? ⟨b',off' + j,none⟩ = some (.int .i64 (d:Int)):=by
      have:=hsg j hjn 0 (.int .i64 (((u k).getD j 0:Nat):Int)) rfl
      rw [← hd,Nat.mul_one,Nat.add_zero] at this;exact this
     have hdg:(u k)[j]? = some d:=by
      rw [hd,List.getD_eq_getElem?_getD,List.getElem?_eq_getElem (by rw [← HN.out];exact hjn)];rfl
     have hdn:d ≤ x.ni:=(HU.out k).1 d (List.mem_of_getElem? hdg)
     have hdn':(d:Int) < (x.ni:Int) + 1:=by omega
     have d0:(0:Int) ≤ (d:Int):=by omega
     obtain ⟨cv,hcv⟩:∃ cv,cv = Im.cnt u d k + ((u k).take j).count d:=⟨_,rfl⟩
     have cC:=ST.out.o.int1 (show d < x.ni + 1 by omega) (v:=.int .i64 (cv:Int)) (by rw [hcv];rfl)
     have hcv9:(cv:Int) ≤ 1000000000:=by
      have h1:=Im.cnt_le (fun t => (HU.out t).2) d k
      have h2:((u k).take j).count d ≤ ((u k).take j).length:=List.count_le_length
      have h3:((u k).take j).length ≤ (u k).length:=by rw [List.length_take];omega
      have h4:=(HU.out k).2
      omega
     have cv0:(0:Int) ≤ (cv:Int):=by omega
     have fC:=ST.out.o.soft d
     obtain ⟨c14,_⟩:=(HCS.out _ ST.out.s.a).2
     have STN:=ST.out.set (v:=d) (by omega) (cv + 1) hpg hbg hqg HGW.out
     rw [show ((cv + 1:Nat):Int) = (cv:Int) + 1 by omega] at STN
     have hfun:updN (fun t => Im.cnt u t k + ((u k).take j).count t) d (cv + 1) = fun t => Im.cnt u t k + ((u k).take (j + 1)).count t:=by
      funext t
      rw [List.take_add_one,hdg,List.count_append]
      unfold updN
      by_cases e:t = d
      ·subst e;rw [if_pos rfl,hcv];simp;omega
      ·rw [if_neg e]
       have:(Option.some d).toList.count t = 0:=by simp [List.count_cons];omega
       rw [this];rfl
     rw [hfun] at STN
     have STN:=Lib.hid STN
     clear hsg hd hdg hcv hfun
     go_wp2_with fail
     go_roundw
     case rel => first | exact ⟨j + 1,by omega,by first | rfl | go_num,STN.out⟩ | ((repeat apply Exists.intro);exact ⟨⟨j + 1,by omega,by first | rfl | go_num,STN.out⟩,rfl⟩)
     case measure => simp [intOf] <;> omega
    ·obtain rfl:j = n:=by omega
     have STN:Hid (CkL w p b off x cs q g (fun t => Im.cnt u t (k + 1)) wr):=by
      have:=ST.out
      rw [HN.out,List.take_length] at this
      exact this
     go_wp2_with fail
     go_roundw
     case rel => first | exact ⟨k + 1,by omega,by first | rfl | go_num,STN.out⟩ | ((repeat apply Exists.intro);exact ⟨⟨k + 1,by omega,by first | rfl | go_num,STN.out⟩,rfl⟩)
     case measure => simp [intOf] <;> omega
  ·obtain rfl:k = x.ni + 1:=by omega
   have HCL:Hid (∀ t,Im.cnt u t (x.ni + 1) ≤ 257 * 600000):=fun t => Nat.le_trans (Im.cnt_le (fun t => (HU.out t).2) t _) (Nat.mul_le_mul_right _ (by omega))
   go_wp2_with fail
   go_loopw [6] (fun v wr => ∃ k:Nat,k ≤ x.ni ∧ v = .int .i64 ((k:Int) + 1) ∧ (∀ t,t < k → x.ck10 u (t + 1) = true) ∧ CkL w p b off x cs q g (fun t => Im.cnt u t (x.ni + 1)) wr) (fun v _ => x.ni + 1 - (intOf v).toNat)
   case atStart => exact ⟨0,Nat.zero_le _,rfl,fun t h => by omega,ST.out⟩
   case round =>
    clear ST
    obtain ⟨k,hk,rfl,hP,st⟩:=hrel
    have HPP:=Lib.hid hP
    have ST:=Lib.hid st
    clear hP st
    obtain ⟨c11,c14,_⟩:=HCS.out _ ST.out.s.a
    by_cases hlt:k < x.ni
    ·have hlt':(k:Int) + 1 < (x.ni:Int) + 1:=by omega
     have k0:(0:Int) ≤ (k:Int) + 1:=by omega
     have cK:wr.cell? ⟨q,(k + 1) * 16,none⟩ = some (.int .u8 (x.ino (k + 1)).kind):=ST.out.s.ino (t:=k + 1) (by omega) 0 rfl
     have cL:wr.cell? ⟨q,(k + 1) * 16 + 1,none⟩ = some (.int .i64 (x.ino (k + 1)).links):=ST.out.s.ino (t:=k + 1) (by omega) 1 rfl
     obtain ⟨cv,hcv⟩:∃ cv,cv = Im.cnt u (k + 1) (x.ni + 1):=⟨_,rfl⟩
     have cC:=ST.out.o.int1 (show k + 1 < x.ni + 1 by omega) (v:=.int .i64 (cv:Int)) (by rw [hcv];rfl)
     have HCK:Hid (x.ck10 u (k + 1) = if k + 1 = 1 then cv == 0 else if (x.ino (k + 1)).kind = 2 then cv == 1 else if (x.ino (k + 1)).kind = 1 then (cv:Int) == (x.ino (k + 1)).links else true):=by rw [hcv];rfl
     obtain ⟨kd,hkd⟩:∃ kd,kd = (x.ino (k + 1)).kind:=⟨_,rfl⟩
     obtain ⟨lk,hlk⟩:∃ lk,lk = (x.ino (k + 1)).links:=⟨_,rfl⟩
     rw [← hkd] at cK HCK
     rw [← hlk] at cL HCK
     have HNO:Hid (x.ck10 u (k + 1) = false → ∀ W',w.grownBy W' (some p) → LinkPost w p b off cap x ds orp own (.slice (some ⟨ug,0,none⟩) (x.ni + 1) (x.ni + 1)) q u (.panicked (brk 10)) W'):=fun h W' hg => .no (allB_no (p:=fun t => x.ck10 u (t + 1)) hlt h) hg
     have HAL:Hid (x.ck10 u (k + 1) = true → ∀ t,t < k + 1 → x.ck10 u (t + 1) = true):=fun hc t ht => by
      rcases Nat.lt_succ_iff_lt_or_eq.1 ht with h | h
      ·exact HPP.out t h
      ·rw [h];exact hc
     have HLK:Hid (∀ z:InW (CkL w p b off x cs q g (fun t => Im.cnt u t (x.ni + 1))),z.W.cell? ⟨g,k + 1,none⟩ = some (.int .i64 (cv:Int)) ∧ z.W.cell? ⟨q,(k + 1) * 16 + 1,none⟩ = some (.int .i64 lk)):=fun z => ⟨z.h.o.int1 (by omega) (by rw [hcv];rfl),by rw [hlk];exact z.h.s.ino (t:=k + 1) (by omega) 1 rfl⟩
     clear hcv hkd hlk
     by_cases hk1:k = 0
     ·have q0:((k:Int) + 1 == 1) = true:=by simp;omega
      have HC2:Hid (x.ck10 u (k + 1) = ((cv:Int) == 0)):=by show _ = _;rw [HCK.out,if_pos (by omega)];exact Im.nat_beq cv 0
      clear hk1 cK cL
      go_wp2_with fail
      refine (must_any 10 ((cv:Int) == 0) _).mono ?_
      rintro e w3 ⟨hS,rfl⟩
      rcases hS with ⟨hc,rfl⟩ | ⟨hc,rfl⟩
      rotate_left
      ·exact ⟨rfl,HNO.out (HC2.out.trans hc) _ ST.out.s.gr⟩
      have HF:=Lib.hid (HAL.out (HC2.out.trans hc))
      clear hc
      go_wp2_with fail
      go_roundw
      case rel => first | exact ⟨k + 1,by omega,by first | rfl | go_num,HF.out,ST.out⟩ | ((repeat apply Exists.intro);exact ⟨⟨k + 1,by omega,by first | rfl | go_num,HF.out,ST.out⟩,rfl⟩)
      case measure => simp [intOf] <;> omega
     have q0:((k:Int) + 1 == 1) = false:=by simp;omega
     by_cases hk2:kd = 2
     ·have q2:(kd == 2) = true:=by simp [hk2]
      have HC2:Hid (x.ck10 u (k + 1) = ((cv:Int) == 1)):=by show _ = _;rw [HCK.out,if_neg (by omega),if_pos hk2];exact Im.nat_beq cv 1
      clear hk1 cL hk2
      go_wp2_with fail
      refine (must_any 10 ((cv:Int) == 1) _).mono ?_
      rintro e w3 ⟨hS,rfl⟩
      rcases hS with ⟨hc,rfl⟩ | ⟨hc,rfl⟩
      rotate_left
      ·exact ⟨rfl,HNO.out (HC2.out.trans hc) _ ST.out.s.gr⟩
      have HF:=Lib.hid (HAL.out (HC2.out.trans hc))
      clear hc
      go_wp2_with fail
      go_roundw
      case rel => first | exact ⟨k + 1,by omega,by first | rfl | go_num,HF.out,ST.out⟩ | ((repeat apply Exists.intro);exact ⟨⟨k + 1,by omega,by first | rfl | go_num,HF.out,ST.out⟩,rfl⟩)
      case measure => simp [intOf] <;> omega
     have q2:(kd == 2) = false:=by simp [hk2]
     by_cases hk3:kd = 1
     rotate_left
     ·have q3:(kd == 1) = false:=by simp [hk3]
      have HF:=Lib.hid (HAL.out (by rw [HCK.out,if_neg (by omega),if_neg hk2,if_neg hk3]))
      clear hk1 cL hk2 hk3
      go_wp2_with fail
      go_roundw
      case rel => first | exact ⟨k + 1,by omega,by first | rfl | go_num,HF.out,ST.out⟩ | ((repeat apply Exists.intro);exact ⟨⟨k + 1,by omega,by first | rfl | go_num,HF.out,ST.out⟩,rfl⟩)
      case measure => simp [intOf] <;> omega
     have q3:(kd == 1) = true:=by simp [hk3]
     have HC2:Hid (x.ck10 u (k + 1) = ((cv:Int) == lk)):=by show _ = _;rw [HCK.out,if_neg (by omega),if_neg hk2,if_pos hk3]
     clear hk1 cL hk2 hk3
     go_wp2_with fail
     refine wp_region_bar2 (CkL w p b off x cs q g (fun t => Im.cnt u t (x.ni + 1))) 16 (by kernel_rfl) (by kernel_rfl) (by kernel_rfl) (by kernel_rfl) (by kernel_rfl) (by decide) (ST.out.below (Below.refl _ _).drew) ?_
     clear ST c11 c14
     simp only [List.take_succ_cons,List.take_zero,List.drop_succ_cons,List.drop_zero]
     intro hne
     have hc11:∀ z:InW (CkL w p b off x cs q g (fun t => Im.cnt u t (x.ni + 1))),z.W.cell? ⟨p,11,none⟩ = some (.slice (some ⟨q,0,none⟩) (x.ni + 1) (x.ni + 1)):=fun z => (HCS.out _ z.h.s.a).1
     have hc14:∀ z:InW (CkL w p b off x cs q g (fun t => Im.cnt u t (x.ni + 1))),z.W.cell? ⟨p,14,none⟩ = some (.slice (some ⟨g,0,none⟩) (x.ni + 1) (x.ni + 1)):=fun z => (HCS.out _ z.h.s.a).2.1
     have hcg:∀ z:InW (CkL w p b off x cs q g (fun t => Im.cnt u t (x.ni + 1))),z.W.cell? ⟨g,k + 1,none⟩ = some (.int .i64 (cv:Int)):=fun z => (HLK.out z).1
     have hcl:∀ z:InW (CkL w p b off x cs q g (fun t => Im.cnt u t (x.ni + 1))),z.W.cell? ⟨q,(k + 1) * 16 + 1,none⟩ = some (.int .i64 lk):=fun z => (HLK.out z).2
     repeat (first | go_big_quiet_skip | (go_big_quiet_want;go_big_quiet_op;go_big_quiet_on))
     refine wpQuiet_nil ?_
     intro w6 h6
     have ST6:=Lib.hid h6.out
     clear h6 hne hc11 hc14 hcg hcl
     go_wp2_with fail
     refine (must_any 10 ((cv:Int) == lk) _).mono ?_
     rintro e w3 ⟨hS,rfl⟩
     rcases hS with ⟨hc,rfl⟩ | ⟨hc,rfl⟩
     rotate_left
     ·exact ⟨rfl,HNO.out (HC2.out.trans hc) _ ST6.out.s.gr⟩
     have HF:=Lib.hid (HAL.out (HC2.out.trans hc))
     clear hc
     go_wp2_with fail
     go_roundw
     case rel => first | exact ⟨k + 1,by omega,by first | rfl | go_num,HF.out,ST6.out⟩ | ((repeat apply Exists.intro);exact ⟨⟨k + 1,by omega,by first | rfl | go_num,HF.out,ST6.out⟩,rfl⟩)
     case measure => simp [intOf] <;> omega
    ·obtain rfl:k = x.ni:=by omega
     go_wp2_with fail
     refine bodyPost_end (results_none rfl _ _ _) rfl ⟨ST.out.s.gr,.inl ⟨(allB_iff _ _).2 HPP.out,rfl⟩,fun _ => ⟨_,(HCS.out _ ST.out.s.a).2.2⟩⟩
namespace Im
def lstO {σ:Type} (g:Nat → σ → Option σ):List Nat → σ → Option σ
 | [],s => some s
 | c :: l,s => (g c s).bind (lstO g l)
theorem lstO_app {σ:Type} (g:Nat → σ → Option σ) (a b:List Nat) (s:σ):lstO g (a ++ b) s = (lstO g a s).bind (lstO g b):=by
 induction a generalizing s with
 | nil => rfl
 | cons c l ih =>
  rw [List.cons_append,lstO,lstO]
  cases g c s with
  | none => rfl
  | some s1 => exact ih s1
structure WkS where
 met:Nat → Nat
 left:Nat
variable (x:Im)
def meet (c:Nat) (s:WkS):WkS:={ s with met:=updN s.met c (s.met c + 1) }
def dirW (u:Nat → List Nat):Nat → Nat → WkS → Option WkS
 | 0,_,_ => none
 | f + 1,t,s => if s.left = 0 then none else lstO (fun c s => if (x.ino c).kind = 2 then dirW u f c (meet c s) else some (meet c s)) (u t) { s with left:=s.left - 1 }
theorem meet_met (c c':Nat) (s:WkS):(meet c s).met c' = if c' = c then s.met c + 1 else s.met c':=rfl
structure Gst where
 pr:Nat → Nat
 ent:Nat → Bool
def cntP (u:Nat → List Nat) (pr:Nat → Nat) (c:Nat):Nat → Nat
 | 0 => 0
 | n + 1 => cntP u pr c n + ((u n).take (pr n)).count c
variable {x}
theorem cntP_le (u:Nat → List Nat) (pr:Nat → Nat) (c:Nat):∀ n,cntP u pr c n ≤ cnt u c n
 | 0 => Nat.le_refl _
 | n + 1 => by
  have h1:=cntP_le u pr c n
  have h2:((u n).take (pr n)).count c ≤ (u n).count c:=(List.take_sublist _ _).count_le c
  rw [cntP,cnt];omega
theorem cntP_congr {u:Nat → List Nat} {pr pr':Nat → Nat} {c:Nat}:∀ {n:Nat},(∀ p,p < n → pr p = pr' p) → cntP u pr c n = cntP u pr' c n
 | 0,_ => rfl
 | n + 1,h => by rw [cntP,cntP,cntP_congr (n:=n) fun p hp => h p (by omega),h n (by omega)]
theorem cntP_full {u:Nat → List Nat} {pr:Nat → Nat} {c:Nat}:∀ {n:Nat},(∀ p,p < n → (u p).length ≤ pr p) → cntP u pr c n = cnt u c n
 | 0,_ => rfl
 | n + 1,h => by rw [cntP,cnt,cntP_full (n:=n) fun p hp => h p (by omega),List.take_of_length_le (h n (by omega))]
theorem cntP_step {u:Nat → List Nat} {pr:Nat → Nat} {t k c:Nat} (hk:pr t = k) (hc:(u t)[k]? = some c) (c':Nat):∀ {n:Nat},t < n → cntP u (updN pr t (k + 1)) c' n = cntP u pr c' n + if c = c' then 1 else 0
 | 0,h => by omega
 | n + 1,h => by
  rw [cntP,cntP]
  by_cases e:t = n
  ·subst e
   have e1:cntP u (updN pr t (k + 1)) c' t = cntP u pr c' t:=cntP_congr fun p hp => by unfold updN;rw [if_neg (by omega)]
   have e2:updN pr t (k + 1) t = k + 1:=by unfold updN;rw [if_pos rfl]
   rw [e1,e2,hk,List.take_add_one,hc,List.count_append]
   simp only [Option.toList_some,List.count_singleton]
   by_cases e3:c = c'
   ·rw [if_pos e3,if_pos (by simp [e3])];omega
   ·rw [if_neg e3,if_neg (by simp [e3])];omega
  ·have e2:updN pr t (k + 1) n = pr n:=by unfold updN;rw [if_neg (fun e' => e e'.symm)]
   rw [cntP_step hk hc c' (by omega),e2];omega
theorem cntP_mem {u:Nat → List Nat} {pr:Nat → Nat} {p c:Nat} (hc:c ∈ (u p).take (pr p)):∀ {n:Nat},p < n → 1 ≤ cntP u pr c n
 | 0,h => by omega
 | n + 1,h => by
  rw [cntP]
  by_cases e:p = n
  ·subst e
   have:=List.count_pos_iff.2 hc
   omega
  ·have:=cntP_mem hc (n:=n) (by omega);omega
structure Lists (x:Im) (u:Nat → List Nat):Prop where
 one:∀ c,2 ≤ c → c ≤ x.ni → (x.ino c).kind = 2 → cnt u c (x.ni + 1) = 1
 root:cnt u 1 (x.ni + 1) = 0
 mem:∀ p c,c ∈ u p → 1 ≤ c ∧ c ≤ x.ni ∧ (x.ino c).kind ≠ 0
 dir:∀ p,u p ≠ [] → p ≤ x.ni
structure Winv (x:Im) (u:Nat → List Nat) (d:Nat) (s:WkS) (g:Gst):Prop where
 m:∀ c,s.met c = cntP u g.pr c (x.ni + 1)
 z:∀ p,g.ent p = false → g.pr p = 0
 e:∀ c,2 ≤ c → (x.ino c).kind = 2 → (g.ent c = true ↔ 1 ≤ s.met c)
 l:s.left + cntB g.ent (x.ni + 1) = x.ni + d
 d:∀ c,g.ent c = true → (x.ino c).kind = 2 ∧ c ≤ x.ni
 r:g.ent 1 = true
theorem ent_lt {u:Nat → List Nat} {d:Nat} {s:WkS} {g:Gst} (h:Winv x u d s g):cntB g.ent (x.ni + 1) ≤ x.ni:=by
 have h0:g.ent 0 = false:=by
  cases e:g.ent 0 with
  | false => rfl
  | true =>
   have:=(h.d 0 e).1
   rw [show x.ino 0 = Ino.nil by unfold ino;rw [if_neg (by omega)]] at this
   exact absurd this (by decide)
 have key:∀ n,cntB g.ent (n + 1) ≤ n:=fun n => by
  induction n with
  | zero => rw [cntB,cntB,h0];decide
  | succ n ih => rw [cntB];split <;> omega
 exact key _
structure Wmono (u:Nat → List Nat) (t:Nat) (g g':Gst):Prop where
 kp:∀ p,p ≠ t → g.ent p = true → g'.pr p = g.pr p
 up:∀ p,g.ent p = true → g'.ent p = true
 nw:∀ p,g'.ent p = true → g.ent p = false → g'.pr p = (u p).length
theorem kind_le {u:Nat → List Nat} {t:Nat} (h:(x.ino t).kind = 2):1 ≤ t ∧ t ≤ x.ni:=by
 unfold ino at h
 split at h
 ·assumption
 ·exact absurd h (by decide)
theorem loop_ok {u:Nat → List Nat} (hL:Lists x u) (f:Nat)
  (ih:∀ (t:Nat) (s:WkS) (g:Gst),Winv x u 2 s g → g.ent t = true → g.pr t = 0 → x.ni + 1 < f + cntB g.ent (x.ni + 1) → ∃ s' g',x.dirW u f t s = some s' ∧ Winv x u 1 s' g' ∧ g'.pr t = (u t).length ∧ Wmono u t g g')
  {t:Nat} (ht:t ≤ x.ni):∀ (l pre:List Nat) (s:WkS) (g:Gst),u t = pre ++ l → Winv x u 1 s g → g.ent t = true → g.pr t = pre.length → x.ni + 1 < f + 1 + cntB g.ent (x.ni + 1) →
  ∃ s' g',lstO (fun c s => if (x.ino c).kind = 2 then x.dirW u f c (meet c s) else some (meet c s)) l s = some s' ∧ Winv x u 1 s' g' ∧ g'.pr t = (u t).length ∧ Wmono u t g g'
 | [],pre,s,g,hu,h,he,hp,hf => ⟨s,g,rfl,h,by rw [hp,hu,List.append_nil],⟨fun _ _ _ => rfl,fun _ h => h,fun p h1 h2 => by rw [h1] at h2;cases h2⟩⟩
 | c :: l,pre,s,g,hu,h,he,hp,hf => by
  rw [lstO]
  have hc:(u t)[pre.length]? = some c:=by rw [hu,List.getElem?_append_right (Nat.le_refl _),Nat.sub_self];rfl
  have hcm:c ∈ u t:=List.mem_of_getElem? hc
  obtain ⟨c1,c2,c3⟩:=hL.mem t c hcm
  have hm1:∀ c',(meet c s).met c' = cntP u (updN g.pr t (pre.length + 1)) c' (x.ni + 1):=fun c' => by
   rw [cntP_step hp hc c' (by omega),← h.m]
   show (if c' = c then s.met c + 1 else s.met c') = _
   by_cases e:c' = c
   ·rw [if_pos e,if_pos e.symm,e]
   ·rw [if_neg e,if_neg (Ne.symm e)];rfl
  have hne1:c ≠ 1:=fun e => by
   have h1:(meet c s).met c = _:=hm1 c
   have h2:=cntP_le u (updN g.pr t (pre.length + 1)) c (x.ni + 1)
   rw [e,hL.root] at h2
   rw [e] at h1
   have h3:(meet 1 s).met 1 = s.met 1 + 1:=(meet_met 1 1 s).trans (if_pos rfl)
   omega
  have hent:∀ p,g.ent p = false → p ≠ t:=fun p hp e => by rw [e,he] at hp;cases hp
  by_cases hk:(x.ino c).kind = 2
  ·rw [if_pos hk]
   have hmc:(meet c s).met c = s.met c + 1:=(meet_met c c s).trans (if_pos rfl)
   have h0:s.met c = 0:=by
    have h1:=hm1 c
    have h2:=cntP_le u (updN g.pr t (pre.length + 1)) c (x.ni + 1)
    rw [hL.one c (by omega) c2 hk] at h2
    omega
   have hec:g.ent c = false:=by
    cases e:g.ent c with
    | false => rfl
    | true => have:=(h.e c (by omega) hk).1 e;omega
   have hct:c ≠ t:=hent c hec
   have hcnt:cntB (updN g.ent c true) (x.ni + 1) = cntB g.ent (x.ni + 1) + 1:=cntB_set (by omega) hec
   have w2:Winv x u 2 (meet c s) ⟨updN g.pr t (pre.length + 1),updN g.ent c true⟩:=by
    refine ⟨hm1,fun p hp' => ?_,fun c' h1 h2 => ?_,?_,fun c' h' => ?_,?_⟩
    ·dsimp only at hp' ⊢
     unfold updN at hp'
     split at hp'
     ·cases hp'
     ·unfold updN
      rw [if_neg (hent p hp')]
      exact h.z p hp'
    ·dsimp only
     unfold updN
     by_cases e:c' = c
     ·rw [if_pos e,e]
      exact ⟨fun _ => by rw [hmc];omega,fun _ => rfl⟩
     ·rw [if_neg e]
      have:(meet c s).met c' = s.met c':=(meet_met c c' s).trans (if_neg e)
      rw [this]
      exact h.e c' h1 h2
    ·show s.left + cntB (updN g.ent c true) (x.ni + 1) = _
     rw [hcnt];have:=h.l;omega
    ·dsimp only at h'
     unfold updN at h'
     split at h'
     ·rename_i e;exact e ▸ ⟨hk,c2⟩
     ·exact h.d c' h'
    ·dsimp only
     unfold updN
     rw [if_neg (Ne.symm hne1)];exact h.r
   obtain ⟨s2,g2,e2,v2,p2,o2⟩:=ih c (meet c s) ⟨updN g.pr t (pre.length + 1),updN g.ent c true⟩ w2 (by dsimp only;unfold updN;rw [if_pos rfl]) (by dsimp only;unfold updN;rw [if_neg hct];exact h.z c hec) (by show _ < f + cntB (updN g.ent c true) (x.ni + 1);rw [hcnt];omega)
   rw [e2]
   have het2:g2.ent t = true:=o2.up t (by dsimp only;unfold updN;split;rfl;exact he)
   have hpt2:g2.pr t = (pre ++ [c]).length:=by
    rw [o2.kp t (Ne.symm hct) (by dsimp only;unfold updN;split;rfl;exact he)]
    dsimp only;unfold updN;rw [if_pos rfl,List.length_append];rfl
   have hcnt2:cntB g.ent (x.ni + 1) ≤ cntB g2.ent (x.ni + 1):=by
    have key:∀ n,cntB g.ent n ≤ cntB g2.ent n:=fun n => by
     induction n with
     | zero => exact Nat.le_refl _
     | succ n ihn =>
      rw [cntB,cntB]
      cases e:g.ent n with
      | false => rw [if_neg (by decide)];omega
      | true =>
       have:g2.ent n = true:=o2.up n (by dsimp only;unfold updN;split;rfl;exact e)
       rw [this,if_pos rfl];omega
    exact key _
   obtain ⟨s3,g3,e3,v3,p3,o3⟩:=loop_ok hL f ih ht l (pre ++ [c]) s2 g2 (by rw [hu];simp) v2 het2 hpt2 (by omega)
   refine ⟨s3,g3,e3,v3,p3,⟨fun p hp' hpe => ?_,fun p hp' => o3.up p (o2.up p (by dsimp only;unfold updN;split;rfl;exact hp')),fun p h3 hpe => ?_⟩⟩
   ·have hpc:p ≠ c:=fun e => by rw [e,hec] at hpe;cases hpe
    have a1:(updN g.ent c true) p = true:=by unfold updN;rw [if_neg hpc];exact hpe
    rw [o3.kp p hp' (o2.up p a1),o2.kp p hpc a1]
    dsimp only;unfold updN;rw [if_neg hp']
   ·have hpt:=hent p hpe
    cases e:g2.ent p with
    | false => exact o3.nw p h3 e
    | true =>
     rw [o3.kp p hpt e]
     by_cases hpc:p = c
     ·rw [hpc,p2]
     ·exact o2.nw p e (by dsimp only;unfold updN;rw [if_neg hpc];exact hpe)
  ·rw [if_neg hk]
   have w1:Winv x u 1 (meet c s) ⟨updN g.pr t (pre.length + 1),g.ent⟩:=by
    refine ⟨hm1,fun p hp' => ?_,fun c' h1 h2 => ?_,h.l,h.d,h.r⟩
    ·dsimp only at hp' ⊢
     unfold updN
     rw [if_neg (hent p hp')]
     exact h.z p hp'
    ·have:(meet c s).met c' = s.met c':=by
      rw [meet_met,if_neg (fun e:c' = c => hk (e ▸ h2))]
     rw [this]
     exact h.e c' h1 h2
   obtain ⟨s3,g3,e3,v3,p3,o3⟩:=loop_ok hL f ih ht l (pre ++ [c]) (meet c s) ⟨updN g.pr t (pre.length + 1),g.ent⟩ (by rw [hu];simp) w1 he (by dsimp only;unfold updN;rw [if_pos rfl,List.length_append];rfl) hf
   refine ⟨s3,g3,e3,v3,p3,⟨fun p hp' hpe => ?_,o3.up,o3.nw⟩⟩
   rw [o3.kp p hp' hpe]
   dsimp only;unfold updN;rw [if_neg hp']
theorem dirW_ok {u:Nat → List Nat} (hL:Lists x u):∀ (f t:Nat) (s:WkS) (g:Gst),Winv x u 2 s g → g.ent t = true → g.pr t = 0 → x.ni + 1 < f + cntB g.ent (x.ni + 1) → ∃ s' g',x.dirW u f t s = some s' ∧ Winv x u 1 s' g' ∧ g'.pr t = (u t).length ∧ Wmono u t g g'
 | 0,t,s,g,h,he,hp,hf => by have:=ent_lt h;omega
 | f + 1,t,s,g,h,he,hp,hf => by
  rw [dirW]
  have h1:=ent_lt h
  have h2:=h.l
  rw [if_neg (by omega)]
  obtain ⟨s',g',r1,r2,r3,r4⟩:=loop_ok hL f (fun t s g => dirW_ok hL f t s g) (h.d t he).2 (u t) [] { s with left:=s.left - 1 } g rfl ⟨h.m,h.z,h.e,by show s.left - 1 + _ = _;omega,h.d,h.r⟩ he hp (by omega)
  exact ⟨s',g',r1,r2,r3,r4⟩
theorem popF_sub {u:Nat → List Nat} {S:Nat → Bool} (hS:∀ p,S p = true → ∀ c,c ∈ u p → (x.ino c).kind = 2 → S c = true):∀ (f:Nat) (c:(Nat → Bool) × List Nat),(∀ p,c.1 p = true → S p = true) → (∀ p,p ∈ c.2 → S p = true) → ∀ p,x.popF u f c p = true → S p = true
 | 0,c,h1,h2,p,hp => h1 p hp
 | f + 1,(c,[]),h1,h2,p,hp => h1 p hp
 | f + 1,(c,t :: r),h1,h2,p,hp => by
  rw [popF] at hp
  have key:∀ (l:List Nat) (a:(Nat → Bool) × List Nat),(∀ q,q ∈ l → (x.ino q).kind = 2 → S q = true) → (∀ p,a.1 p = true → S p = true) → (∀ p,p ∈ a.2 → S p = true) → (∀ p,(l.foldl x.come1 a).1 p = true → S p = true) ∧ ∀ p,p ∈ (l.foldl x.come1 a).2 → S p = true:=by
   intro l
   induction l with
   | nil => intro a _ a1 a2;exact ⟨a1,a2⟩
   | cons q l ih =>
    intro a hl a1 a2
    rw [List.foldl_cons]
    refine ih _ (fun q' h' => hl q' (List.mem_cons_of_mem _ h')) ?_ ?_
    ·intro p hp
     unfold come1 at hp
     split at hp
     ·rename_i hc
      unfold updN at hp
      dsimp only at hp
      split at hp
      ·rename_i e;exact e ▸ hl q (List.mem_cons_self ..) hc.1
      ·exact a1 p hp
     ·exact a1 p hp
    ·intro p hp
     unfold come1 at hp
     split at hp
     ·rename_i hc
      rcases List.mem_cons.1 hp with e | h
      ·exact e ▸ hl q (List.mem_cons_self ..) hc.1
      ·exact a2 p h
     ·exact a2 p hp
  obtain ⟨k1,k2⟩:=key (u t) (c,r) (fun q hq hk => hS t (h2 t (List.mem_cons_self ..)) q hq hk) h1 fun p hp => h2 p (List.mem_cons_of_mem _ hp)
  exact popF_sub hS f _ k1 k2 p hp
theorem walk_ok {m:Nat → Bool} {o:Nat → Nat} {u:Nat → List Nat} (h:Good x m o u) (hL:Lists x u) (hd:∀ p,u p ≠ [] → (x.ino p).kind = 2):∃ s',x.dirW u (x.ni + 2) 1 ⟨fun _ => 0,x.ni + 1⟩ = some s' ∧ ∀ c,s'.met c = cnt u c (x.ni + 1):=by
 have hk1:=h.c5
 have hn1:=(kind_le (u:=u) hk1).2
 have hz:∀ c n,cntP u (fun _ => 0) c n = 0:=fun c n => by
  induction n with
  | zero => rfl
  | succ n ih => rw [cntP,ih,List.take_zero];rfl
 have hc1:∀ n,cntB (fun c => decide (c = 1)) (n + 2) = 1:=fun n => by
  induction n with
  | zero => rfl
  | succ n ih => rw [cntB,ih,if_neg (by simp)]
 have hc1':cntB (fun c => decide (c = 1)) (x.ni + 1) = 1:=by
  obtain ⟨k,hk⟩:∃ k,x.ni = k + 1:=⟨x.ni - 1,by omega⟩
  rw [hk];exact hc1 k
 obtain ⟨s',g',e1,v,p1,o1⟩:=dirW_ok hL (x.ni + 2) 1 ⟨fun _ => 0,x.ni + 1⟩ ⟨fun _ => 0,fun c => decide (c = 1)⟩
  ⟨fun c => (hz c _).symm,fun _ _ => rfl,fun c hc _ => ⟨fun e => by simp at e;omega,fun e => by cases e⟩,by dsimp only;rw [hc1'],fun c hc => by simp at hc;exact hc ▸ ⟨hk1,hn1⟩,rfl⟩ rfl rfl (by dsimp only;rw [hc1'];omega)
 refine ⟨s',e1,fun c => ?_⟩
 have hfull:∀ p,g'.ent p = true → g'.pr p = (u p).length:=fun p hp => by
  by_cases e:p = 1
  ·rw [e];exact p1
  ·exact o1.nw p hp (by simp [e])
 have hclosed:∀ p,g'.ent p = true → ∀ c,c ∈ u p → (x.ino c).kind = 2 → g'.ent c = true:=fun p hp c hc hk => by
  obtain ⟨c1,c2,c3⟩:=hL.mem p c hc
  by_cases e:c = 1
  ·rw [e];exact v.r
  ·refine (v.e c (by omega) hk).2 ?_
   rw [v.m]
   exact cntP_mem (p:=p) (by rw [hfull p hp,List.take_length];exact hc) (by have:=(v.d p hp).2;omega)
 have hall:∀ p,(x.ino p).kind = 2 → g'.ent p = true:=fun p hk => by
  have h11:=h.c11 p (kind_le (u:=u) hk).2
  unfold ck11 at h11
  rw [hk] at h11
  have hr:x.reach u p = true:=by simpa using h11
  unfold reach at hr
  refine popF_sub hclosed _ _ (fun q hq => ?_) (fun q hq => ?_) p hr
  ·unfold updN at hq
   dsimp only at hq
   split at hq
   ·rename_i e;rw [e];exact v.r
   ·cases hq
  ·simp at hq;rw [hq];exact v.r
 rw [v.m]
 refine cntP_full fun p hp => ?_
 by_cases e:u p = []
 ·rw [e];exact Nat.zero_le _
 ·rw [hfull p (hall p (hd p e))];exact Nat.le_refl _
end Im
end Go.Proofs.YtphamecphmbipaaGreatDoor
