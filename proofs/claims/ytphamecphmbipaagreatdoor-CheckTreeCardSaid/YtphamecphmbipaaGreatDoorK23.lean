/- Texts of this claim, merged. -/
import Derived.Test.YtphamecphmbipaaGreatDoorK22
set_option maxRecDepth 100000
set_option maxHeartbeats 16000000

namespace Go.Proofs.YtphamecphmbipaaGreatDoor
open Go.RowKit
set_option linter.unusedVariables false
structure CkX (w:World) (p b off:Nat) (x:Im) (cs:Array Value) (q:Nat) (W:World):Prop where
 a:At W p 105 cs
 i:RSeg W b off 256 x.n (bkF x.L)
 r:RArr W q 63 16 (x.ni + 1) (inoF x)
 bl:b < W.heap.size
 gr:w.grownBy W (some p)
section
variable {w:World} {p b off:Nat} {x:Im} {cs:Array Value} {q:Nat} {W W':World}
theorem CkX.below (h:CkX w p b off x cs q W) (hb:Below W.heap.size W W'):CkX w p b off x cs q W' :=
 ⟨h.a.below hb h.a.lt,RSeg.below h.i hb h.bl,h.r.below hb,Nat.lt_of_lt_of_le h.bl hb.size,grown_trans h.gr (grown_below hb)⟩
theorem CkX.only (h:CkX w p b off x cs q W) {g:Nat} (ho:Only g W W') (h1:p ≠ g) (h2:b ≠ g) (h3:q ≠ g) (h4:w.heap.size ≤ g):CkX w p b off x cs q W' :=
 ⟨h.a.only ho h1,RSeg.only h.i ho h2,h.r.only ho h3,by rw [ho.size];exact h.bl,
  ⟨ho.os.trans h.gr.os,ho.tape.trans h.gr.tape,ho.output.trans h.gr.output,by rw [ho.size];exact h.gr.size,fun j hj hne => (ho.block j (by omega)).trans (h.gr.block j hj hne)⟩⟩
theorem CkX.setF (h:CkX w p b off x cs q W) (j:Nat) (v:Value) (hb:b ≠ p) (hq:q ≠ p):CkX w p b off x (cs.setIfInBounds j v) q (W.setCell ⟨p,j,none⟩ v):=by
 have ho:Only p W (W.setCell ⟨p,j,none⟩ v):=Only.setCell W ⟨p,j,none⟩ v
 exact ⟨h.a.set1 j v,RSeg.only h.i ho hb,h.r.only ho hq,by rw [ho.size];exact h.bl,grown_trans h.gr (grown_only ho)⟩
theorem CkX.ino (h:CkX w p b off x cs q W) {t:Nat} (ht:t < x.ni + 1) (j:Nat) {v:Value} (hv:(x.ino t).arr[j]? = some v):W.cell? ⟨q,t * 16 + j,none⟩ = some v:=by
 have:=h.r.seg t ht j v (by show (x.ino t).arr.toList[j]? = some v;rw [Array.getElem?_toList];exact hv)
 rwa [Nat.zero_add] at this
end
theorem ckRoot_any (p b off cap:Nat) (x:Im) (ds orp own sl un:Value) (q:Nat) (w:World) (hn:1 ≤ x.ni) (h:CkX w p b off x (XC b off cap x ds (.slice (some ⟨q,0,none⟩) (x.ni + 1) (x.ni + 1)) orp own sl un) q w) :
  Calls Tryz.prog 79 #[.pointer (some ⟨p,0,none⟩)] w fun e w' => Said ((x.ino 1).kind == 2) 5 e ∧ w = w':=by
 have c11:w.cell? ⟨p,11,none⟩ = some (.slice (some ⟨q,0,none⟩) (x.ni + 1) (x.ni + 1)):=h.a.cell (i:=11) rfl
 have ck:=h.ino (t:=1) (by omega) 0 (v:=.int .u8 (x.ino 1).kind) rfl
 have hlt:(1:Int) < (x.ni:Int) + 1:=by omega
 obtain ⟨c,hc⟩:∃ c,c = ((x.ino 1).kind == 2):=⟨_,rfl⟩
 have HC:=Lib.hid hc
 rw [← hc]
 rw [Nat.one_mul,Nat.add_zero] at ck
 clear h hc
 go_enter Tryz.func79,Tryz.ntmps79
 go_wp2_with fail
 rw [← HC.out]
 refine (must_any 5 c _).mono ?_
 rintro e w1 ⟨hS,rfl⟩
 rcases hS with ⟨rfl,rfl⟩ | ⟨rfl,rfl⟩
 ·go_wp2_with fail
  refine bodyPost_end (results_none rfl _ _ _) rfl ⟨.inl ⟨rfl,rfl⟩,rfl⟩
 ·exact ⟨rfl,.inr ⟨rfl,rfl⟩,rfl⟩
theorem info_int18:(Tryz.prog.info? 3).map (fun i => (i.zero,i.size,i.bytes)) = some (some (.int .i64 0),1,8):=by kernel_rfl
theorem run_mkints (n:Nat) (hn:n ≤ 2048) (W:World):(Instr.makeSlice 37 (.int .i64 (n:Int)) (.int .i64 (n:Int))).run Tryz.prog W = .ok (.slice (some ⟨W.heap.size,0,none⟩) n n) (W.alloc (.cells (madeCells #[.int .i64 0] (n * 1)) 3)) :=
 run_mkrow (P:=Tryz.prog) 37 3 (.int .i64 0) 1 8 Tryz.underlying37 info_int18 .i64 .i64 n (by omega) (by omega) W
def mkF (m:Nat → Bool) (i:Nat):List Value:=[.int .i64 (if m i then 1 else 0)]
theorem mkF_len (m:Nat → Bool) (i:Nat):(mkF m i).length = 1:=rfl
theorem RArr.int1 {W:World} {g n:Nat} {T:TypeId} {f:Nat → List Value} (h:RArr W g T 1 n f) {i:Nat} (hi:i < n) {v:Value} (hv:f i = [v]):W.cell? ⟨g,i,none⟩ = some v:=by
 have:=h.seg i hi 0 v (by rw [hv];rfl)
 rwa [Nat.zero_add,Nat.mul_one,Nat.add_zero] at this
theorem RArr.soft {W:World} {g n m:Nat} {T:TypeId} {f:Nat → List Value} (h:RArr W g T m n f) (j:Nat):W.frozen? ⟨g,j,none⟩ = false:=by
 obtain ⟨cs,h1,_⟩:=h.blk
 exact soft_of_heap h1 j
def isZ0:Option Value → Bool
 | some (.int .i64 n) => n == 0
 | _ => false
def zer (W:World) (g n:Nat):Nat:=cntB (fun i => isZ0 (W.cell? ⟨g,i,none⟩)) n
theorem zer_mk {W:World} {g n:Nat} {T:TypeId} {m:Nat → Bool} (h:RArr W g T 1 n (mkF m)):zer W g n + cntB m n = n:=by
 have key:∀ k,k ≤ n → cntB (fun i => isZ0 (W.cell? ⟨g,i,none⟩)) k + cntB m k = k:=by
  intro k
  induction k with
  | zero => intro _;rfl
  | succ k ih =>
   intro hk
   have hc:=h.int1 (show k < n by omega) (v:=.int .i64 (if m k then 1 else 0)) rfl
   rw [cntB,cntB]
   have:=ih (by omega)
   cases hm:m k with
   | true =>
    rw [hm,if_pos rfl] at hc
    have:isZ0 (W.cell? ⟨g,k,none⟩) = false:=by rw [hc];rfl
    rw [this,if_pos rfl,if_neg (by decide)];omega
   | false =>
    rw [hm,if_neg (by decide)] at hc
    have:isZ0 (W.cell? ⟨g,k,none⟩) = true:=by rw [hc];rfl
    rw [this,if_pos rfl,if_neg (by decide)];omega
 exact key n (Nat.le_refl _)
structure CkO (w:World) (p b off:Nat) (x:Im) (cs:Array Value) (q g:Nat) (m:Nat → Bool) (W:World):Prop where
 s:CkX w p b off x cs q W
 o:RArr W g 3 1 (x.ni + 1) (mkF m)
theorem CkO.mark {w:World} {p b off:Nat} {x:Im} {cs:Array Value} {q g:Nat} {m:Nat → Bool} {W:World} (h:CkO w p b off x cs q g m W) {t:Nat} (ht:t < x.ni + 1) (h1:p ≠ g) (h2:b ≠ g) (h3:q ≠ g) (h4:w.heap.size ≤ g) :
  CkO w p b off x cs q g (updN m t true) (W.setCell ⟨g,t,none⟩ (.int .i64 1)):=by
 have ho:Only g W (W.setCell ⟨g,t,none⟩ (.int .i64 1)):=Only.setCell W ⟨g,t,none⟩ _
 refine ⟨h.s.only ho h1 h2 h3 h4,?_⟩
 have:=h.o.cellset (k:=t) (j:=0) ht (by decide) (fun i => mkF_len m i) (.int .i64 1)
 rw [Nat.mul_one,Nat.add_zero] at this
 refine this.congr fun i hi => ?_
 unfold mkF updN
 by_cases e:i = t
 ·rw [if_pos e,if_pos e];rfl
 ·rw [if_neg e,if_neg e]
namespace Im
def ok6 (x:Im):Bool:=match x.orph with
 | none => false
 | some m => allB (fun t => x.ck6 m (t + 1)) x.ni
end Im
def OrpPost (w:World) (p b off cap:Nat) (x:Im) (ds own sl un:Value) (q:Nat) (e:Ending) (w':World):Prop :=
 Said x.ok6 6 e ∧ w.grownBy w' (some p) ∧ (x.ok6 = true → ∃ m g,x.orph = some m ∧ w.heap.size ≤ g ∧ At w' p 105 (XC b off cap x ds (.slice (some ⟨q,0,none⟩) (x.ni + 1) (x.ni + 1)) (.slice (some ⟨g,0,none⟩) (x.ni + 1) (x.ni + 1)) own sl un) ∧ RArr w' g 3 1 (x.ni + 1) (mkF m))
theorem OrpPost.no {w:World} {p b off cap:Nat} {x:Im} {ds own sl un:Value} {q:Nat} {w':World} (h:x.ok6 = false) (hg:w.grownBy w' (some p)):OrpPost w p b off cap x ds own sl un q (.panicked (brk 6)) w' :=
 ⟨.inr ⟨h,rfl⟩,hg,fun e => by rw [h] at e;cases e⟩
theorem ckOrphans_any (p b off cap:Nat) (x:Im) (hx:x.Ok) (ds own sl un:Value) (q:Nat) (w:World) (hbp:b ≠ p) (hqp:q ≠ p) (h:CkX w p b off x (XC b off cap x ds (.slice (some ⟨q,0,none⟩) (x.ni + 1) (x.ni + 1)) (.slice none 0 0) own sl un) q w) :
  Calls Tryz.prog 80 #[.pointer (some ⟨p,0,none⟩)] w fun e w' => OrpPost w p b off cap x ds own sl un q e w':=by
 have HX:=Lib.hid hx
 have hni:x.ni ≤ 256:=gi_bd hx.may
 have ho9:(x.o:Int) < 4294967296:=by have:=hx.o;omega
 have c11:w.cell? ⟨p,11,none⟩ = some (.slice (some ⟨q,0,none⟩) (x.ni + 1) (x.ni + 1)):=h.a.cell (i:=11) rfl
 obtain ⟨g,hg⟩:∃ g,g = w.heap.size:=⟨_,rfl⟩
 have hpg:p ≠ g:=by rw [hg];exact Nat.ne_of_lt h.a.lt
 have hbg:b ≠ g:=by rw [hg];exact Nat.ne_of_lt h.bl
 have hqg:q ≠ g:=by rw [hg];exact Nat.ne_of_lt h.r.lt
 have hmk:(Instr.makeSlice 37 (.int .i64 ((x.ni:Int) + 1)) (.int .i64 ((x.ni:Int) + 1))).run Tryz.prog w = .ok (.slice (some ⟨g,0,none⟩) (x.ni + 1) (x.ni + 1)) (w.alloc (.cells (madeCells #[.int .i64 0] ((x.ni + 1) * 1)) 3)):=by
  rw [hg];exact run_mkints (x.ni + 1) (by omega) w
 obtain ⟨W1,hW1⟩:∃ W1,W1 = w.alloc (.cells (madeCells #[.int .i64 0] ((x.ni + 1) * 1)) 3):=⟨_,rfl⟩
 have hb1:Below w.heap.size w W1:=by rw [hW1];exact (Below.refl _ _).alloc (Nat.le_refl _) _
 have hr1:RArr W1 g 3 1 (x.ni + 1) (mkF fun _ => false):=by
  rw [hW1,hg];exact (RArr.made (m:=1) w #[.int .i64 0] rfl (by omega) (x.ni + 1) _)
 have h1:=h.below hb1
 have ST1:Hid (CkO w p b off x (XC b off cap x ds (.slice (some ⟨q,0,none⟩) (x.ni + 1) (x.ni + 1)) (.slice (some ⟨g,0,none⟩) (x.ni + 1) (x.ni + 1)) own sl un) q g (fun _ => false) (W1.setCell ⟨p,12,none⟩ (.slice (some ⟨g,0,none⟩) (x.ni + 1) (x.ni + 1)))) :=
  ⟨h1.setF 12 _ hbp hqp,hr1.only (Only.setCell W1 ⟨p,12,none⟩ _) (show g ≠ p from fun e => hpg e.symm)⟩
 have c12:W1.cell? ⟨p,12,none⟩ = some (.slice none 0 0):=h1.a.cell (i:=12) rfl
 have f12:W1.frozen? ⟨p,12,none⟩ = false:=soft_of_heap h1.a 12
 have cO:(W1.setCell ⟨p,12,none⟩ (.slice (some ⟨g,0,none⟩) (x.ni + 1) (x.ni + 1))).cell? ⟨p,5,none⟩ = some (.int .u32 (x.o:Int)):=ST1.out.s.a.cell (i:=5) rfl
 have hgw:w.heap.size ≤ g:=by omega
 rw [← hW1] at hmk
 have HGW:=Lib.hid hgw
 obtain ⟨cs,hcs⟩:∃ cs,cs = XC b off cap x ds (.slice (some ⟨q,0,none⟩) (x.ni + 1) (x.ni + 1)) (.slice (some ⟨g,0,none⟩) (x.ni + 1) (x.ni + 1)) own sl un:=⟨_,rfl⟩
 have HCS:Hid (∀ W,At W p 105 cs → W.cell? ⟨p,11,none⟩ = some (.slice (some ⟨q,0,none⟩) (x.ni + 1) (x.ni + 1)) ∧ W.cell? ⟨p,12,none⟩ = some (.slice (some ⟨g,0,none⟩) (x.ni + 1) (x.ni + 1)) ∧ At W p 105 (XC b off cap x ds (.slice (some ⟨q,0,none⟩) (x.ni + 1) (x.ni + 1)) (.slice (some ⟨g,0,none⟩) (x.ni + 1) (x.ni + 1)) own sl un)):=fun W h => by
  rw [hcs] at h
  exact ⟨h.cell (i:=11) rfl,h.cell (i:=12) rfl,h⟩
 rw [← hcs] at ST1
 clear h h1 hb1 hr1 hW1 hx hg hgw hcs
 have ni0:(0:Int) ≤ (x.ni:Int) + 1:=by omega
 go_enter Tryz.func80,Tryz.ntmps80
 go_wp2_with fail
 clear c11 hmk c12 f12 cO
 go_loopw [2] (fun u wr => ∃ (t f:Nat) (m:Nat → Bool),u = .int .u32 (t:Int) ∧ t < 4294967296 ∧ x.orpF f t m = x.orph ∧ cntB m (x.ni + 1) + f = x.ni + 2 ∧ CkO w p b off x cs q g m wr) (fun _ wr => zer wr g (x.ni + 1))
 case atStart => exact ⟨x.o,x.ni + 2,fun _ => false,rfl,HX.out.o,rfl,by rw [cntB_low (u:=0) (Nat.zero_le _) (fun k _ => by simp)];omega,ST1.out⟩
 case round =>
  clear ST1
  obtain ⟨t,f,m,rfl,ht,hor,hcn,st⟩:=hrel
  have hcl:=cntB_le m (x.ni + 1)
  obtain ⟨f,rfl⟩:∃ f',f = f' + 1:=⟨f - 1,by omega⟩
  by_cases h0:t = 0
  ·subst h0
   have hm:x.orph = some m:=by rw [← hor,Im.orpF,if_pos rfl]
   have ST2:=Lib.hid st
   have HM:=Lib.hid hm
   have HOK:Hid (x.ok6 = allB (fun t => x.ck6 m (t + 1)) x.ni):=by show _ = _;unfold Im.ok6;rw [hm]
   clear hor hcn hcl ht st hm
   go_wp2_with fail
   go_loopw [3] (fun u wr => ∃ k:Nat,k ≤ x.ni ∧ u = .int .i64 ((k:Int) + 1) ∧ (∀ t,t < k → x.ck6 m (t + 1) = true) ∧ CkO w p b off x cs q g m wr) (fun u _ => x.ni + 1 - (intOf u).toNat)
   case atStart => exact ⟨0,Nat.zero_le _,rfl,fun t h => by omega,ST2.out⟩
   case round =>
    clear ST2
    obtain ⟨k,hk,rfl,hP,st⟩:=hrel
    have HPP:=Lib.hid hP
    clear hP
    obtain ⟨c11,c12,_⟩:=HCS.out _ st.s.a
    by_cases hlt:k < x.ni
    ·have hlt':(k:Int) + 1 < (x.ni:Int) + 1:=by omega
     have k0:(0:Int) ≤ (k:Int) + 1:=by omega
     have cO:=st.o.int1 (show k + 1 < x.ni + 1 by omega) (v:=.int .i64 (if m (k + 1) then 1 else 0)) rfl
     have cN:wr.cell? ⟨q,(k + 1) * 16 + 15,none⟩ = some (.int .u32 (x.ino (k + 1)).next):=st.s.ino (by omega) 15 rfl
     have cK:wr.cell? ⟨q,(k + 1) * 16,none⟩ = some (.int .u8 (x.ino (k + 1)).kind):=st.s.ino (t:=k + 1) (by omega) 0 rfl
     have cL:wr.cell? ⟨q,(k + 1) * 16 + 1,none⟩ = some (.int .i64 (x.ino (k + 1)).links):=st.s.ino (by omega) 1 rfl
     have HNO:Hid (x.ck6 m (k + 1) = false → ∀ W',w.grownBy W' (some p) → OrpPost w p b off cap x ds own sl un q (.panicked (brk 6)) W'):=fun h W' hg => .no (by rw [HOK.out];exact allB_no (p:=fun t => x.ck6 m (t + 1)) hlt h) hg
     have HCK:Hid (x.ck6 m (k + 1) = (m (k + 1) || ((x.ino (k + 1)).next == 0 && ((x.ino (k + 1)).kind != 1 || (x.ino (k + 1)).links != 0)))):=rfl
     have HALL:Hid (x.ck6 m (k + 1) = true → ∀ t,t < k + 1 → x.ck6 m (t + 1) = true):=fun hc t ht => by
      rcases Nat.lt_succ_iff_lt_or_eq.1 ht with h | h
      ·exact HPP.out t h
      ·rw [h];exact hc
     have ST:=Lib.hid st
     clear st HPP
     generalize x.ck6 m (k + 1) = ck at *
     generalize (x.ino (k + 1)).next = nx at *
     generalize (x.ino (k + 1)).kind = kd at *
     generalize (x.ino (k + 1)).links = lk at *
     cases hmk:m (k + 1) with
     | true =>
      have HC:Hid (ck = true):=by show _ = _;rw [HCK.out,hmk];rfl
      rw [hmk,if_pos rfl] at cO
      clear hmk HCK
      go_wp2_with fail
      go_roundw
      case rel => first | exact ⟨k + 1,by omega,by first | rfl | go_num,HALL.out HC.out,ST.out⟩ | ((repeat apply Exists.intro);exact ⟨⟨k + 1,by omega,by first | rfl | go_num,HALL.out HC.out,ST.out⟩,rfl⟩)
      case measure => simp [intOf];omega
     | false =>
      have HC:Hid (ck = (nx == 0 && (kd != 1 || lk != 0))):=by show _ = _;rw [HCK.out,hmk];rfl
      rw [hmk,if_neg (by decide)] at cO
      clear hmk HCK
      obtain ⟨c1,hc1⟩:∃ c,c = (nx == 0):=⟨_,rfl⟩
      have HC1:=Lib.hid hc1
      clear hc1
      go_wp2_with fail
      rw [← HC1.out]
      refine (must_any 6 c1 _).mono ?_
      rintro e w3 ⟨hS,rfl⟩
      rcases hS with ⟨rfl,rfl⟩ | ⟨rfl,rfl⟩
      rotate_left
      ·exact ⟨rfl,HNO.out (by rw [HC.out,← HC1.out];rfl) _ ST.out.s.gr⟩
      by_cases hk1:kd = 1
      ·have q1:(kd != 1) = false:=by simp [hk1]
       obtain ⟨c2,hc2⟩:∃ c,c = (lk != 0):=⟨_,rfl⟩
       have HC2:=Lib.hid hc2
       have HQ1:=Lib.hid q1
       clear hc2 hk1
       go_wp2_with fail
       rw [← HC2.out]
       refine (must_any 6 c2 _).mono ?_
       rintro e w3 ⟨hS,rfl⟩
       rcases hS with ⟨rfl,rfl⟩ | ⟨rfl,rfl⟩
       rotate_left
       ·exact ⟨rfl,HNO.out (by rw [HC.out,← HC1.out,← HC2.out,HQ1.out];rfl) _ ST.out.s.gr⟩
       have HF:Hid (ck = true):=by show _ = _;rw [HC.out,← HC1.out,← HC2.out];simp
       clear q1
       go_wp2_with fail
       go_roundw
       case rel => first | exact ⟨k + 1,by omega,by first | rfl | go_num,HALL.out HF.out,ST.out⟩ | ((repeat apply Exists.intro);exact ⟨⟨k + 1,by omega,by first | rfl | go_num,HALL.out HF.out,ST.out⟩,rfl⟩)
       case measure => simp [intOf];omega
      ·have q1:(kd != 1) = true:=by simp [hk1]
       have HQ1:=Lib.hid q1
       clear hk1
       go_wp2_with fail
       refine (must_yes 6 _).mono ?_
       rintro e w3 ⟨rfl,rfl⟩
       have HF:Hid (ck = true):=by show _ = _;rw [HC.out,← HC1.out,HQ1.out];rfl
       clear q1
       go_wp2_with fail
       go_roundw
       case rel => first | exact ⟨k + 1,by omega,by first | rfl | go_num,HALL.out HF.out,ST.out⟩ | ((repeat apply Exists.intro);exact ⟨⟨k + 1,by omega,by first | rfl | go_num,HALL.out HF.out,ST.out⟩,rfl⟩)
       case measure => simp [intOf];omega
    ·obtain rfl:k = x.ni:=by omega
     have ST:=Lib.hid st
     clear st
     go_wp2_with fail
     refine bodyPost_end (results_none rfl _ _ _) rfl ⟨.inl ⟨by rw [HOK.out];exact (allB_iff _ _).2 HPP.out,rfl⟩,ST.out.s.gr,fun _ => ⟨m,g,HM.out,HGW.out,(HCS.out _ ST.out.s.a).2.2,ST.out.o⟩⟩
  ·have q0:((t:Int) != 0) = true:=by simp;omega
   have t0:(0:Int) ≤ (t:Int):=by omega
   obtain ⟨c11,c12,_⟩:=HCS.out _ st.s.a
   have HNO:Hid (¬ (t ≤ x.ni ∧ m t = false ∧ (x.ino t).kind = 1) → ∀ W',w.grownBy W' (some p) → OrpPost w p b off cap x ds own sl un q (.panicked (brk 6)) W'):=fun h W' hg => .no (by unfold Im.ok6;rw [← hor,Im.orpF_no h0 h]) hg
   have HSTEP:Hid (t ≤ x.ni → m t = false → (x.ino t).kind = 1 → x.orpF f (x.ino t).next.toNat (updN m t true) = x.orph):=fun h1 h2 h3 => by rw [← hor,Im.orpF_step h0 h1 h2 h3]
   have HCN:=Lib.hid hcn
   have ST:=Lib.hid st
   clear hor hcn hcl st h0
   obtain ⟨c1,hc1⟩:∃ c,c = decide ((t:Int) < (x.ni:Int) + 1):=⟨_,rfl⟩
   have HC1:=Lib.hid hc1
   clear hc1
   go_wp2_with fail
   rw [← HC1.out]
   refine (must_any 6 c1 _).mono ?_
   rintro e w3 ⟨hS,rfl⟩
   rcases hS with ⟨rfl,rfl⟩ | ⟨rfl,rfl⟩
   rotate_left
   ·exact ⟨rfl,HNO.out (fun h => by have:=HC1.out;rw [eq_comm,decide_eq_false_iff_not] at this;omega) _ ST.out.s.gr⟩
   have hti:t ≤ x.ni:=by have:=HC1.out;rw [eq_comm,decide_eq_true_iff] at this;omega
   have hti':(t:Int) < (x.ni:Int) + 1:=by omega
   have cO:=ST.out.o.int1 (show t < x.ni + 1 by omega) (v:=.int .i64 (if m t then 1 else 0)) rfl
   cases hmt:m t with
   | true =>
    rw [hmt,if_pos rfl] at cO
    have HMT:=Lib.hid hmt
    clear hmt
    go_wp2_with fail
    refine (must_no 6 _).mono ?_
    rintro e w3 ⟨rfl,rfl⟩
    exact ⟨rfl,HNO.out (fun h => by rw [HMT.out] at h;cases h.2.1) _ ST.out.s.gr⟩
   | false =>
    rw [hmt,if_neg (by decide)] at cO
    have HMT:=Lib.hid hmt
    clear hmt
    have cK:wr.cell? ⟨q,t * 16,none⟩ = some (.int .u8 (x.ino t).kind):=ST.out.s.ino (t:=t) (by omega) 0 rfl
    obtain ⟨c2,hc2⟩:∃ c,c = ((x.ino t).kind == 1):=⟨_,rfl⟩
    have HC2:=Lib.hid hc2
    clear hc2
    go_wp2_with fail
    rw [← HC2.out]
    refine (must_any 6 c2 _).mono ?_
    rintro e w3 ⟨hS,rfl⟩
    rcases hS with ⟨rfl,rfl⟩ | ⟨rfl,rfl⟩
    rotate_left
    ·exact ⟨rfl,HNO.out (fun h => by have:=HC2.out;rw [h.2.2] at this;cases this) _ ST.out.s.gr⟩
    have hk1:(x.ino t).kind = 1:=by have:=HC2.out;rw [eq_comm,beq_iff_eq] at this;exact this
    have hnx:=(Im.ino_ok HX.out t).next
    have cN:wr.cell? ⟨q,t * 16 + 15,none⟩ = some (.int .u32 (x.ino t).next):=ST.out.s.ino (by omega) 15 rfl
    have fO:=ST.out.o.soft t
    have STN:Hid (CkO w p b off x cs q g (updN m t true) (wr.setCell ⟨g,t,none⟩ (.int .i64 1))):=ST.out.mark (by omega) hpg hbg hqg HGW.out
    have HS2:=Lib.hid (HSTEP.out hti HMT.out hk1)
    have HCS2:Hid (cntB (updN m t true) (x.ni + 1) = cntB m (x.ni + 1) + 1):=cntB_set (by omega) HMT.out
    have HZ:Hid (zer (wr.setCell ⟨g,t,none⟩ (.int .i64 1)) g (x.ni + 1) < zer wr g (x.ni + 1)):=by
     have z1:=zer_mk ST.out.o
     have z2:=zer_mk STN.out.o
     have z3:=HCS2.out
     have:cntB (updN m t true) (x.ni + 1) ≤ x.ni + 1:=cntB_le _ _
     show _ < _
     omega
    clear hk1
    generalize (x.ino t).next = nx at *
    go_wp2_with fail
    go_roundw
    case rel => first | exact ⟨nx.toNat,f,updN m t true,int_eq (by omega),by omega,HS2.out,by have:=HCN.out;have:=HCS2.out;omega,STN.out⟩ | ((repeat apply Exists.intro);exact ⟨⟨nx.toNat,f,updN m t true,int_eq (by omega),by omega,HS2.out,by have:=HCN.out;have:=HCS2.out;omega,STN.out⟩,rfl⟩)
    case measure => exact HZ.out
def ownF (o:Nat → Nat) (i:Nat):List Value:=[.int .i64 ((o i:Nat):Int)]
theorem ownF_len (o:Nat → Nat) (i:Nat):(ownF o i).length = 1:=rfl
structure CkT (w:World) (p b off:Nat) (x:Im) (cs:Array Value) (q g:Nat) (o:Nat → Nat) (W:World):Prop where
 s:CkX w p b off x cs q W
 o:RArr W g 3 1 x.n (ownF o)
section
variable {w:World} {p b off:Nat} {x:Im} {cs:Array Value} {q g:Nat} {o:Nat → Nat} {W W':World}
theorem CkT.below (h:CkT w p b off x cs q g o W) (hb:Below W.heap.size W W'):CkT w p b off x cs q g o W':=⟨h.s.below hb,h.o.below hb⟩
theorem CkT.set (h:CkT w p b off x cs q g o W) {v:Nat} (hv:v < x.n) (t:Nat) (h1:p ≠ g) (h2:b ≠ g) (h3:q ≠ g) (h4:w.heap.size ≤ g):CkT w p b off x cs q g (updN o v t) (W.setCell ⟨g,v,none⟩ (.int .i64 (t:Int))):=by
 have ho:Only g W (W.setCell ⟨g,v,none⟩ (.int .i64 (t:Int))):=Only.setCell W ⟨g,v,none⟩ _
 refine ⟨h.s.only ho h1 h2 h3 h4,?_⟩
 have:=h.o.cellset (k:=v) (j:=0) hv (by decide) (fun i => ownF_len o i) (.int .i64 (t:Int))
 rw [Nat.mul_one,Nat.add_zero] at this
 refine this.congr fun i hi => ?_
 unfold ownF updN
 by_cases e:i = v
 ·rw [if_pos e,if_pos e];rfl
 ·rw [if_neg e,if_neg e]
end
def PtrPost (w:World) (p b off:Nat) (x:Im) (cs:Array Value) (q g:Nat) (r:Option (Nat → Nat)) (e:Ending) (W':World):Prop :=
 (r = none ∧ e = .panicked (brk 7) ∧ w.grownBy W' (some p)) ∨ ∃ o',r = some o' ∧ e = .returned (.tuple #[]) ∧ CkT w p b off x cs q g o' W'
namespace Im
variable {x:Im}
theorem ptrF_0 (t l first en:Nat) (o:Nat → Nat):x.ptrF t l 0 first en o = some o:=ptrF_zero x t l first en o
theorem ptrF_no {t l p first en:Nat} {o:Nat → Nat} (h0:p ≠ 0) (h:¬ (first < min en 65536 ∧ x.data p = true ∧ o p = 0)):x.ptrF t l p first en o = none:=by
 cases l <;> rw [ptrF,if_neg h0,if_neg h]
theorem ptrF_l0 {t p first en:Nat} {o:Nat → Nat} (h0:p ≠ 0) (h:first < min en 65536 ∧ x.data p = true ∧ o p = 0):x.ptrF t 0 p first en o = some (updN o p t):=by
 rw [ptrF,if_neg h0,if_pos h]
theorem ptrF_l {t l p first en:Nat} {o:Nat → Nat} (h0:p ≠ 0) (h:first < min en 65536 ∧ x.data p = true ∧ o p = 0):x.ptrF t (l + 1) p first en o = foldO (fun k o => x.ptrF t l (x.wrd p k) (first + k * spn l) en o) 64 (updN o p t):=by
 rw [ptrF,if_neg h0,if_pos h]
theorem wrd_int {x:Im} (hx:x.Ok) (p k:Nat):((x.wrd p k:Nat):Int) = g32 (x.L p) (4 * k) ∧ x.wrd p k < 4294967296:=by
 have:=g32_bd (hx.byt p) (4 * k)
 unfold wrd
 omega
end Im
theorem run_blkAll18 (b off:Nat) (W:World):(Instr.sliceAt 32 (.pointer (some ⟨b,off,none⟩)) none none none).run Tryz.prog W = .ok (.slice (some ⟨b,off,none⟩) 256 256) W:=by kernel_rfl
theorem ckPtr_step (p b off cap:Nat) (x:Im) (hx:x.Ok) (ds orp sl un:Value) (q g:Nat) (w:World) (hpg:p ≠ g) (hbg:b ≠ g) (hqg:q ≠ g) (hgw:w.heap.size ≤ g) (t en:Nat) (ht:t < 100000) (hen:(en:Int) ≤ 9223372036854775807) (l:Nat) (hl:l ≤ 3)
  (ih:∀ l',l = l' + 1 → ∀ (v first:Nat) (o:Nat → Nat) (W:World),v < 4294967296 → first + Im.spn l' ≤ 1000000 → CkT w p b off x (XC b off cap x ds (.slice (some ⟨q,0,none⟩) (x.ni + 1) (x.ni + 1)) orp (.slice (some ⟨g,0,none⟩) x.n x.n) sl un) q g o W →
   Calls Tryz.prog 130 #[.pointer (some ⟨p,0,none⟩),.int .i64 (t:Int),.int .u32 (v:Int),.int .i64 (l':Int),.int .i64 (first:Int),.int .i64 (en:Int)] W fun e W' => PtrPost w p b off x (XC b off cap x ds (.slice (some ⟨q,0,none⟩) (x.ni + 1) (x.ni + 1)) orp (.slice (some ⟨g,0,none⟩) x.n x.n) sl un) q g (x.ptrF t l' v first en o) e W')
  (v first:Nat) (o:Nat → Nat) (W:World) (hv:v < 4294967296) (hf:first + Im.spn l ≤ 1000000) (h:CkT w p b off x (XC b off cap x ds (.slice (some ⟨q,0,none⟩) (x.ni + 1) (x.ni + 1)) orp (.slice (some ⟨g,0,none⟩) x.n x.n) sl un) q g o W) :
  Calls Tryz.prog 130 #[.pointer (some ⟨p,0,none⟩),.int .i64 (t:Int),.int .u32 (v:Int),.int .i64 (l:Int),.int .i64 (first:Int),.int .i64 (en:Int)] W fun e W' => PtrPost w p b off x (XC b off cap x ds (.slice (some ⟨q,0,none⟩) (x.ni + 1) (x.ni + 1)) orp (.slice (some ⟨g,0,none⟩) x.n x.n) sl un) q g (x.ptrF t l v first en o) e W':=by
 obtain ⟨cs,hcs⟩:∃ cs,cs = XC b off cap x ds (.slice (some ⟨q,0,none⟩) (x.ni + 1) (x.ni + 1)) orp (.slice (some ⟨g,0,none⟩) x.n x.n) sl un:=⟨_,rfl⟩
 have HCS:Hid (∀ W,At W p 105 cs → W.cell? ⟨p,0,none⟩ = some (.slice (some ⟨b,off,none⟩) x.n cap) ∧ W.cell? ⟨p,13,none⟩ = some (.slice (some ⟨g,0,none⟩) x.n x.n) ∧ XG p x.g x.s x.i x.j W):=fun W h => by
  rw [hcs] at h
  exact ⟨h.cell (i:=0) rfl,h.cell (i:=13) rfl,XG.of h⟩
 have HIH:=Lib.hid ih
 rw [← hcs] at h HIH ⊢
 clear hcs ih
 have HX:=Lib.hid hx
 have hn9:=hx.n_le
 have ST:=Lib.hid h
 clear h hx
 by_cases hv0:v = 0
 ·subst hv0
  have FIN:Hid (PtrPost w p b off x cs q g (x.ptrF t l 0 first en o) (.returned (.tuple #[])) W):=.inr ⟨o,Im.ptrF_0 ..,rfl,ST.out⟩
  go_enter Tryz.func130,Tryz.ntmps130
  go_wp2_with fail
  refine bodyPost_ret (results_none rfl _ _ _) rfl FIN.out
 have q0:((v:Int) == 0) = false:=by simp;omega
 have HV0:Hid (v ≠ 0):=hv0
 have HNO:Hid (¬ (first < min en 65536 ∧ x.data v = true ∧ o v = 0) → ∀ W',w.grownBy W' (some p) → PtrPost w p b off x cs q g (x.ptrF t l v first en o) (.panicked (brk 7)) W'):=fun h W' hg => .inl ⟨Im.ptrF_no hv0 h,rfl,hg⟩
 clear hv0
 go_enter Tryz.func130,Tryz.ntmps130
 go_wp2_with fail
 refine (must_any 7 (decide ((first:Int) < min (en:Int) 65536)) _).mono ?_
 rintro e w1 ⟨hS,rfl⟩
 rcases hS with ⟨hc1,rfl⟩ | ⟨hc1,rfl⟩
 rotate_left
 ·exact ⟨rfl,HNO.out (fun h => by rw [decide_eq_false_iff_not] at hc1;omega) _ ST.out.s.gr⟩
 have HC1:=Lib.hid (of_decide_eq_true hc1)
 clear hc1
 have c0:=(HCS.out _ ST.out.s.a).1
 have v0:(0:Int) ≤ (v:Int):=by omega
 have v9:(v:Int) < 4294967296:=by omega
 go_wp2_with fail
 refine (must_any 7 (decide (v < x.n)) _).mono ?_
 rintro e w1 ⟨hS,rfl⟩
 rcases hS with ⟨hc2,rfl⟩ | ⟨hc2,rfl⟩
 rotate_left
 ·exact ⟨rfl,HNO.out (fun h => by have:=of_decide_eq_false hc2;have h2:=h.2.1;unfold Im.data at h2;rw [Bool.and_eq_true,Bool.and_eq_true,decide_eq_true_eq,decide_eq_true_eq] at h2;omega) _ ST.out.s.gr⟩
 have hvn:v < x.n:=of_decide_eq_true hc2
 clear hc2
 have hvn':(v:Int) < (x.n:Int):=by omega
 have hg:=(HCS.out _ ST.out.s.a).2.2
 clear c0
 go_wp2_with (first | (refine wp_loadMid rfl 23 (.tmp 42) rfl p 6 (gcells x.g x.s x.i x.j).toList _ rfl hg Tryz.underlying23 rfl (by kernel_rfl) ?_))
 refine (what2_any x.g x.s x.i x.j v (by omega) (by omega) _).mono ?_
 rintro e w2 ⟨K,A,B,rfl,hK,hb2⟩
 have hKD:=what_data HX.out hvn hK
 have ST2:=Lib.hid (ST.out.below hb2)
 clear hg ST hb2 hK
 cases hd:x.data v with
 | false =>
  rw [hd] at hKD
  have HD:=Lib.hid hd
  clear hd
  go_wp2_with fail
  refine (must_no 7 _).mono ?_
  rintro e w3 ⟨rfl,rfl⟩
  exact ⟨rfl,HNO.out (fun h => by rw [HD.out] at h;cases h.2.1) _ ST2.out.s.gr⟩
 | true =>
 rw [hd] at hKD
 have HD:=Lib.hid hd
 clear hd
 have c13:=(HCS.out _ ST2.out.s.a).2.1
 have cO:=ST2.out.o.int1 hvn (v:=.int .i64 ((o v:Nat):Int)) rfl
 obtain ⟨ov,hov⟩:∃ z:Int,z = ((o v:Nat):Int):=⟨_,rfl⟩
 have HOV:=Lib.hid hov
 rw [← hov] at cO
 clear hov
 obtain ⟨c3,hc3⟩:∃ c,c = (ov == 0):=⟨_,rfl⟩
 have HC3:=Lib.hid hc3
 clear hc3
 go_wp2_with fail
 rw [← HC3.out]
 refine (must_any 7 c3 _).mono ?_
 rintro e w3 ⟨hS,rfl⟩
 rcases hS with ⟨rfl,rfl⟩ | ⟨rfl,rfl⟩
 rotate_left
 ·exact ⟨rfl,HNO.out (fun h => by have:=HC3.out;rw [HOV.out,h.2.2] at this;cases this) _ ST2.out.s.gr⟩
 have HYES:Hid (first < min en 65536 ∧ x.data v = true ∧ o v = 0):=by
  have h1:=HC1.out
  have h3:=HC3.out
  rw [eq_comm,beq_iff_eq] at h3
  have:=HOV.out
  exact ⟨by omega,HD.out,by omega⟩
 have fO:=ST2.out.o.soft v
 have STS:=Lib.hid (ST2.out.set hvn t hpg hbg hqg hgw)
 clear HNO HC1 HC3
 by_cases hl0:l = 0
 ·subst hl0
  have FIN:Hid (PtrPost w p b off x cs q g (x.ptrF t 0 v first en o) (.returned (.tuple #[])) (w2.setCell ⟨g,v,none⟩ (.int .i64 (t:Int)))):=.inr ⟨_,Im.ptrF_l0 HV0.out HYES.out,rfl,STS.out⟩
  go_wp2_with fail
  refine bodyPost_ret (results_none rfl _ _ _) rfl FIN.out
 obtain ⟨l,rfl⟩:∃ l',l = l' + 1:=⟨l - 1,by omega⟩
 have HRES:Hid (x.ptrF t (l + 1) v first en o = foldO (fun k o => x.ptrF t l (x.wrd v k) (first + k * Im.spn l) en o) 64 (updN o v t)):=Im.ptrF_l HV0.out HYES.out
 have HI2:=Lib.hid (HIH.out l rfl)
 have q1:((l:Int) + 1 == 0) = false:=by simp;omega
 have hs64:Im.spn (l + 1) = 64 * Im.spn l:=by unfold Im.spn;rw [Nat.pow_succ,Nat.mul_comm]
 rw [hs64] at hf
 clear HIH HYES hl0 hs64
 go_wp2_with fail
 refine (pthSpan_any l (by omega) _).mono ?_
 rintro e w3 ⟨rfl,rfl⟩
 obtain ⟨sp,hsp⟩:∃ sp,sp = Im.spn l:=⟨_,rfl⟩
 have HSP:=Lib.hid hsp
 rw [← hsp] at hf ⊢
 clear hsp fO cO c13
 go_wp2_with fail
 go_loopw [74] (fun u wr => ∃ (k:Nat) (o':Nat → Nat),k ≤ 64 ∧ u = .int .i64 (k:Int) ∧ foldO (fun k o => x.ptrF t l (x.wrd v k) (first + k * Im.spn l) en o) k (updN o v t) = some o' ∧ CkT w p b off x cs q g o' wr) (fun u _ => 64 - (intOf u).toNat)
 case atStart => exact ⟨0,updN o v t,Nat.zero_le _,rfl,rfl,STS.out⟩
 case round =>
  clear STS ST2
  obtain ⟨k,o',hk,rfl,hfo,st⟩:=hrel
  have HFO:=Lib.hid hfo
  have ST:=Lib.hid st
  clear hfo st
  by_cases hlt:k < 64
  ·have hlt':(k:Int) < 64:=by omega
   have k0:(0:Int) ≤ (k:Int):=by omega
   have c0:=(HCS.out _ ST.out.s.a).1
   have hseg:Seg wr b (off + v * 256) 256 (x.L v):=fun i hi => ST.out.s.i v hvn i _ (by show (Ks .u8 256 (x.L v))[i]? = _;exact Ks_get _ _ _ _ hi)
   have hsl:=fun W => run_blkAll18 b (off + v * 256) W
   have e4:(4 * (k:Int)).toNat = 4 * k:=by omega
   have HW:Hid (g32 (x.L v) (4 * k) = ((x.wrd v k:Nat):Int)):=(Im.wrd_int HX.out v k).1.symm
   have hw9:=(Im.wrd_int HX.out v k).2
   obtain ⟨F,hF⟩:∃ F,F = first + k * Im.spn l:=⟨_,rfl⟩
   obtain ⟨M,hM⟩:∃ M,M = k * sp:=⟨_,rfl⟩
   have hmi:(k:Int) * (sp:Int) = (M:Int):=by rw [hM];exact (Int.natCast_mul _ _).symm
   have hm9:M + sp ≤ 64 * sp:=by
    have:(k + 1) * sp ≤ 64 * sp:=Nat.mul_le_mul_right _ hlt
    rw [Nat.succ_mul] at this;omega
   have hfi:(first:Int) + (M:Int) = (F:Int):=by rw [hF,← HSP.out,← hM];omega
   have hf9:F + Im.spn l ≤ 1000000:=by rw [hF,← HSP.out,← hM];omega
   have HF:=Lib.hid hF
   have HF9:=Lib.hid hf9
   have f9:(F:Int) ≤ 1000000:=by omega
   have f0:(0:Int) ≤ (F:Int):=by omega
   have HSG:=Lib.hid hseg
   have HE4:=Lib.hid e4
   clear hF hM hf9 hseg e4
   go_wp2_with fail
   refine (get32_yes b (off + v * 256) 256 256 (4 * (k:Int)) (x.L v) _ (by decide) (by omega) (by omega) HSG.out (HX.out.byt v)).mono ?_
   rintro e w4 ⟨rfl,rfl⟩
   rw [HE4.out,HW.out]
   obtain ⟨vw,hvw⟩:∃ z,z = x.wrd v k:=⟨_,rfl⟩
   have HVW:=Lib.hid hvw
   rw [← hvw] at hw9 ⊢
   clear hvw c0 hsl HE4 HW HSG
   go_wp2_with fail
   refine (HI2.out vw F o' _ hw9 HF9.out ST.out).mono ?_
   rintro e w5 hp
   have hfk:x.ptrF t l vw F en o' = (fun k o => x.ptrF t l (x.wrd v k) (first + k * Im.spn l) en o) k o':=by rw [HVW.out,HF.out]
   rw [hfk] at hp
   rcases hp with ⟨hn,rfl,hgr⟩ | ⟨o2,hs,rfl,hst⟩
   ·exact ⟨rfl,.inl ⟨by rw [HRES.out];exact foldO_none HFO.out hn hlt,rfl,hgr⟩⟩
   have HN:=Lib.hid (foldO_next HFO.out hs)
   have ST5:=Lib.hid hst
   clear hs hst hfk ST HFO hmi hm9 hfi f9 f0
   go_wp2_with fail
   go_roundw
   case rel => first | exact ⟨k + 1,o2,by omega,by first | rfl | go_num,HN.out,ST5.out⟩ | ((repeat apply Exists.intro);exact ⟨⟨k + 1,o2,by omega,by first | rfl | go_num,HN.out,ST5.out⟩,rfl⟩)
   case measure => simp [intOf];omega
  ·obtain rfl:k = 64:=by omega
   go_wp2_with fail
   refine bodyPost_end (results_none rfl _ _ _) rfl (.inr ⟨o',by rw [HRES.out];exact HFO.out,rfl,ST.out⟩)
theorem ckPtr_any (p b off cap:Nat) (x:Im) (hx:x.Ok) (ds orp sl un:Value) (q g:Nat) (w:World) (hpg:p ≠ g) (hbg:b ≠ g) (hqg:q ≠ g) (hgw:w.heap.size ≤ g) (t en:Nat) (ht:t < 100000) (hen:(en:Int) ≤ 9223372036854775807):∀ (l:Nat),l ≤ 3 →
  ∀ (v first:Nat) (o:Nat → Nat) (W:World),v < 4294967296 → first + Im.spn l ≤ 1000000 → CkT w p b off x (XC b off cap x ds (.slice (some ⟨q,0,none⟩) (x.ni + 1) (x.ni + 1)) orp (.slice (some ⟨g,0,none⟩) x.n x.n) sl un) q g o W →
  Calls Tryz.prog 130 #[.pointer (some ⟨p,0,none⟩),.int .i64 (t:Int),.int .u32 (v:Int),.int .i64 (l:Int),.int .i64 (first:Int),.int .i64 (en:Int)] W fun e W' => PtrPost w p b off x (XC b off cap x ds (.slice (some ⟨q,0,none⟩) (x.ni + 1) (x.ni + 1)) orp (.slice (some ⟨g,0,none⟩) x.n x.n) sl un) q g (x.ptrF t l v first en o) e W'
 | 0,hl,v,first,o,W,hv,hf,h => ckPtr_step p b off cap x hx ds orp sl un q g w hpg hbg hqg hgw t en ht hen 0 hl (fun l' e => by omega) v first o W hv hf h
 | l + 1,hl,v,first,o,W,hv,hf,h => ckPtr_step p b off cap x hx ds orp sl un q g w hpg hbg hqg hgw t en ht hen (l + 1) hl (fun l' e v first o W => by
   obtain rfl:l' = l:=by omega
   exact ckPtr_any p b off cap x hx ds orp sl un q g w hpg hbg hqg hgw t en ht hen l' (by omega) v first o W) v first o W hv hf h
end Go.Proofs.YtphamecphmbipaaGreatDoor
