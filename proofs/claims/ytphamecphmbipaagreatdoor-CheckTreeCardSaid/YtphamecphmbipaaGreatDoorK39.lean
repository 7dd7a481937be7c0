/- Texts of this claim, merged. -/
import Derived.Test.YtphamecphmbipaaGreatDoorK38
namespace Go.Proofs.YtphamecphmbipaaGreatDoor
open Go.RowKit
set_option linter.unusedVariables false
theorem RMine.ahead {W:World} {base:Nat} {e:TypeId} {m:Nat} {a:Option Addr} {n cap:Nat} {f:Nat → List Value} (h:RMine W base e m (.slice a n cap) n f) (hf:∀ i,(f i).length = m) {k:Nat} (hk:k ≤ n):RMine W base e m (.slice a k cap) k f:=by
 refine ⟨Cs_length hf k,?_⟩
 rcases h.2 with ⟨hv,h0⟩ | ⟨g,cap',cur,hv,hb,hg,hn,hc,hs,ht⟩
 ·injection hv with h1 h2 h3
  have hk0:k = 0:=by omega
  subst h1 h3 hk0
  exact .inl ⟨rfl,rfl⟩
 ·injection hv with h1 h2 h3
  subst h1 h3
  refine .inr ⟨g,cap,cur,rfl,hb,hg,by omega,hc,hs,?_⟩
  have h1:k * m ≤ n * m:=Nat.mul_le_mul_right m hk
  have h2:cur.toList.take (k * m) = (Cs f n).take (k * m):=by rw [← ht,List.take_take,Nat.min_eq_left h1]
  rw [h2]
  have h3:Cs f n = Cs f k ++ Cs (fun i => f (k + i)) (n - k):=by rw [Cs_cat];congr 1;omega
  rw [h3,List.take_left' (Cs_length hf k)]
def lnV:Value → Nat
 | .slice _ n _ => n
 | _ => 0
structure ChS (w:World) (p b off:Nat) (x:Im) (cs:Array Value) (q g:Nat) (c:Nat → Bool) (is:List Nat) (v:Value) (W:World):Prop where
 s:CkX w p b off x cs q W
 c:RArr W g 3 1 (x.ni + 1) (mkF c)
 r:RMine W (g + 1) 3 1 v is.length (nmF is)
 bel:Below w.heap.size w W
section
variable {w:World} {p b off:Nat} {x:Im} {cs:Array Value} {q g:Nat} {c:Nat → Bool} {is:List Nat} {v:Value} {W W':World}
theorem ChS.below (h:ChS w p b off x cs q g c is v W) (hb:Below W.heap.size W W'):ChS w p b off x cs q g c is v W' :=
 ⟨h.s.below hb,h.c.below hb,RMine.below h.r hb,h.bel.trans (hb.mono h.bel.size)⟩
theorem ChS.mark (h:ChS w p b off x cs q g c is v W) {t:Nat} (ht:t < x.ni + 1) (h1:p ≠ g) (h2:b ≠ g) (h3:q ≠ g) (h4:w.heap.size ≤ g):ChS w p b off x cs q g (updN c t true) is v (W.setCell ⟨g,t,none⟩ (.int .i64 1)):=by
 have ho:Only g W (W.setCell ⟨g,t,none⟩ (.int .i64 1)):=Only.setCell W ⟨g,t,none⟩ _
 have hm:=CkO.mark (w:=w) (p:=p) (b:=b) (off:=off) (x:=x) (cs:=cs) (q:=q) (g:=g) (m:=c) (W:=W) ⟨h.s,h.c⟩ ht h1 h2 h3 h4
 exact ⟨hm.s,hm.o,own_only h.r ho (fun e => by have:=(World.ownsRow.lt h.r g e).1;omega),h.bel.trans ((ho.below (Nat.le_refl _)).mono h4)⟩
theorem ChS.pop {t:Nat} {a:Option Addr} {cap:Nat} (h:ChS w p b off x cs q g c (is ++ [t]) (.slice a (is.length + 1) cap) W):ChS w p b off x cs q g c is (.slice a is.length cap) W:=by
 refine ⟨h.s,h.c,?_,h.bel⟩
 have h1:=h.r
 rw [List.length_append] at h1
 exact RMine.congr (RMine.ahead h1 (nmF_len _) (Nat.le_succ _)) fun i hi => (nmF_app is t i hi).symm
theorem ChS.app (h:ChS w p b off x cs q g c is v W) (hp:p < w.heap.size) (hb:b < w.heap.size) (hq:q < w.heap.size) (hgw:w.heap.size ≤ g) {v':Value} {d:Nat} (hg:W.grownBy W' v.ownBlock) (ho:W'.ownsRow (g + 1) 3 1 v' (is.length + 1) (Cs (nmF is) is.length ++ [.int .i64 (d:Int)])):ChS w p b off x cs q g c (is ++ [d]) v' W':=by
 have hob:∀ r,v.ownBlock = some r → g + 1 ≤ r:=fun r e => (World.ownsRow.lt h.r r e).1
 refine ⟨h.s.new hp hb hq hg (fun r e => by have:=hob r e;omega),h.c.grown hg (fun e => by have:=hob _ e.symm;omega),?_,h.bel.grown hg h.bel.size (fun r e => by have:=hob r e;omega)⟩
 rw [List.length_append]
 show RMine W' (g + 1) 3 1 v' (is.length + 1) (nmF (is ++ [d]))
 refine RMine.append (f:=nmF (is ++ [d])) (news:=[.int .i64 (d:Int)]) ?_ ?_
 ·rw [← Cs_congr fun k hk => nmF_app is d k hk];exact ho
 ·show _ = Cs _ 1
  rw [Cs_succ]
  show _ = [] ++ nmF (is ++ [d]) (is.length + 0)
  rw [Nat.add_zero,nmF_new];rfl
end
def ReachPost (w:World) (x:Im) (u:Nat → List Nat) (e:Ending) (w':World):Prop :=
 Below w.heap.size w w' ∧ Said (allB (x.ck11 (x.reach u)) (x.ni + 1)) 11 e
theorem ReachPost.no {w:World} {x:Im} {u:Nat → List Nat} {w':World} (h:allB (x.ck11 (x.reach u)) (x.ni + 1) = false) (hg:Below w.heap.size w w'):ReachPost w x u (.panicked (brk 11)) w':=⟨hg,.inr ⟨h,rfl⟩⟩
set_option maxRecDepth 100000 in
set_option maxHeartbeats 16000000 in
theorem ckReached_any (p b off cap:Nat) (x:Im) (hx:x.Ok) (ds orp own sl:Value) (q ug base:Nat) (u:Nat → List Nat) (hU:∀ t,(∀ d ∈ u t,d ≤ x.ni) ∧ (u t).length ≤ 600000) (w:World) (hpw:p < w.heap.size) (hbw:b < w.heap.size) (hqw:q < w.heap.size) (hup:ug ≠ p)
  (h:CkX w p b off x (XC b off cap x ds (.slice (some ⟨q,0,none⟩) (x.ni + 1) (x.ni + 1)) orp own sl (.slice (some ⟨ug,0,none⟩) (x.ni + 1) (x.ni + 1))) q w) (hu:UnR w base ug (x.ni + 1) u) :
  Calls Tryz.prog 85 #[.pointer (some ⟨p,0,none⟩)] w fun e w' => ReachPost w x u e w':=by
 have HX:=Lib.hid hx
 have hni:x.ni ≤ 256:=gi_bd hx.may
 have hni1:1 ≤ x.ni:=Nat.mul_pos (by have:=(mayN hx.may).1;omega) (by have:=mayN hx.may;omega)
 have c11:w.cell? ⟨p,11,none⟩ = some (.slice (some ⟨q,0,none⟩) (x.ni + 1) (x.ni + 1)):=h.a.cell (i:=11) rfl
 obtain ⟨g,hg⟩:∃ g,g = w.heap.size:=⟨_,rfl⟩
 have hpg:p ≠ g:=by omega
 have hbg:b ≠ g:=by omega
 have hqg:q ≠ g:=by omega
 have hmk:(Instr.makeSlice 37 (.int .i64 ((x.ni:Int) + 1)) (.int .i64 ((x.ni:Int) + 1))).run Tryz.prog w = .ok (.slice (some ⟨g,0,none⟩) (x.ni + 1) (x.ni + 1)) (w.alloc (.cells (madeCells #[.int .i64 0] ((x.ni + 1) * 1)) 3)):=by
  rw [hg];exact run_mkints (x.ni + 1) (by omega) w
 obtain ⟨W1,hW1⟩:∃ W1,W1 = w.alloc (.cells (madeCells #[.int .i64 0] ((x.ni + 1) * 1)) 3):=⟨_,rfl⟩
 have hb1:Below w.heap.size w W1:=by rw [hW1];exact (Below.refl _ _).alloc (Nat.le_refl _) _
 have hsz1:W1.heap.size = g + 1:=by rw [hW1,hg];simp
 have hr1:RArr W1 g 3 1 (x.ni + 1) (mkF fun _ => false):=by
  rw [hW1,hg];exact (RArr.made (m:=1) w #[.int .i64 0] rfl (by omega) (x.ni + 1) _)
 have hgw:w.heap.size ≤ g:=by omega
 have ST1:ChS w p b off x (XC b off cap x ds (.slice (some ⟨q,0,none⟩) (x.ni + 1) (x.ni + 1)) orp own sl (.slice (some ⟨ug,0,none⟩) (x.ni + 1) (x.ni + 1))) q g (updN (fun _ => false) 1 true) [] (.slice none 0 0) (W1.setCell ⟨g,1,none⟩ (.int .i64 1)) :=
  ChS.mark ⟨h.below hb1,hr1,RMine.nil _ _ _ _ _,hb1⟩ (by omega) hpg hbg hqg hgw
 have c1:=hr1.int1 (show 1 < x.ni + 1 by omega) (v:=.int .i64 0) rfl
 have f1:=hr1.soft 1
 obtain ⟨W2,hW2⟩:∃ W2,W2 = W1.setCell ⟨g,1,none⟩ (.int .i64 1):=⟨_,rfl⟩
 rw [← hW2] at ST1
 have hsz2:W2.heap.size = g + 1:=by rw [hW2,← hsz1];simp
 have hW3:Below W2.heap.size W2 (W2.alloc (.cells #[.int .i64 1] 3)):=(Below.refl _ _).alloc (Nat.le_refl _) _
 have ST2:Hid (ChS w p b off x (XC b off cap x ds (.slice (some ⟨q,0,none⟩) (x.ni + 1) (x.ni + 1)) orp own sl (.slice (some ⟨ug,0,none⟩) (x.ni + 1) (x.ni + 1))) q g (updN (fun _ => false) 1 true) [1] (.slice (some ⟨W1.heap.size,0,none⟩) 1 1) (W2.alloc (.cells #[.int .i64 1] 3))):=by
  rw [show W1.heap.size = W2.heap.size by omega]
  have h1:=ST1.below hW3
  exact ⟨h1.s,h1.c,⟨rfl,.inr ⟨_,1,#[.int .i64 1],rfl,by omega,heap_alloc_new W2 _,by decide,by unfold maxLen;omega,rfl,rfl⟩⟩,h1.bel⟩
 obtain ⟨ua,uc,huk⟩:=hu.keep h.a hup
 have HUN:=Lib.hid huk
 clear huk
 rw [← hW1] at hmk
 obtain ⟨cs,hcs⟩:∃ cs,cs = XC b off cap x ds (.slice (some ⟨q,0,none⟩) (x.ni + 1) (x.ni + 1)) orp own sl (.slice (some ⟨ug,0,none⟩) (x.ni + 1) (x.ni + 1)):=⟨_,rfl⟩
 have HCS:Hid (∀ W,At W p 105 cs → W.cell? ⟨p,11,none⟩ = some (.slice (some ⟨q,0,none⟩) (x.ni + 1) (x.ni + 1)) ∧ W.cell? ⟨p,15,none⟩ = some (.slice (some ⟨ug,0,none⟩) (x.ni + 1) (x.ni + 1))):=fun W h => by
  rw [hcs] at h
  exact ⟨h.cell (i:=11) rfl,h.cell (i:=15) rfl⟩
 rw [← hcs] at ST2
 have HGW:=Lib.hid hgw
 have HU:=Lib.hid hU
 clear h ST1 hb1 hr1 hW1 hx hgw hcs hg hu hU hsz1 hsz2 hW3
 go_enter Tryz.func85,Tryz.ntmps85
 go_wp2_with fail
 rw [← hW2]
 go_wp2_with fail
 clear c11 hmk c1 f1 hW2
 go_loopw [3] (fun v wr => ∃ (f:Nat) (c:Nat → Bool) (is:List Nat) (a:Option Addr) (cap:Nat),v = .slice a is.length cap ∧ x.popF u f (c,is.reverse) = x.reach u ∧ cntB c (x.ni + 1) + f = x.ni + 2 + is.length ∧ f ≤ x.ni + 2 ∧ (∀ t ∈ is,t < x.ni + 1) ∧ ChS w p b off x cs q g c is v wr) (fun v wr => zer wr g (x.ni + 1) + lnV v)
 case atStart => exact ⟨x.ni + 2,_,[1],_,_,rfl,rfl,by rw [cntB_set (by omega) rfl,cntB_low (u:=0) (Nat.zero_le _) (fun k _ => by simp)];simp;omega,Nat.le_refl _,fun t h => by simp at h;omega,ST2.out⟩
 case round =>
  clear ST2
  obtain ⟨f,c,is,a,cap',rfl,hpop,hcn,hf9,hlt,st⟩:=hrel
  have hcl:=cntB_le c (x.ni + 1)
  obtain ⟨f,rfl⟩:∃ f',f = f' + 1:=⟨f - 1,by omega⟩
  rcases List.eq_nil_or_concat is with rfl | ⟨is,t,rfl⟩
  ·have HP:Hid (x.reach u = c):=hpop.symm
   have ST:=Lib.hid st
   clear hpop hcn hcl hlt hf9 st
   obtain ⟨c11,c15⟩:=HCS.out _ ST.out.s.a
   go_wp2_with fail
   clear c11 c15
   go_loopw [72] (fun v wr => ∃ k:Nat,k ≤ x.ni + 1 ∧ v = .int .i64 (k:Int) ∧ (∀ t,t < k → x.ck11 c t = true) ∧ ChS w p b off x cs q g c [] (.slice a 0 cap') wr) (fun v _ => x.ni + 1 - (intOf v).toNat)
   case atStart => exact ⟨0,Nat.zero_le _,rfl,fun t h => by omega,ST.out⟩
   case round =>
    clear ST
    obtain ⟨k,hk,rfl,hP,st⟩:=hrel
    have HPP:=Lib.hid hP
    have ST:=Lib.hid st
    clear hP st
    obtain ⟨c11,c15⟩:=HCS.out _ ST.out.s.a
    by_cases hkn:k < x.ni + 1
    ·have hlt':(k:Int) < (x.ni:Int) + 1:=by omega
     have k0:(0:Int) ≤ (k:Int):=by omega
     have cK:wr.cell? ⟨q,k * 16,none⟩ = some (.int .u8 (x.ino k).kind):=ST.out.s.ino (t:=k) hkn 0 rfl
     have cC:=ST.out.c.int1 hkn (v:=.int .i64 (if c k then 1 else 0)) rfl
     have HCK:Hid (x.ck11 c k = ((x.ino k).kind != 2 || c k)):=rfl
     have HNO:Hid (x.ck11 c k = false → ∀ W',Below w.heap.size w W' → ReachPost w x u (.panicked (brk 11)) W'):=fun h W' hg => .no (by rw [HP.out];exact allB_no (p:=x.ck11 c) hkn h) hg
     have HAL:Hid (x.ck11 c k = true → ∀ t,t < k + 1 → x.ck11 c t = true):=fun hc t ht => by
      rcases Nat.lt_succ_iff_lt_or_eq.1 ht with h | h
      ·exact HPP.out t h
      ·rw [h];exact hc
     obtain ⟨kd,hkd⟩:∃ kd,kd = (x.ino k).kind:=⟨_,rfl⟩
     rw [← hkd] at cK HCK
     clear hkd
     by_cases h2:kd = 2
     ·cases hck:c k with
      | true =>
       have q2:(kd != 2) = false:=by simp [h2]
       rw [hck,if_pos rfl] at cC
       have HF:=Lib.hid (HAL.out (by rw [HCK.out,hck];simp))
       clear hck h2
       go_wp2_with fail
       refine (must_yes 11 _).mono ?_
       rintro e w3 ⟨rfl,rfl⟩
       go_wp2_with fail
       go_roundw
       case rel => first | exact ⟨k + 1,by omega,by first | rfl | go_num,HF.out,ST.out⟩ | ((repeat apply Exists.intro);exact ⟨⟨k + 1,by omega,by first | rfl | go_num,HF.out,ST.out⟩,rfl⟩)
       case measure => simp [intOf] <;> omega
      | false =>
       have q2:(kd != 2) = false:=by simp [h2]
       rw [hck,if_neg (by decide)] at cC
       have HF:=Lib.hid (HNO.out (by rw [HCK.out,hck,q2];rfl))
       clear hck h2
       go_wp2_with fail
       refine (must_no 11 _).mono ?_
       rintro e w3 ⟨rfl,rfl⟩
       exact ⟨rfl,HF.out _ ST.out.bel⟩
     ·have q2:(kd != 2) = true:=by simp [h2]
      have HF:=Lib.hid (HAL.out (by rw [HCK.out,q2];rfl))
      clear cC h2
      go_wp2_with fail
      refine (must_yes 11 _).mono ?_
      rintro e w3 ⟨rfl,rfl⟩
      go_wp2_with fail
      go_roundw
      case rel => first | exact ⟨k + 1,by omega,by first | rfl | go_num,HF.out,ST.out⟩ | ((repeat apply Exists.intro);exact ⟨⟨k + 1,by omega,by first | rfl | go_num,HF.out,ST.out⟩,rfl⟩)
      case measure => simp [intOf] <;> omega
    ·obtain rfl:k = x.ni + 1:=by omega
     go_wp2_with fail
     refine bodyPost_end (results_none rfl _ _ _) rfl ⟨ST.out.bel,.inl ⟨(allB_iff _ _).2 (by rw [HP.out];exact HPP.out),rfl⟩⟩
  ·rw [List.concat_eq_append,List.length_append] at hcn
   rw [List.concat_eq_append] at hpop hlt st ⊢
   rw [List.length_append] at st ⊢
   rw [List.reverse_append] at hpop
   have htn:t < x.ni + 1:=hlt t (by simp)
   have HL0:Hid (∀ t ∈ is,t < x.ni + 1):=fun d hd => hlt d (by simp [hd])
   obtain ⟨m,hm⟩:∃ m,m = is.length:=⟨_,rfl⟩
   have HPO:Hid (x.popF u f ((u t).foldl x.come1 (c,is.reverse)) = x.reach u):=hpop
   have hcn':cntB c (x.ni + 1) + f = x.ni + 2 + m:=by simp at hcn;omega
   have hzr:=zer_mk st.c
   have hown:=st.r
   rw [List.length_append] at hown
   have hl1:is.length + [t].length = m + 1:=by rw [hm];rfl
   rw [hl1] at hown st ⊢
   obtain ⟨r,cc,e⟩:=own_form hown
   injection e with e1 e2 e3
   subst e1
   subst e3
   have hcap:m ≤ cap':=by
    obtain ⟨_,cq,e5,_,_,h5,_⟩:=RMine.form' hown (Nat.succ_pos m)
    injection e5 with _ _ e5
    omega
   have cT:wr.cell? ⟨r,m,none⟩ = some (.int .i64 (t:Int)):=by
    have:=RMine.seg hown (nmF_len _) m (Nat.lt_succ_self _) 0 (.int .i64 (t:Int)) (by rw [hm,nmF_new];rfl)
    simpa using this
   have ST:Hid (ChS w p b off x cs q g c is (.slice (some ⟨r,0,none⟩) m cap') wr):=by
    have st':=st
    rw [hm] at st' ⊢
    exact ChS.pop st'
   obtain ⟨c11,c15⟩:=HCS.out _ ST.out.s.a
   obtain ⟨cu,_⟩:=HUN.out _ ST.out.s.gr t htn
   obtain ⟨n,hn⟩:∃ n,n = (u t).length:=⟨_,rfl⟩
   have HN:=Lib.hid hn
   obtain ⟨ra,hra⟩:∃ a,a = ua t:=⟨_,rfl⟩
   obtain ⟨rc,hrc⟩:∃ c,c = uc t:=⟨_,rfl⟩
   have HRW:Hid (∀ W,w.grownBy W (some p) → RRow W ra 1 n (nmF (u t))):=fun W hW => by rw [hra,hn];exact (HUN.out W hW t htn).2
   have hlen:=(HU.out t).2
   rw [← hn] at hlen
   rw [← hn,← hra,← hrc] at cu
   have HM:=Lib.hid hm
   have hm9:m ≤ 257:=by omega
   have m0:(0:Int) ≤ (m:Int):=by omega
   have m1:(m:Int) < (m:Int) + 1:=by omega
   clear hn hra hrc hpop hcn hlt st hown hl1 e2 hm
   have ht':(t:Int) < (x.ni:Int) + 1:=by omega
   have t0:(0:Int) ≤ (t:Int):=by omega
   go_wp2_with fail
   clear cT c11 c15 cu hcap
   have hf8:f ≤ x.ni + 2:=by omega
   obtain ⟨mm,hmm⟩:∃ mm,mm = zer wr g (x.ni + 1) + (m + 1):=⟨_,rfl⟩
   have HMM:Hid (mm = f):=by show _ = _;omega
   go_loopw [3,39] (fun v uu wr => ∃ (j:Nat) (c':Nat → Bool) (is':List Nat) (a:Option Addr) (cap':Nat),j ≤ n ∧ uu = .int .i64 (j:Int) ∧ v = .slice a is'.length cap' ∧ ((u t).take j).foldl x.come1 (c,is.reverse) = (c',is'.reverse) ∧ cntB c' (x.ni + 1) + f = x.ni + 2 + is'.length ∧ (∀ t ∈ is',t < x.ni + 1) ∧ ChS w p b off x cs q g c' is' v wr) (fun _ uu _ => n - (intOf uu).toNat)
   case atStart => exact ⟨0,c,is,_,cap',Nat.zero_le _,rfl,by rw [← HM.out],rfl,by rw [← HM.out];exact hcn',HL0.out,by first | exact ST.out | (rw [← HM.out];exact ST.out)⟩
   case round =>
    clear ST
    obtain ⟨j,c',is',a',cap2,hj,rfl,rfl,hfo,hcn2,hlt2,st⟩:=hrel
    have HFO:=Lib.hid hfo
    have HL:=Lib.hid hlt2
    have ST:=Lib.hid st
    clear hfo hlt2 st
    by_cases hjn:j < n
    ·have hj':(j:Int) < (n:Int):=by omega
     have j0:(0:Int) ≤ (j:Int):=by omega
     obtain ⟨b',off',hae,hsg⟩:∃ b' off',ra = some ⟨b',off',none⟩ ∧ RSeg wr b' off' 1 n (nmF (u t)):=by
      rcases HRW.out _ ST.out.s.gr with h | h
      ·omega
      ·exact h
     subst hae
     obtain ⟨d,hd⟩:∃ d,d = (u t).getD j 0:=⟨_,rfl⟩
     have cd:wr.cell? ⟨b',off' + j,none⟩ = some (.int .i64 (d:Int)):=by
      have:=hsg j hjn 0 (.int .i64 (((u t).getD j 0:Nat):Int)) rfl
      rw [← hd,Nat.mul_one,Nat.add_zero] at this;exact this
     have hdg:(u t)[j]? = some d:=by
      rw [hd,List.getD_eq_getElem?_getD,List.getElem?_eq_getElem (by rw [← HN.out];exact hjn)];rfl
     have hdn:d ≤ x.ni:=(HU.out t).1 d (List.mem_of_getElem? hdg)
     have hdn1:d < x.ni + 1:=by omega
     have hdn':(d:Int) < (x.ni:Int) + 1:=by omega
     have d0:(0:Int) ≤ (d:Int):=by omega
     obtain ⟨c11,c15⟩:=HCS.out _ ST.out.s.a
     have HST:Hid (((u t).take (j + 1)).foldl x.come1 (c,is.reverse) = if (x.ino d).kind = 2 ∧ c' d = false then (updN c' d true,d :: is'.reverse) else (c',is'.reverse)):=by
      show _ = _
      rw [List.take_add_one,hdg,List.foldl_append,HFO.out]
      rfl
     have cK:wr.cell? ⟨q,d * 16,none⟩ = some (.int .u8 (x.ino d).kind):=ST.out.s.ino (t:=d) hdn1 0 rfl
     have cC:=ST.out.c.int1 hdn1 (v:=.int .i64 (if c' d then 1 else 0)) rfl
     have fC:=ST.out.c.soft d
     obtain ⟨kd,hkd⟩:∃ kd,kd = (x.ino d).kind:=⟨_,rfl⟩
     rw [← hkd] at cK HST
     clear hkd hd hdg hsg
     have hstay:¬ (kd = 2 ∧ c' d = false) → Hid (((u t).take (j + 1)).foldl x.come1 (c,is.reverse) = (c',is'.reverse)):=fun h => by
      show _ = _;rw [HST.out,if_neg h]
     by_cases h2:kd = 2
     ·cases hck:c' d with
      | true =>
       have q2:(kd == 2) = true:=by simp [h2]
       have HF:=hstay (by rw [hck];simp)
       rw [hck,if_pos rfl] at cC
       clear hck h2 fC hstay
       go_wp2_with fail
       go_roundw
       case rel => first | exact ⟨j + 1,c',is',_,_,by omega,by first | rfl | go_num,rfl,HF.out,hcn2,HL.out,ST.out⟩ | ((repeat apply Exists.intro);exact ⟨⟨j + 1,c',is',_,_,by omega,by first | rfl | go_num,rfl,HF.out,hcn2,HL.out,ST.out⟩,rfl⟩)
       case measure => simp [intOf] <;> omega
      | false =>
       have q2:(kd == 2) = true:=by simp [h2]
       have HF:Hid (((u t).take (j + 1)).foldl x.come1 (c,is.reverse) = (updN c' d true,(is' ++ [d]).reverse)):=by
        show _ = _
        rw [HST.out,if_pos ⟨h2,hck⟩,List.reverse_append];rfl
       rw [hck,if_neg (by decide)] at cC
       have HCN:Hid (cntB (updN c' d true) (x.ni + 1) + f = x.ni + 2 + (is' ++ [d]).length):=by
        show _ = _
        rw [cntB_set hdn1 hck,List.length_append];simp;omega
       have HL2:Hid (∀ t ∈ is' ++ [d],t < x.ni + 1):=fun t ht => by
        rcases List.mem_append.1 ht with h | h
        ·exact HL.out t h
        ·simp at h;omega
       have STM:=Lib.hid (ST.out.mark (t:=d) hdn1 hpg hbg hqg HGW.out)
       have hil:is'.length ≤ 600000:=by have:=cntB_le c' (x.ni + 1);omega
       obtain ⟨W4,hW4⟩:∃ W4,W4 = wr.setCell ⟨g,d,none⟩ (.int .i64 1):=⟨_,rfl⟩
       rw [← hW4] at STM
       obtain ⟨i0,hi0,hz0,hz1,hz2⟩:=info_intP
       have hown2:World.ownsRow (W4.alloc (.cells #[.int .i64 (d:Int)] 3)) (g + 1) 3 1 (.slice a' is'.length cap2) is'.length (Cs (nmF is') is'.length):=World.ownsRow.alloc STM.out.r _
       have hnews:∀ i u,([.int .i64 (d:Int)]:List Value)[i]? = some u → (W4.alloc (.cells #[.int .i64 (d:Int)] 3)).cell? ((⟨W4.heap.size,0,none⟩:Addr).add i) = some u:=fun i u hu => by
        cases i with
        | zero =>
         injection hu with hu
         subst hu
         exact (At.new W4 3 #[.int .i64 (d:Int)]).cell (i:=0) rfl
        | succ i => cases hu
       have h1c:∀ u ∈ ([.int .i64 (d:Int)]:List Value),u.oneCell' = true:=fun u hu => by simp at hu;subst hu;rfl
       have hbase:g + 1 ≤ (W4.alloc (.cells #[.int .i64 (d:Int)] 3)).heap.size:=by have:=STM.out.c.lt;simp;omega
       have hWW:Below W4.heap.size W4 (W4.alloc (.cells #[.int .i64 (d:Int)] 3)):=(Below.refl _ _).alloc (Nat.le_refl _) _
       have STB:=Lib.hid (STM.out.below hWW)
       clear hck h2 hstay ST STM hWW
       subst hW4
       go_wp2_with (first | (refine wpList_slice1 rfl 37 1 0 (.tmp 63) rfl (.int .i64 (d:Int)) rfl _ _ (run_int1c (d:Int) _) ?_) | (refine wpList_append_own _ rfl (.tmp 62) (.tmp 64) 37 rfl (g + 1) 3 i0 (.int .i64 0) 1 8 Tryz.underlying37 hi0 hz0 hz1 hz2 rfl (by decide) (.slice a' is'.length cap2) is'.length _ rfl hown2 ⟨(wr.setCell ⟨g,d,none⟩ (.int .i64 1)).heap.size,0,none⟩ 1 1 [.int .i64 (d:Int)] rfl rfl hnews h1c (by unfold maxLen;omega) (by omega) hbase ?_))
       intro v' w12 ho12 hg12 _
       have STN:=Lib.hid (STB.out.app hpw hbw hqw HGW.out (d:=d) hg12 ho12)
       obtain ⟨ga,gc,rfl⟩:=own_form ho12
       clear STB hown2 hnews h1c hbase ho12 hg12
       go_wp2_with fail
       go_roundw
       case rel => first | exact ⟨j + 1,_,is' ++ [d],_,_,by omega,by first | rfl | go_num,by rw [List.length_append];rfl,HF.out,HCN.out,HL2.out,STN.out⟩ | ((repeat apply Exists.intro);exact ⟨⟨j + 1,_,is' ++ [d],_,_,by omega,by first | rfl | go_num,by rw [List.length_append];rfl,HF.out,HCN.out,HL2.out,STN.out⟩,rfl⟩)
       case measure => simp [intOf] <;> omega
     ·have q2:(kd == 2) = false:=by simp [h2]
      have HF:=hstay (fun h => h2 h.1)
      clear cC h2 fC hstay
      go_wp2_with fail
      go_roundw
      case rel => first | exact ⟨j + 1,c',is',_,_,by omega,by first | rfl | go_num,rfl,HF.out,hcn2,HL.out,ST.out⟩ | ((repeat apply Exists.intro);exact ⟨⟨j + 1,c',is',_,_,by omega,by first | rfl | go_num,rfl,HF.out,hcn2,HL.out,ST.out⟩,rfl⟩)
      case measure => simp [intOf] <;> omega
    ·obtain rfl:j = n:=by omega
     have HF2:Hid (x.popF u f (c',is'.reverse) = x.reach u):=by
      have h1:=HFO.out
      rw [HN.out,List.take_length] at h1
      have h2:=HPO.out
      rw [h1] at h2
      exact h2
     have hz2:=zer_mk ST.out.c
     go_wp2_with fail
     go_roundw
     case rel => first | exact ⟨f,c',is',_,_,rfl,HF2.out,hcn2,hf8,HL.out,ST.out⟩ | ((repeat apply Exists.intro);exact ⟨⟨f,c',is',_,_,rfl,HF2.out,hcn2,hf8,HL.out,ST.out⟩,rfl⟩)
     case measure => simp [lnV] <;> omega
end Go.Proofs.YtphamecphmbipaaGreatDoor
