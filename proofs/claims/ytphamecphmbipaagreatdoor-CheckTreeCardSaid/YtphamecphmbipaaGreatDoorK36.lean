/- Texts of this claim, merged. -/
import Derived.Test.YtphamecphmbipaaGreatDoorK34
import Derived.Test.YtphamecphmbipaaGreatDoorK32
import Derived.Test.YtphamecphmbipaaGreatDoorK35
namespace Go.Proofs.YtphamecphmbipaaGreatDoor
open Go.RowKit
set_option linter.unusedVariables false
def UnR (W:World) (base ug n:Nat) (u:Nat → List Nat):Prop :=
 ∃ (a:Nat → Option Addr) (c:Nat → Nat),RArr W ug 37 1 n (fun t => [.slice (a t) (u t).length (c t)]) ∧ ∀ t,t < n → RMine W base 3 1 (.slice (a t) (u t).length (c t)) (u t).length (nmF (u t))
theorem UnR.below {W W':World} {base ug n:Nat} {u:Nat → List Nat} (h:UnR W base ug n u) (hb:Below W.heap.size W W'):UnR W' base ug n u:=by
 obtain ⟨a,c,h1,h2⟩:=h
 exact ⟨a,c,h1.below hb,fun t ht => RMine.below (h2 t ht) hb⟩
theorem UnR.lt {W:World} {base ug n:Nat} {u:Nat → List Nat} (h:UnR W base ug n u):ug < W.heap.size:=by obtain ⟨a,c,h1,h2⟩:=h;exact h1.lt
theorem arr_own_ne {W:World} {g:Nat} {T e:TypeId} {m n:Nat} {f:Nat → List Value} (h:RArr W g T m n f) {base size k:Nat} {v:Value} {xs:List Value} (ho:W.ownsRow base e size v k xs) (hT:T ≠ e):v.ownBlock ≠ some g:=by
 obtain ⟨cs,hc,_⟩:=h.blk
 exact at_own_neS (show At W g T cs from hc) ho (fun e => hT e.symm)
theorem UnR.set {W:World} {base ug n:Nat} {u:Nat → List Nat} (h:UnR W base ug n u) {t:Nat} (ht:t < n) {l:List Nat} {va:Option Addr} {vc:Nat} (hv:RMine W base 3 1 (.slice va l.length vc) l.length (nmF l)):UnR (W.setCell ⟨ug,t,none⟩ (.slice va l.length vc)) base ug n (updN u t l):=by
 obtain ⟨a,c,h1,h2⟩:=h
 have ho:Only ug W (W.setCell ⟨ug,t,none⟩ (.slice va l.length vc)):=Only.setCell W ⟨ug,t,none⟩ _
 refine ⟨fun i => if i = t then va else a i,fun i => if i = t then vc else c i,?_,fun i hi => ?_⟩
 ·have:=h1.cellset (k:=t) (j:=0) ht (by decide) (fun _ => rfl) (.slice va l.length vc)
  rw [Nat.mul_one,Nat.add_zero] at this
  refine this.congr fun i hi => ?_
  unfold updN
  by_cases e:i = t
  ·simp only [e,if_true];rfl
  ·simp only [e,if_false]
 ·have key:∀ {v k xs},W.ownsRow base 3 1 v k xs → (W.setCell ⟨ug,t,none⟩ (.slice va l.length vc)).ownsRow base 3 1 v k xs:=fun {v k xs} hx => own_only hx ho (arr_own_ne h1 hx (by decide))
  unfold updN
  by_cases e:i = t
  ·simp only [e,if_true];exact key hv
  ·simp only [e,if_false];exact key (h2 i hi)
structure DsS (w:World) (p b off:Nat) (x:Im) (cs:Array Value) (q ug:Nat) (u:Nat → List Nat) (W:World):Prop where
 s:CkX w p b off x cs q W
 u:UnR W w.heap.size ug (x.ni + 1) u
theorem DsS.below {w:World} {p b off:Nat} {x:Im} {cs:Array Value} {q ug:Nat} {u:Nat → List Nat} {W W':World} (h:DsS w p b off x cs q ug u W) (hb:Below W.heap.size W W'):DsS w p b off x cs q ug u W':=⟨h.s.below hb,h.u.below hb⟩
def DirsPost (w:World) (p b off cap:Nat) (x:Im) (ds orp own sl:Value) (q:Nat) (e:Ending) (w':World):Prop :=
 w.grownBy w' (some p) ∧ ((x.dirs = none ∧ e = .panicked (brk 9)) ∨ ∃ u g,x.dirs = some u ∧ e = .returned (.tuple #[]) ∧ w.heap.size ≤ g ∧
  At w' p 105 (XC b off cap x ds (.slice (some ⟨q,0,none⟩) (x.ni + 1) (x.ni + 1)) orp own sl (.slice (some ⟨g,0,none⟩) (x.ni + 1) (x.ni + 1))) ∧ UnR w' w.heap.size g (x.ni + 1) u)
theorem info_sl18:(Tryz.prog.info? 37).map (fun i => (i.zero,i.size,i.bytes)) = some (some (.slice none 0 0),1,24):=by kernel_rfl
theorem run_mkrows18 (n:Nat) (hn:n ≤ 2048) (W:World):(Instr.makeSlice 103 (.int .i64 (n:Int)) (.int .i64 (n:Int))).run Tryz.prog W = .ok (.slice (some ⟨W.heap.size,0,none⟩) n n) (W.alloc (.cells (madeCells #[.slice none 0 0] (n * 1)) 37)) :=
 run_mkrow (P:=Tryz.prog) 103 37 (.slice none 0 0) 1 24 Tryz.underlying103 info_sl18 .i64 .i64 n (by omega) (by omega) W
def V5 (x:Im) (B ug k:Nat) (i:Nat) (v:Value) (W:World):Prop :=
 if i = 7 then ∃ r a c,x.dirF k = some r ∧ v = .slice a r.2.length c ∧ RMine W B 3 1 (.slice a r.2.length c) r.2.length (nmF r.2)
 else if i = 8 then v = .pointer (some ⟨ug,0 + k * 1,none⟩) else True
theorem V5.below {x:Im} {B ug k:Nat} {i:Nat} {v:Value} {W W':World} (h:V5 x B ug k i v W) (hb:Below W.heap.size W W'):V5 x B ug k i v W':=by
 unfold V5 at h ⊢
 by_cases h7:i = 7
 ·rw [if_pos h7] at h ⊢
  obtain ⟨r,a,c,e1,e2,h⟩:=h
  exact ⟨r,a,c,e1,e2,RMine.below h hb⟩
 ·rw [if_neg h7] at h ⊢;exact h
structure S5 (w:World) (p b off:Nat) (x:Im) (cs:Array Value) (q ug k:Nat) (u:Nat → List Nat) (l:Nat → Bool) (W:World):Prop where
 n:l 9 = false → DsS w p b off x cs q ug u W
 y:l 9 = true → ∃ r,x.dirF k = some r ∧ DsS w p b off x cs q ug (updN u k r.2) W
 o:l 9 = true → l 7 = true
theorem S5.c {w:World} {p b off:Nat} {x:Im} {cs:Array Value} {q ug k:Nat} {u:Nat → List Nat} {l:Nat → Bool} {W:World} (h:S5 w p b off x cs q ug k u l W):CkX w p b off x cs q W:=by
 cases e:l 9 with
 | false => exact (h.n e).s
 | true => obtain ⟨r,_,h⟩:=h.y e;exact h.s
theorem S5.below {w:World} {p b off:Nat} {x:Im} {cs:Array Value} {q ug k:Nat} {u:Nat → List Nat} {l l':Nat → Bool} {W W':World} (h:S5 w p b off x cs q ug k u l W) (hl:l' 9 = l 9) (h7:l 7 = true → l' 7 = true) (hb:Below W.heap.size W W'):S5 w p b off x cs q ug k u l' W' :=
 ⟨fun e => (h.n (hl ▸ e)).below hb,fun e => by obtain ⟨r,e1,h⟩:=h.y (hl ▸ e);exact ⟨r,e1,h.below hb⟩,fun e => h7 (h.o (hl ▸ e))⟩
set_option maxRecDepth 100000 in
set_option maxHeartbeats 16000000 in
theorem ckDirs_any (p b off cap:Nat) (x:Im) (hx:x.Ok) (hM:∀ t,1 ≤ t → t ≤ x.ni → (x.ino t).May) (hT:∀ t,1 ≤ t → t ≤ x.ni → (x.ino t).kind ≠ 0 → x.Tree t) (ds orp own sl:Value) (q:Nat) (w:World) (hbp:b ≠ p) (hqp:q ≠ p) (h:CkX w p b off x (XC b off cap x ds (.slice (some ⟨q,0,none⟩) (x.ni + 1) (x.ni + 1)) orp own sl (.slice none 0 0)) q w) :
  Calls Tryz.prog 83 #[.pointer (some ⟨p,0,none⟩)] w fun e w' => DirsPost w p b off cap x ds orp own sl q e w':=by
 have HX:=Lib.hid hx
 have hni:x.ni ≤ 256:=gi_bd hx.may
 have c11:w.cell? ⟨p,11,none⟩ = some (.slice (some ⟨q,0,none⟩) (x.ni + 1) (x.ni + 1)):=h.a.cell (i:=11) rfl
 obtain ⟨g,hg⟩:∃ g,g = w.heap.size:=⟨_,rfl⟩
 have hpw:=h.a.lt
 have hbw:=h.bl
 have hqw:=h.r.lt
 have hmk:(Instr.makeSlice 103 (.int .i64 ((x.ni:Int) + 1)) (.int .i64 ((x.ni:Int) + 1))).run Tryz.prog w = .ok (.slice (some ⟨g,0,none⟩) (x.ni + 1) (x.ni + 1)) (w.alloc (.cells (madeCells #[.slice none 0 0] ((x.ni + 1) * 1)) 37)):=by
  rw [hg];exact run_mkrows18 (x.ni + 1) (by omega) w
 obtain ⟨W1,hW1⟩:∃ W1,W1 = w.alloc (.cells (madeCells #[.slice none 0 0] ((x.ni + 1) * 1)) 37):=⟨_,rfl⟩
 have hb1:Below w.heap.size w W1:=by rw [hW1];exact (Below.refl _ _).alloc (Nat.le_refl _) _
 have hr1:UnR W1 w.heap.size g (x.ni + 1) (fun _ => []):=by
  refine ⟨fun _ => none,fun _ => 0,?_,fun t _ => RMine.nil _ _ _ _ _⟩
  rw [hW1,hg];exact (RArr.made (m:=1) w #[.slice none 0 0] rfl (by omega) (x.ni + 1) _)
 have h1:=h.below hb1
 have hgp:g ≠ p:=by omega
 have hr2:UnR (W1.setCell ⟨p,15,none⟩ (.slice (some ⟨g,0,none⟩) (x.ni + 1) (x.ni + 1))) w.heap.size g (x.ni + 1) (fun _ => []):=by
  obtain ⟨a,c,k1,k2⟩:=hr1
  exact ⟨a,c,k1.only (Only.setCell W1 ⟨p,15,none⟩ _) hgp,fun t ht => own_only (k2 t ht) (Only.setCell W1 ⟨p,15,none⟩ _) (fun e => by have:=(World.ownsRow.lt (k2 t ht) p e).1;omega)⟩
 have ST1:Hid (DsS w p b off x (XC b off cap x ds (.slice (some ⟨q,0,none⟩) (x.ni + 1) (x.ni + 1)) orp own sl (.slice (some ⟨g,0,none⟩) (x.ni + 1) (x.ni + 1))) q g (fun _ => []) (W1.setCell ⟨p,15,none⟩ (.slice (some ⟨g,0,none⟩) (x.ni + 1) (x.ni + 1)))) :=
  ⟨h1.setF 15 _ hbp hqp,hr2⟩
 have c15:W1.cell? ⟨p,15,none⟩ = some (.slice none 0 0):=h1.a.cell (i:=15) rfl
 have f15:W1.frozen? ⟨p,15,none⟩ = false:=soft_of_heap h1.a 15
 have hgw:w.heap.size ≤ g:=by omega
 rw [← hW1] at hmk
 have HDC:Hid (∀ (t:Nat) (W:World),1 ≤ t → t ≤ x.ni → (x.ino t).kind = 2 → CkX w p b off x (XC b off cap x ds (.slice (some ⟨q,0,none⟩) (x.ni + 1) (x.ni + 1)) orp own sl (.slice (some ⟨g,0,none⟩) (x.ni + 1) (x.ni + 1))) q W → w.heap.size ≤ W.heap.size →
  Calls Tryz.prog 133 #[.pointer (some ⟨p,0,none⟩),.int .i64 (t:Int)] W fun e w' => DirPost W x t e w') :=
  fun t W ht1 ht2 hk hW hs => ckDir_any p b off cap x hx ds orp own sl _ q t ht1 ht2 (hM t ht1 ht2) (hT t ht1 ht2 (by rw [hk];decide)) W (by omega) (by omega) (by omega) hW.self
 obtain ⟨cs,hcs⟩:∃ cs,cs = XC b off cap x ds (.slice (some ⟨q,0,none⟩) (x.ni + 1) (x.ni + 1)) orp own sl (.slice (some ⟨g,0,none⟩) (x.ni + 1) (x.ni + 1)):=⟨_,rfl⟩
 have HCS:Hid (∀ W,At W p 105 cs → W.cell? ⟨p,11,none⟩ = some (.slice (some ⟨q,0,none⟩) (x.ni + 1) (x.ni + 1)) ∧ W.cell? ⟨p,15,none⟩ = some (.slice (some ⟨g,0,none⟩) (x.ni + 1) (x.ni + 1)) ∧ At W p 105 (XC b off cap x ds (.slice (some ⟨q,0,none⟩) (x.ni + 1) (x.ni + 1)) orp own sl (.slice (some ⟨g,0,none⟩) (x.ni + 1) (x.ni + 1)))):=fun W h => by
  rw [hcs] at h
  exact ⟨h.cell (i:=11) rfl,h.cell (i:=15) rfl,h⟩
 rw [← hcs] at ST1 HDC
 have HGW:=Lib.hid hgw
 clear h h1 hb1 hr1 hr2 hW1 hx hgw hcs hM hT hg
 go_enter Tryz.func83,Tryz.ntmps83
 go_wp2_with fail
 clear c11 hmk c15 f15
 go_loopw [2] (fun v wr => ∃ (k:Nat) (u:Nat → List Nat),k ≤ x.ni ∧ v = .int .i64 ((k:Int) + 1) ∧ foldO (fun t u => if (x.ino (t + 1)).kind = 2 then (x.dirF (t + 1)).map (fun r => updN u (t + 1) r.2) else some u) k (fun _ => []) = some u ∧ DsS w p b off x cs q g u wr) (fun v _ => x.ni + 1 - (intOf v).toNat)
 case atStart => exact ⟨0,fun _ => [],Nat.zero_le _,rfl,rfl,ST1.out⟩
 case round =>
  clear ST1
  obtain ⟨k,u,hk,rfl,hfo,st⟩:=hrel
  have HFO:=Lib.hid hfo
  have ST:=Lib.hid st
  clear hfo st
  obtain ⟨c11,_,_⟩:=HCS.out _ ST.out.s.a
  by_cases hlt:k < x.ni
  ·have hlt':(k:Int) + 1 < (x.ni:Int) + 1:=by omega
   have k0:(0:Int) ≤ (k:Int) + 1:=by omega
   have cK:wr.cell? ⟨q,(k + 1) * 16,none⟩ = some (.int .u8 (x.ino (k + 1)).kind):=ST.out.s.ino (t:=k + 1) (by omega) 0 rfl
   obtain ⟨kd,hkd⟩:∃ kd,kd = (x.ino (k + 1)).kind:=⟨_,rfl⟩
   have HKD:=Lib.hid hkd
   rw [← hkd] at cK
   clear hkd
   by_cases hk2:kd = 2
   rotate_left
   ·have q0:(kd == 2) = false:=by simp [hk2]
    have HN:Hid (foldO (fun t u => if (x.ino (t + 1)).kind = 2 then (x.dirF (t + 1)).map (fun r => updN u (t + 1) r.2) else some u) (k + 1) (fun _ => []) = some u):=foldO_next HFO.out (by rw [if_neg (by rw [← HKD.out];exact hk2)])
    clear hk2
    go_wp2_with fail
    go_roundw
    case rel => first | exact ⟨k + 1,u,by omega,by first | rfl | go_num,HN.out,ST.out⟩ | ((repeat apply Exists.intro);exact ⟨⟨k + 1,u,by omega,by first | rfl | go_num,HN.out,ST.out⟩,rfl⟩)
    case measure => simp [intOf] <;> omega
   have q0:(kd == 2) = true:=by simp [hk2]
   have HK2:=Lib.hid hk2
   have HNO:Hid (x.dirF (k + 1) = none → x.dirs = none):=fun h => foldO_none HFO.out (by rw [if_pos (by rw [← HKD.out];exact hk2),h];rfl) hlt
   clear hk2
   go_wp2_with fail
   apply Vp.wp_region_pre 7 (fun l i v W => V5 x w.heap.size g (k + 1) i v W) (S5 w p b off x cs q g (k + 1) u) (fun W => CkX w p b off x cs q W)
   case hm => kernel_rfl
   case hd => kernel_rfl
   case hpre => kernel_rfl
   case hB => kernel_rfl
   case hVl => exact fun l l' he i v W h => h
   case hS => exact fun l l' W he h => h.below (he 9 (by decide) (by decide)).symm (fun e => by rw [← he 7 (by decide) (by decide)];exact e) (Below.refl _ _)
   case hSC => exact fun l W h => h.c
   case hVb => exact fun l i v W W' h hb => h.below hb
   case hSb => exact fun l W W' h hb _ => h.below rfl (fun e => e) hb
   case h0 => exact ⟨fun _ => ST.out.below ⟨rfl,rfl,rfl,Nat.le_refl _,fun _ _ => rfl⟩,(fun e => by cases e),(fun e => by cases e)⟩
   case hwalk =>
    simp only [List.take_succ_cons,List.take_zero]
    intro R hR hne
    have d15:∀ y:InW (fun W => CkX w p b off x cs q W ∧ R W),y.W.cell? ⟨p,15,none⟩ = some (.slice (some ⟨g,0,none⟩) (x.ni + 1) (x.ni + 1)):=fun y => (HCS.out _ y.h.1.a).2.1
    repeat (first | go_big_quiet_skip | (go_big_quiet_want;go_big_quiet_op;go_big_quiet_on))
    exact wpQuiet_nil rfl
   case hst =>
    simp only [List.drop_succ_cons,List.drop_zero]
    refine ⟨?_,?_,?_,trivial⟩
    ·intro l a W hl hu h
     have e1:a.tmps.getD 35 undef = .pointer (some ⟨p,0,none⟩):=(h.vals 5 35 (op_up hu 5 (by kernel_rfl)) rfl).pre (by decide) rfl
     have e2:a.tmps.getD 36 undef = .int .i64 ((k:Int) + 1):=(h.vals 6 36 (op_up hu 6 (by kernel_rfl)) rfl).pre (by decide) rfl
     refine Vm.step h (by kernel_rfl) rfl rfl rfl hl (Vl.op_callP 133 #[.pointer (some ⟨p,0,none⟩),.int .i64 ((k:Int) + 1)] (Vl.r_call2 133 (.tmp 35) (.tmp 36) _ _ _ rfl e1 e2 (by kernel_rfl)) ?_)
     refine (HDC.out (k + 1) W (by omega) (by omega) (by rw [← HKD.out];exact HK2.out) h.st.c (h.st.c.gr.size)).mono ?_
     rintro e W' ⟨hb,hp⟩
     rcases hp with ⟨hn,rfl⟩ | ⟨r,v,hr,rfl,hv⟩
     ·refine .inr ⟨_,rfl,?_⟩
      exact ⟨h.defers,grown_trans h.st.c.gr (grown_below hb),.inl ⟨HNO.out hn,rfl⟩⟩
     ·have hsz:=h.st.c.gr.size
      obtain ⟨va,vc,rfl⟩:=RMine.form hv
      exact .inl ⟨_,rfl,_,rfl,fun i d _ _ hv => hv.up fun _ hv => hv.below hb,Vp.W.mk (by decide) ⟨r,va,vc,hr,rfl,RMine.low hv hsz⟩,h.st.below rfl (fun _ => rfl) hb⟩
    ·intro l a W hl hu h
     have e1:a.tmps.getD 33 undef = .slice (some ⟨g,0,none⟩) (x.ni + 1) (x.ni + 1):=(h.vals 3 33 (op_up hu 3 (by kernel_rfl)) rfl).pre (by decide) rfl
     have e2:a.tmps.getD 34 undef = .int .i64 (((k + 1:Nat):Int)):=(h.vals 4 34 (op_up hu 4 (by kernel_rfl)) rfl).pre (by decide) rfl
     exact Vm.stepQ h (by kernel_rfl) rfl rfl rfl hl _ (Vl.r_ixa 103 37 (.tmp 33) (.tmp 34) rfl Tryz.underlying103 1 info_1s g 0 (x.ni + 1) (x.ni + 1) (k + 1) e1 e2 (by omega)) (fun _ _ hv => hv.up fun _ hv => hv.below (Below.refl _ _)) (Vp.W.mk (by decide) rfl) (fun s => s.below rfl (fun e => e) (Below.refl _ _))
    ·intro l a W hl hu h
     obtain ⟨r,va,vc,hr,e37,hv⟩:=(h.vals 7 37 (op_up hu 7 (by kernel_rfl)) rfl).post (by decide)
     have e38:a.tmps.getD 38 undef = .pointer (some ⟨g,0 + (k + 1) * 1,none⟩):=(h.vals 8 38 (op_up hu 8 (by kernel_rfl)) rfl).post (by decide)
     have hs:=h.st.n hl
     obtain ⟨ua,uc,hu1,hu2⟩:=hs.u
     have hcell:W.cell? ⟨g,0 + (k + 1) * 1,none⟩ = some (.slice (ua (k + 1)) (u (k + 1)).length (uc (k + 1))):=by
      rw [Nat.zero_add,Nat.mul_one];exact hu1.int1 (by omega) rfl
     have hset:UnR (W.setCell ⟨g,k + 1,none⟩ (.slice va r.2.length vc)) w.heap.size g (x.ni + 1) (updN u (k + 1) r.2):=UnR.set hs.u (by omega) hv
     have hset':UnR (W.setCell ⟨g,0 + (k + 1) * 1,none⟩ (.slice va r.2.length vc)) w.heap.size g (x.ni + 1) (updN u (k + 1) r.2):=by rw [Nat.zero_add,Nat.mul_one];exact hset
     have ho:Only g W (W.setCell ⟨g,0 + (k + 1) * 1,none⟩ (.slice va r.2.length vc)):=Only.setCell W ⟨g,0 + (k + 1) * 1,none⟩ _
     have hck:=hs.s.only ho (fun e => hgp e.symm) (by have:=HGW.out;omega) (by have:=HGW.out;omega) HGW.out
     have hvk:RMine (W.setCell ⟨g,0 + (k + 1) * 1,none⟩ (.slice va r.2.length vc)) w.heap.size 3 1 (.slice va r.2.length vc) r.2.length (nmF r.2):=own_only hv ho (arr_own_ne hu1 hv (by decide))
     refine Vm.step h (by kernel_rfl) rfl rfl rfl hl (Vl.op_stc 37 (.tmp 38) (.tmp 37) rfl g (0 + (k + 1) * 1) (.slice va r.2.length vc) _ e38 e37 hcell (hu1.soft _) info_1s rfl ?_)
     refine ⟨_,rfl,fun i d _ hd hv' => hv'.up fun hi hv' => ?_,Vp.W.mk (by decide) trivial,⟨(fun e => by have e:true = false:=e;cases e),fun _ => ⟨r,hr,hck,hset'⟩,fun _ => op_up hu 7 (by kernel_rfl)⟩⟩
     by_cases h7:i = 7
     ·subst h7
      have hd:some 37 = some d:=hd
      injection hd with hd
      subst hd
      exact ⟨r,va,vc,hr,e37,hvk⟩
     ·unfold V5 at hv' ⊢
      rw [if_neg h7] at hv' ⊢
      exact hv'
   intro a' w8 h hall
   have hall2:=hall [37,38] (by kernel_rfl)
   clear hall
   obtain ⟨r7,va7,vc7,_,e37,_⟩:=(h.vals 7 37 rfl rfl).post (by decide)
   have e38:a'.tmps.getD 38 undef = .pointer (some ⟨g,0 + (k + 1) * 1,none⟩):=(h.vals 8 38 rfl rfl).post (by decide)
   obtain ⟨r,hr,hds⟩:=h.st.y rfl
   have HN:Hid (foldO (fun t u => if (x.ino (t + 1)).kind = 2 then (x.dirF (t + 1)).map (fun r => updN u (t + 1) r.2) else some u) (k + 1) (fun _ => []) = some (updN u (k + 1) r.2)):=foldO_next HFO.out (by rw [if_pos (by rw [← HKD.out];exact HK2.out),hr];rfl)
   have ST8:=Lib.hid hds
   rw [List.foldl_cons,List.foldl_cons,List.foldl_nil,e37,e38] at hall2
   simp only [Act.put,List.setIfInBounds_toArray,List.set_cons_succ,List.set_cons_zero] at hall2
   subst hall2
   clear h e37 e38 hr hds ST c11 cK
   go_wp2_with fail
   go_roundw
   case rel => first | exact ⟨k + 1,_,by omega,by first | rfl | go_num,HN.out,ST8.out⟩ | ((repeat apply Exists.intro);exact ⟨⟨k + 1,_,by omega,by first | rfl | go_num,HN.out,ST8.out⟩,rfl⟩)
   case measure => simp [intOf] <;> omega
  ·obtain rfl:k = x.ni:=by omega
   go_wp2_with fail
   refine bodyPost_end (results_none rfl _ _ _) rfl ⟨ST.out.s.gr,.inr ⟨u,g,HFO.out,rfl,HGW.out,(HCS.out _ ST.out.s.a).2.2,ST.out.u⟩⟩
namespace MS
theorem takeF_le (x:Im):∀ (f:Nat) (m:MS),(takeF x f m).1 = 0 ∨ (takeF x f m).1 < m.next + f
 | 0,m => .inl rfl
 | f + 1,m => by
  rw [takeF]
  split
  ·right;show m.next < m.next + (f + 1);omega
  ·rcases takeF_le x f { m with next:=m.next + 1 } with h | h
   ·exact .inl h
   ·right
    have h:_ < m.next + 1 + f:=h
    omega
theorem take_le (x:Im) (m:MS):(m.take x).1 ≤ x.n:=by
 rcases takeF_le x (x.n - m.next) m with h | h
 ·show (takeF x (x.n - m.next) m).1 ≤ x.n;omega
 ·show (takeF x (x.n - m.next) m).1 ≤ x.n
  by_cases e:m.next ≤ x.n
  ·omega
  ·have:x.n - m.next = 0:=by omega
   rw [this] at h ⊢
   rw [takeF];exact Nat.zero_le _
theorem hang_ok {x:Im} (hn:x.n ≤ 2048) {y:Ino} (hy:y.Ok) (i:Int) (m:MS):(hang x y i m).2.1.Ok ∧ (hang x y i m).2.1.kind = y.kind:=by
 unfold hang
 split
 ·exact ⟨hy,rfl⟩
 ·split
  ·refine ⟨⟨hy.kind,hy.links,hy.gen,hy.size,fun q => ?_,hy.next⟩,rfl⟩
   dsimp only
   split
   ·have:=take_le x m;omega
   ·exact hy.p q
  ·exact ⟨hy,rfl⟩
end MS
namespace PlanD
theorem itr_inv {α:Type} (Q:α → Prop) {f:Nat → α → α}:∀ (n:Nat) (a:α),Q a → (∀ k b,k < n → Q b → Q (f k b)) → Q (itr f n a)
 | 0,_,h,_ => h
 | n + 1,a,h,hs => hs n _ (by omega) (itr_inv Q n a h fun k b hk hb => hs k b (by omega) hb)
theorem inoH_ok (P:PlanD) {x:Im} (hn:x.n ≤ 2048) {l:List Slt} (hl:l.length ≤ 4000) (i:Nat) {h:HS} (hy:h.y.Ok):(P.inoH x l i h).y.Ok:=by
 unfold inoH
 split
 ·refine itr_inv (fun h:HS => h.y.Ok) _ _ ?_ fun k b hk hb => ?_
  ·exact ⟨hy.kind,hy.links,hy.gen,by dsimp only;omega,hy.p,hy.next⟩
  ·exact (MS.hang_ok hn hb _ _).1
 ·split
  ·exact hy
  ·exact itr_inv (fun h:HS => h.y.Ok) _ _ hy fun k b hk hb => (MS.hang_ok hn hb _ _).1
theorem fill_ok (P:PlanD) {x:Im} (hn:x.n ≤ 2048) {a:IS} {m:MS} (ha:∀ t,(a.ino t).Ok) (hl:∀ t,(a.sl t).length ≤ 4000):∀ k t,((P.fill x a m k).ino t).Ok
 | 0,t => ha t
 | k + 1,t => by
  have ih:=fill_ok P hn ha hl (m:=m) k
  show ((P.fillF x a.sl k (P.fill x a m k)).ino t).Ok
  unfold fillF updN
  dsimp only
  split
  ·exact inoH_ok P hn (hl k) k (ih k)
  ·exact ih t
theorem name_len (P:PlanD) (N i:Nat):∀ (s:Nat) (a:IS) (t:Nat),((itr (P.nameF N i) s a).sl t).length ≤ (a.sl t).length + s ∧ ∀ e,e ∈ (itr (P.nameF N i) s a).sl t → e ∈ a.sl t ∨ e.1 = i + 1
 | 0,a,t => ⟨Nat.le_refl _,fun e h => .inl h⟩
 | s + 1,a,t => by
  obtain ⟨h1,h2⟩:=name_len P N i s a t
  show ((P.nameF N i s (itr (P.nameF N i) s a)).sl t).length ≤ _ ∧ ∀ e,e ∈ (P.nameF N i s (itr (P.nameF N i) s a)).sl t → _
  generalize itr (P.nameF N i) s a = b at h1 h2 ⊢
  unfold nameF
  split
  ·unfold updN
   dsimp only
   split
   ·rename_i e
    subst e
    refine ⟨by rw [List.length_append];show _ + 1 ≤ _;omega,fun e he => ?_⟩
    rcases List.mem_append.1 he with h | h
    ·exact h2 e h
    ·right;rw [List.mem_singleton.1 h]
   ·exact ⟨by omega,h2⟩
  ·exact ⟨by omega,h2⟩
theorem isF_len (P:PlanD) (N:Nat):∀ (k t:Nat),((P.isF N k).sl t).length ≤ P.cn k ∧ ∀ e,e ∈ (P.isF N k).sl t → e.1 ≤ k + 1
 | 0,t => ⟨Nat.le_refl _,fun e h => absurd h (List.not_mem_nil)⟩
 | k + 1,t => by
  obtain ⟨h1,h2⟩:=isF_len P N k t
  obtain ⟨g1,g2⟩:=name_len P N (k + 1) (P.f k).nn { P.isF N k with ino:=updN (P.isF N k).ino (k + 1) ⟨(P.f k).kind,(P.f k).links,((k + 1:Nat):Int),(P.f k).size,fun _ => 0,0⟩ } t
  refine ⟨?_,fun e he => ?_⟩
  ·refine Nat.le_trans g1 ?_
   rw [cn]
   show ((P.isF N k).sl t).length + _ ≤ _
   omega
  ·rcases g2 e he with h | h
   ·have:=h2 e h;omega
   ·omega
theorem wrap_bd (v:Int):-9223372036854775808 ≤ IntKind.i64.wrap v ∧ IntKind.i64.wrap v ≤ 9223372036854775807:=by
 have e:IntKind.i64.wrap v = if v % 18446744073709551616 ≥ 9223372036854775808 then v % 18446744073709551616 - 18446744073709551616 else v % 18446744073709551616:=by
  simp [IntKind.wrap,IntKind.bits,IntKind.signed]
 rw [e]
 split <;> omega
theorem wrap64_eq (v:Int):wrap64 v = IntKind.i64.wrap v:=by
 have e:IntKind.i64.wrap v = if v % 18446744073709551616 ≥ 9223372036854775808 then v % 18446744073709551616 - 18446744073709551616 else v % 18446744073709551616:=by
  simp [IntKind.wrap,IntKind.bits,IntKind.signed]
 rw [e]
 unfold wrap64
 split <;> omega
theorem name_ok (P:PlanD) (N i:Nat) (s:Nat) (a:IS) (ha:∀ t,(a.ino t).Ok ∧ ∀ q,(a.ino t).p q = 0):∀ t,((itr (P.nameF N i) s a).ino t).Ok ∧ ∀ q,((itr (P.nameF N i) s a).ino t).p q = 0:=by
 refine itr_inv (fun a:IS => ∀ t,(a.ino t).Ok ∧ ∀ q,(a.ino t).p q = 0) s a ha fun k b hk hb t => ?_
 unfold nameF
 split
 ·unfold updN
  dsimp only
  split
  ·exact ⟨⟨(hb i).1.kind,wrap_bd _,(hb i).1.gen,(hb i).1.size,(hb i).1.p,(hb i).1.next⟩,(hb i).2⟩
  ·exact hb t
 ·exact hb t
theorem isF_ok (P:PlanD) (hB:P.Bd) (N:Nat):∀ k,k ≤ 4096 → ∀ t,((P.isF N k).ino t).Ok ∧ ∀ q,((P.isF N k).ino t).p q = 0
 | 0,_,t => by
  show (is0.ino t).Ok ∧ ∀ q,(is0.ino t).p q = 0
  unfold is0 updN
  dsimp only
  split
  ·exact ⟨⟨by decide,by decide,by decide,by decide,fun i => ⟨Int.le_refl 0,(by decide:(0:Int) < 4294967296)⟩,by decide⟩,fun q => rfl⟩
  ·exact ⟨⟨by decide,by decide,by decide,by decide,fun i => ⟨Int.le_refl 0,(by decide:(0:Int) < 4294967296)⟩,by decide⟩,fun q => rfl⟩
 | k + 1,hk,t => by
  have ih:=isF_ok P hB N k (by omega)
  refine name_ok P N (k + 1) (P.f k).nn { P.isF N k with ino:=updN (P.isF N k).ino (k + 1) ⟨(P.f k).kind,(P.f k).links,((k + 1:Nat):Int),(P.f k).size,fun _ => 0,0⟩ } (fun t => ?_) t
  unfold updN
  dsimp only
  split
  ·exact ⟨⟨hB.kind k,hB.links k,by dsimp only;omega,hB.size k,fun i => ⟨Int.le_refl 0,(by decide:(0:Int) < 4294967296)⟩,⟨Int.le_refl 0,(by decide:(0:Int) < 4294967296)⟩⟩,fun _ => rfl⟩
  ·exact ih t
theorem cn_mono (P:PlanD) {k n:Nat} (h:k < n):P.cn (k + 1) ≤ P.cn n:=by
 induction n with
 | zero => omega
 | succ n ih =>
  by_cases e:k = n
  ·subst e;exact Nat.le_refl _
  ·have:=ih (by omega)
   rw [cn.eq_2 P n]
   omega
def partF (P:PlanD) (N k t:Nat):IS:=itr (P.nameF N (k + 1)) t { P.isF N k with ino:=updN (P.isF N k).ino (k + 1) ⟨(P.f k).kind,(P.f k).links,((k + 1:Nat):Int),(P.f k).size,fun _ => 0,0⟩ }
theorem part_len (P:PlanD) (N k t r:Nat) (hS:P.cn (k + 1) ≤ 1000) (ht:t ≤ (P.f k).nn):((P.partF N k t).sl r).length ≤ 1000:=by
 refine Nat.le_trans (name_len P N (k + 1) t _ r).1 (Nat.le_trans (Nat.add_le_add (isF_len P N k r).1 ht) ?_)
 rw [cn] at hS
 omega
theorem img_end (P:PlanD) (x:Im):P.img x = P.endL x (P.fill x ⟨(P.isF (P.n x) (P.n x)).ino,(P.isF (P.n x) (P.n x)).sl⟩ ⟨mkB x.g x.s x.i x.j,0⟩ (P.n x + 1)).m.L (P.fill x ⟨(P.isF (P.n x) (P.n x)).ino,(P.isF (P.n x) (P.n x)).sl⟩ ⟨mkB x.g x.s x.i x.j,0⟩ (P.n x + 1)).ino (P.n x):=rfl
end PlanD
def obk (a:Option Addr):Option Nat:=(Value.slice a 0 0).ownBlock
theorem obk_eq (a:Option Addr) (n c:Nat):(Value.slice a n c).ownBlock = obk a:=by cases a <;> rfl
theorem run_append_far {P:Program} (w:World) (base:Nat) (t ty e:TypeId) (i:TypeInfo) (z:Value) (size bytes:Nat) (ht:P.underlying t = some (.slice e)) (hi:P.info? e = some i) (hz:i.zero = some z)
  (hsize:i.size = size) (hby:i.bytes = bytes) (hzs:z.cells.size = size) (hsz:0 < size) (v:Value) (n:Nat) (xs:List Value) (hown:w.ownsRow base e size v n xs)
  (a:Addr) (m c:Nat) (news:List Value) (hl:news.length = m * size) (hnews:∀ j u,news[j]? = some u → w.cell? (a.add j) = some u) (h1:∀ u ∈ news,u.oneCell' = true)
  (h63:n + m ≤ maxLen) (hbytes:(n + m) * bytes ≤ 140737488355328) (hbase:base ≤ w.heap.size) (hm:0 < m) :
  ∃ v' w',(Builtin.append_ #[t,t] ty #[v,.slice (some a) m c]).run P w = .ok v' w' ∧ w'.ownsRow base e size v' (n + m) (xs ++ news) ∧ w.grownBy w' v.ownBlock ∧ (v'.ownBlock = v.ownBlock ∨ v'.ownBlock = some w.heap.size):=by
 obtain ⟨v',w',hr,h2,h3,_⟩:=run_append_own (P:=P) w base t ty e i z size bytes ht hi hz hsize hby hzs hsz v n xs hown a m c news hl hnews h1 h63 hbytes hbase
 refine ⟨v',w',hr,h2,h3,?_⟩
 subst hsize hby
 have h63':n + m ≤ 9223372036854775807:=by simp only [maxLen] at h63;omega
 rcases hown.2 with ⟨rfl,rfl⟩ | ⟨g,cap,cur,rfl,hbg,hg,hnc,hcm,hcs,htake⟩
 ·have hr2:=run_append_nil (P:=P) w t ty e i z ht hi hz a m c news hl hnews (by omega) (by omega) (by have hb:=hbytes;simp only [Nat.zero_add] at hb;omega)
  rw [hr] at hr2
  injection hr2 with e1 e2
  right;rw [e1];rfl
 ·by_cases hroom:n + m ≤ cap
  ·have hfit:n * i.size + news.length ≤ cur.size:=by rw [hl,hcs,← Nat.add_mul];exact Nat.mul_le_mul_right _ hroom
   have hr2:=run_append_room (P:=P) w t ty e i ht hi g n cap cur hg a m c news hl hnews h1 hroom hfit
   rw [hr] at hr2
   injection hr2 with e1 e2
   left;rw [e1];rfl
  ·have holds:∀ j u,xs[j]? = some u → w.cell? ((⟨g,0,none⟩:Addr).add j) = some u:=hown.cells (g:=g) rfl
   have hr2:=run_append_grow (P:=P) w t ty e i z ht hi hz ⟨g,0,none⟩ n cap xs hown.1 holds a m c news hl hnews (by omega) (by omega) (growslice_fits (by omega) hbytes)
   rw [hr] at hr2
   injection hr2 with e1 e2
   right;rw [e1];rfl
structure SlU (W:World) (base sb n:Nat) (sl:Nat → List Slt) (a:Nat → Option Addr) (c:Nat → Nat):Prop where
 u:RArr W sb 88 1 n (fun t => [.slice (a t) (sl t).length (c t)])
 r:∀ t,t < n → RMine W base 90 2 (.slice (a t) (sl t).length (c t)) (sl t).length (slvL (sl t))
 ne:∀ s t,s < n → t < n → s ≠ t → obk (a s) = none ∨ obk (a s) ≠ obk (a t)
theorem SlU.below {W W':World} {base sb n:Nat} {sl:Nat → List Slt} {a:Nat → Option Addr} {c:Nat → Nat} (h:SlU W base sb n sl a c) (hb:Below W.heap.size W W'):SlU W' base sb n sl a c :=
 ⟨h.u.below hb,fun t ht => (h.r t ht).below hb,h.ne⟩
structure ImC (M q Y N p:Nat) (x:Im) (m:MS) (ys:Nat → Ino) (d:PlAd) (P:PlanD) (w W:World):Prop where
 pm:PlM M q x m W
 y:RArr W Y 63 16 N (inF7 ys)
 bx:At W p 27 (plRow x.g x.s x.i x.j d P)
 r:PlnR w.heap.size d P W
 bel:Below w.heap.size w W
 le:w.heap.size ≤ M ∧ w.heap.size ≤ q ∧ w.heap.size ≤ Y ∧ w.heap.size ≤ p
section
variable {M q Y N p:Nat} {x:Im} {m:MS} {ys:Nat → Ino} {d:PlAd} {P:PlanD} {w W W':World}
theorem ImC.grown (h:ImC M q Y N p x m ys d P w W) {row:Option Nat} (hg:W.grownBy W' row) (hr:∀ r,row = some r → w.heap.size ≤ r ∧ r ≠ M ∧ r ≠ q ∧ r ≠ Y ∧ r ≠ p):ImC M q Y N p x m ys d P w W':=by
 obtain ⟨f,hf⟩:=h.pm.k
 have hb:Below w.heap.size W W':=(Below.refl _ _).grown hg h.bel.size (fun r e => (hr r e).1)
 exact ⟨⟨⟨f,AtGrown hf hg fun e => (hr _ e).2.1 rfl⟩,h.pm.im.grown hg fun e => (hr _ e.symm).2.2.1 rfl⟩,h.y.grown hg fun e => (hr _ e.symm).2.2.2.1 rfl,AtGrown h.bx hg fun e => (hr _ e).2.2.2.2 rfl,h.r.below hb,h.bel.trans hb,h.le⟩
theorem ImC.below (h:ImC M q Y N p x m ys d P w W) (hb:Below W.heap.size W W'):ImC M q Y N p x m ys d P w W' :=
 h.grown (row:=none) (grown_below hb) (fun r e => by cases e)
theorem ImC.only (h:ImC M q Y N p x m ys d P w W) {g:Nat} (hg:Only g W W') (hr:w.heap.size ≤ g ∧ g ≠ M ∧ g ≠ q ∧ g ≠ Y ∧ g ≠ p):ImC M q Y N p x m ys d P w W' :=
 h.grown (row:=some g) (grown_only hg) (fun r e => by injection e with e;exact e ▸ hr)
theorem ImC.neY (h:ImC M q Y N p x m ys d P w W):M ≠ Y ∧ q ≠ Y ∧ p ≠ Y:=by
 obtain ⟨f,hf⟩:=h.pm.k
 obtain ⟨c1,h1,_⟩:=h.pm.im.blk
 obtain ⟨cs,hc,_⟩:=h.y.blk
 exact ⟨At.unlike hf hc (by decide),At.unlike h1 hc (by decide),At.unlike h.bx hc (by decide)⟩
theorem ImC.putI (h:ImC M q Y N p x m ys d P w W) {i:Nat} (hi:i < N) (y:Ino) (hW:W' = W.setCells Y (i * 16) y.arr.toList):ImC M q Y N p x m (updN ys i y) d P w W' ∧ Only Y W W':=by
 subst hW
 obtain ⟨h1,h2⟩:=h.y.set hi (vs:=y.arr.toList) rfl (fun _ => rfl)
 obtain ⟨n1,n2,n3⟩:=h.neY
 obtain ⟨f,hf⟩:=h.pm.k
 have hb:Below w.heap.size W (W.setCells Y (i * 16) y.arr.toList):=h2.below h.le.2.2.1
 refine ⟨⟨⟨⟨f,hf.only h2 n1⟩,h.pm.im.only h2 n2⟩,h1.congr fun j _ => ?_,h.bx.only h2 n3,h.r.below hb,h.bel.trans hb,h.le⟩,h2⟩
 unfold inF7 updN
 split <;> rfl
theorem ImC.putL (h:ImC M q Y N p x m ys d P w W) {i:Nat} (hi:i < N) (v:Int):ImC M q Y N p x m (updN ys i { ys i with links:=v }) d P w (W.setCell ⟨Y,i * 16 + 1,none⟩ (.int .i64 v)) ∧ Only Y W (W.setCell ⟨Y,i * 16 + 1,none⟩ (.int .i64 v)):=by
 have ho:Only Y W (W.setCell ⟨Y,i * 16 + 1,none⟩ (.int .i64 v)):=Only.setCell W ⟨Y,i * 16 + 1,none⟩ (.int .i64 v)
 obtain ⟨n1,n2,n3⟩:=h.neY
 obtain ⟨f,hf⟩:=h.pm.k
 have hb:Below w.heap.size W (W.setCell ⟨Y,i * 16 + 1,none⟩ (.int .i64 v)):=ho.below h.le.2.2.1
 refine ⟨⟨⟨⟨f,hf.only ho n1⟩,h.pm.im.only ho n2⟩,?_,h.bx.only ho n3,h.r.below hb,h.bel.trans hb,h.le⟩,ho⟩
 have:=h.y.cellset (k:=i) (j:=1) hi (by omega) (fun j => inF7_len ys j) (.int .i64 v)
 refine this.congr fun j hj => ?_
 unfold inF7 updN
 by_cases e:j = i
 ·subst e;rw [if_pos rfl,if_pos rfl];rfl
 ·rw [if_neg e,if_neg e]
theorem ImC.links (h:ImC M q Y N p x m ys d P w W) {i:Nat} (hi:i < N):W.cell? ⟨Y,i * 16 + 1,none⟩ = some (.int .i64 (ys i).links):=by
 have:=h.y.seg i hi 1 _ rfl
 rwa [Nat.zero_add] at this
end
end Go.Proofs.YtphamecphmbipaaGreatDoor
