/- Texts of this claim, merged. -/
import Derived.Test.YtphamecphmbipaaGreatDoorK19
namespace Go.Proofs.YtphamecphmbipaaGreatDoor
open Go.RowKit
set_option linter.unusedVariables false
section
attribute [local go_sem] Oper.semAt_some
def dig:Nat → Nat → List Nat
 | 0,_ => []
 | r + 1,a => a / 64 ^ r :: dig r (a % 64 ^ r)
theorem wayB_dig {i:Nat}:Im.wayB i = dig (Im.lvl (Im.wayP i)) (i - Im.fst (Im.wayP i)):=by
 unfold Im.wayB Im.wayP Im.lvl Im.fst
 by_cases h1:i < 8
 ·rw [if_pos h1,if_pos h1,if_pos h1];rfl
 rw [if_neg h1,if_neg h1]
 by_cases h2:i < 72
 ·rw [if_pos h2,if_pos h2]
  show _ = [(i - 8) / 1]
  rw [Nat.div_one]
 rw [if_neg h2,if_neg h2]
 by_cases h3:i < 4168
 ·rw [if_pos h3,if_pos h3]
  show _ = [(i - 72) / 64,(i - 72) % 64 / 1]
  rw [Nat.div_one]
 ·rw [if_neg h3,if_neg h3]
  show _ = [(i - 4168) / 4096,(i - 4168) % 4096 / 64,(i - 4168) % 4096 % 64 / 1]
  rw [Nat.div_one,Nat.mod_mod_of_dvd _ (by decide:64 ∣ 4096)]
theorem wayP_of {i k:Nat} (hi:i < 65536) (hk:k < 11) (h1:fstX k ≤ i) (h2:i < fstX (k + 1)):Im.wayP i = k:=by
 unfold Im.wayP
 have:k = 0 ∨ k = 1 ∨ k = 2 ∨ k = 3 ∨ k = 4 ∨ k = 5 ∨ k = 6 ∨ k = 7 ∨ k = 8 ∨ k = 9 ∨ k = 10:=by omega
 rcases this with rfl | rfl | rfl | rfl | rfl | rfl | rfl | rfl | rfl | rfl | rfl <;> (unfold fstX at h1 h2;simp at h1 h2;split <;> (try split) <;> (try split) <;> omega)
def nmF (l:List Nat) (k:Nat):List Value:=[.int .i64 ((l.getD k 0:Nat):Int)]
theorem nmF_len (l:List Nat) (k:Nat):(nmF l k).length = 1:=rfl
structure OfS (w:World) (i pv av:Int) (bv:Value) (W:World):Prop where
 i:At W w.heap.size 3 #[.int .i64 i]
 p:At W (w.heap.size + 1) 3 #[.int .i64 pv]
 b:At W (w.heap.size + 2) 37 #[bv]
 a:At W (w.heap.size + 3) 3 #[.int .i64 av]
 bel:Below w.heap.size w W
section
variable {w:World} {i pv av:Int} {bv:Value} {W W':World}
theorem OfS.kept {B:Nat} (hB:w.heap.size ≤ B):Kept B (OfS w i pv av bv):=fun A C row h hg hr =>
 ⟨Kept.at _ _ A C row h.i hg hr,Kept.at _ _ A C row h.p hg hr,Kept.at _ _ A C row h.b hg hr,Kept.at _ _ A C row h.a hg hr,Kept.below w hB (Nat.le_refl _) A C row h.bel hg hr⟩
theorem OfS.below (h:OfS w i pv av bv W) (hb:Below W.heap.size W W'):OfS w i pv av bv W' :=
 ⟨h.i.below hb h.i.lt,h.p.below hb h.p.lt,h.b.below hb h.b.lt,h.a.below hb h.a.lt,h.bel.trans (hb.mono h.bel.size)⟩
theorem OfS.setP (h:OfS w i pv av bv W) (v:Int):OfS w i v av bv (W.setCell ⟨w.heap.size + 1,0,none⟩ (.int .i64 v)):=by
 have ho:=Only.setCell W ⟨w.heap.size + 1,0,none⟩ (.int .i64 v)
 exact ⟨h.i.only ho (by simp),heap_setCell_at h.p 0 _,h.b.only ho (by simp),h.a.only ho (by simp),h.bel.trans (ho.below (by simp))⟩
theorem OfS.setB (h:OfS w i pv av bv W) (v:Value):OfS w i pv av v (W.setCell ⟨w.heap.size + 2,0,none⟩ v):=by
 have ho:=Only.setCell W ⟨w.heap.size + 2,0,none⟩ v
 exact ⟨h.i.only ho (by simp),h.p.only ho (by simp),heap_setCell_at h.b 0 _,h.a.only ho (by simp),h.bel.trans (ho.below (by simp))⟩
theorem OfS.setA (h:OfS w i pv av bv W) (v:Int):OfS w i pv v bv (W.setCell ⟨w.heap.size + 3,0,none⟩ (.int .i64 v)):=by
 have ho:=Only.setCell W ⟨w.heap.size + 3,0,none⟩ (.int .i64 v)
 exact ⟨h.i.only ho (by simp),h.p.only ho (by simp),h.b.only ho (by simp),heap_setCell_at h.a 0 _,h.bel.trans (ho.below (by simp))⟩
theorem OfS.grown (h:OfS w i pv av bv W) {n:Nat} {v:Value} {xs:List Value} (ho:W.ownsRow (w.heap.size + 4) 3 1 v n xs) (hg:W.grownBy W' v.ownBlock):OfS w i pv av bv W':=by
 have hob:∀ x,v.ownBlock = some x → w.heap.size + 4 ≤ x:=fun x e => (World.ownsRow.lt ho x e).1
 exact ⟨AtGrown h.i hg (fun e => by have:=hob _ e;omega),AtGrown h.p hg (fun e => by have:=hob _ e;omega),AtGrown h.b hg (fun e => by have:=hob _ e;omega),AtGrown h.a hg (fun e => by have:=hob _ e;omega),h.bel.grown hg h.bel.size (fun x e => by have:=hob x e;omega)⟩
end
structure OfA (w:World) (i:Int) (W:World):Prop where
 i:At W w.heap.size 3 #[.int .i64 i]
 p:At W (w.heap.size + 1) 3 #[.int .i64 0]
 b:At W (w.heap.size + 2) 37 #[.slice none 0 0]
 bel:Below w.heap.size w W
 sz:W.heap.size = w.heap.size + 3
theorem OfA.ofS {w:World} {i:Int} {W:World} (h:OfA w i W):OfS w i 0 0 (.slice none 0 0) (W.alloc (.cells #[.int .i64 0] 3)) :=
 ⟨h.i.alloc _,h.p.alloc _,h.b.alloc _,by have:=At.new W 3 #[.int .i64 0];rwa [h.sz] at this,h.bel.alloc (by have:=h.sz;omega) _⟩
structure OfR (w:World) (B0:Nat) (W0:World) (i pv av:Int) (bv:Value) (ds:List Nat) (W:World):Prop where
 s:OfS w i pv av bv W
 r:RMine W (w.heap.size + 4) 3 1 bv ds.length (nmF ds)
 keep:KeepsFrom B0 W0 W
theorem ownsC {W:World} {base k m:Nat} {e:TypeId} {v:Value} {f:Nat → List Value} (h:RMine W base e m v k f) {g j:Nat} (hg:g < base) (u:Value):RMine (W.setCell ⟨g,j,none⟩ u) base e m v k f :=
 own_only h (Only.setCell W ⟨g,j,none⟩ u) (fun e => by have:=(World.ownsRow.lt h g e).1;omega)
section
variable {w:World} {B0:Nat} {W0:World} {i pv av:Int} {bv:Value} {ds:List Nat} {W W':World}
theorem OfR.below (h:OfR w B0 W0 i pv av bv ds W) (hb:Below W.heap.size W W'):OfR w B0 W0 i pv av bv ds W':=⟨h.s.below hb,RMine.below h.r hb,h.keep.trans (Below.keeps hb)⟩
theorem OfR.drew (h:OfR w B0 W0 i pv av bv ds W) (n:Nat):OfR w B0 W0 i pv av bv ds { W with drawn:=n }:=h.below ⟨rfl,rfl,rfl,Nat.le_refl _,fun _ _ => rfl⟩
theorem OfR.setP (h:OfR w B0 W0 i pv av bv ds W) (v:Int):OfR w B0 W0 i v av bv ds (W.setCell ⟨w.heap.size + 1,0,none⟩ (.int .i64 v)) :=
 ⟨h.s.setP v,ownsC h.r (by omega) _,h.keep.trans (keeps_cell h.s.p)⟩
theorem OfR.setA (h:OfR w B0 W0 i pv av bv ds W) (v:Int):OfR w B0 W0 i pv v bv ds (W.setCell ⟨w.heap.size + 3,0,none⟩ (.int .i64 v)) :=
 ⟨h.s.setA v,ownsC h.r (by omega) _,h.keep.trans (keeps_cell h.s.a)⟩
end
structure C13 (w:World) (B0:Nat) (W0:World) (i pv av:Int) (bv:Value) (ds:List Nat) (D:Nat) (t:Mv.St) (W:World):Prop where
 s:OfS w i pv av bv W
 r0:t.n < 2 → RMine W (w.heap.size + 4) 3 1 bv ds.length (nmF ds)
 r1:t.n = 1 → ∀ g,t.v = .slice (some ⟨g,0,none⟩) 1 1 → W.cell? ⟨g,0,none⟩ = some (.int .i64 (D:Int))
 r2:t.n = 2 → RMine W (w.heap.size + 4) 3 1 t.v (ds.length + 1) (nmF (ds ++ [D]))
 keep:KeepsFrom B0 W0 W
theorem C13.below {w:World} {B0:Nat} {W0:World} {i pv av:Int} {bv:Value} {ds:List Nat} {D:Nat} {t:Mv.St} {W W':World} (h:C13 w B0 W0 i pv av bv ds D t W) (hb:Below W.heap.size W W'):C13 w B0 W0 i pv av bv ds D t W' :=
 ⟨h.s.below hb,fun e => RMine.below (h.r0 e) hb,fun e g eg => (hb.cell (p:=⟨g,0,none⟩) (World.block_lt_of_cell? W _ (h.r1 e g eg))).trans (h.r1 e g eg),fun e => RMine.below (h.r2 e) hb,h.keep.trans (Below.keeps hb)⟩
theorem OfR.start {w:World} {B0:Nat} {W0:World} {i pv av:Int} {bv:Value} {ds:List Nat} {D:Nat} {W:World} (h:OfR w B0 W0 i pv av bv ds W):C13 w B0 W0 i pv av bv ds D ⟨0,undef⟩ W :=
 ⟨h.s,fun _ => h.r,(fun e => by cases e),(fun e => by cases e),h.keep⟩
theorem run_int1c (v:Int) (W:World):(Instr.buildSlice 37 1 #[(0,.int .i64 v)]).run Tryz.prog W = .ok (.slice (some ⟨W.heap.size,0,none⟩) 1 1) (W.alloc (.cells #[.int .i64 v] 3)):=by kernel_rfl
theorem info_1:(Tryz.prog.info? 3).map (·.size) = some 1:=by kernel_rfl
theorem info_1s:(Tryz.prog.info? 37).map (·.size) = some 1:=by kernel_rfl
theorem nmF_app (ds:List Nat) (D k:Nat) (hk:k < ds.length):nmF ds k = nmF (ds ++ [D]) k:=by
 unfold nmF
 rw [List.getD_eq_getElem?_getD,List.getD_eq_getElem?_getD,List.getElem?_append_left hk]
theorem nmF_new (ds:List Nat) (D:Nat):nmF (ds ++ [D]) ds.length = [.int .i64 (D:Int)]:=by
 unfold nmF
 rw [List.getD_eq_getElem?_getD,List.getElem?_append_right (Nat.le_refl _),Nat.sub_self];rfl
theorem results_of {fn:Func} (h:fn.results = #[.cell 2 3,.cell 3 37,.tmp 4]) (tmps:Array Value) (W:World) (b2 b3:Nat) (u v x:Value)
  (hp2:tmps.getD 2 undef = .pointer (some ⟨b2,0,none⟩)) (hp3:tmps.getD 3 undef = .pointer (some ⟨b3,0,none⟩)) (hp4:tmps.getD 4 undef = x)
  (h2:W.cell? ⟨b2,0,none⟩ = some u) (h3:W.cell? ⟨b3,0,none⟩ = some v) (hu:u.oneCell' = true) (hv:v.oneCell' = true):(results fn tmps).run Tryz.prog W = .ok (.tuple #[u,v,x]) W:=by
 have hp2':tmps[2]?.getD undef = .pointer (some ⟨b2,0,none⟩):=by simpa using hp2
 have hp3':tmps[3]?.getD undef = .pointer (some ⟨b3,0,none⟩):=by simpa using hp3
 have hp4':tmps[4]?.getD undef = x:=by simpa using hp4
 simp [results,h,hp2',hp3',hp4',go_sem,h2,h3]
structure OfD (w:World) (i pv av:Int) (a:Option Addr) (n cap:Nat) (f:Nat → List Value) (D:Nat) (W:World):Prop where
 s:OfS w i pv av (.slice a n cap) W
 r:RMine W (w.heap.size + 4) 3 1 (.slice a n cap) n f
 d:W.heap[D]? = some (.deferred (some []))
section
variable {w:World} {i pv av:Int} {a:Option Addr} {n cap:Nat} {f:Nat → List Value} {D:Nat} {W:World}
theorem OfD.setP (h:OfD w i pv av a n cap f D W) (hD:w.heap.size + 4 ≤ D):OfD w i pv av a n cap f D (W.setCell ⟨w.heap.size + 1,0,none⟩ (.int .i64 pv)) :=
 ⟨h.s.setP pv,ownsC h.r (by omega) _,((Only.setCell W ⟨w.heap.size + 1,0,none⟩ (.int .i64 pv)).block D (by show D ≠ w.heap.size + 1;omega)).trans h.d⟩
theorem OfD.setB (h:OfD w i pv av a n cap f D W) (hD:w.heap.size + 4 ≤ D):OfD w i pv av a n cap f D (W.setCell ⟨w.heap.size + 2,0,none⟩ (.slice a n cap)) :=
 ⟨h.s.setB _,ownsC h.r (by omega) _,((Only.setCell W ⟨w.heap.size + 2,0,none⟩ (.slice a n cap)).block D (by show D ≠ w.heap.size + 2;omega)).trans h.d⟩
end
set_option maxRecDepth 100000 in
set_option maxHeartbeats 8000000 in
theorem pthOf_any (i:Nat) (hi:i < 65536) (w:World):Calls Tryz.prog 96 #[.int .i64 (i:Int)] w fun e w' => ∃ a c,e = .returned (.tuple #[.int .i64 ((Im.wayP i:Nat):Int),.slice a (Im.wayB i).length c,.int .i64 0]) ∧
   RRow w' a 1 (Im.wayB i).length (nmF (Im.wayB i)) ∧ Below w.heap.size w w':=by
 refine (callsIn_wide (n:=5)).1 (callsIn_of_wp_marks Tryz.func96 rfl trivial ?_ rfl)
 refine wpIn_wide.2 ?_
 simp only [Tryz.ntmps96,List.size_toArray,List.length_cons,List.length_nil,Nat.reduceAdd,Nat.reduceSub,Array.replicate_succ,Array.replicate_zero,List.push_toArray,List.append_toArray,List.nil_append,List.cons_append]
 have st0:Hid (OfA w (i:Int) (((w.alloc (.cells #[.int .i64 (i:Int)] 3)).alloc (.cells #[.int .i64 0] 3)).alloc (.cells #[.slice none 0 0] 37))):=by
  refine ⟨((At.new w _ _).alloc _).alloc _,?_,?_,(((Below.refl _ _).alloc (Nat.le_refl _) _).alloc (by simp) _).alloc (by simp;omega) _,by simp⟩
  ·have:=(At.new (w.alloc (.cells #[.int .i64 (i:Int)] 3)) 3 #[.int .i64 0]).alloc (.cells #[.slice none 0 0] 37)
   simpa only [World.size_alloc] using this
  ·have:=At.new ((w.alloc (.cells #[.int .i64 (i:Int)] 3)).alloc (.cells #[.int .i64 0] 3)) 37 #[.slice none 0 0]
   simpa only [World.size_alloc] using this
 have h1:¬ (i:Int) < 0:=by omega
 have h2:¬ (65536:Int) ≤ (i:Int):=by omega
 have hd1:decide ((i:Int) < 0) = false:=decide_eq_false h1
 have hd2:decide ((65536:Int) ≤ (i:Int)) = false:=decide_eq_false h2
 obtain ⟨W0,hW0⟩:∃ W0,W0 = (((w.alloc (.cells #[.int .i64 (i:Int)] 3)).alloc (.cells #[.int .i64 0] 3)).alloc (.cells #[.slice none 0 0] 37)):=⟨_,rfl⟩
 rw [← hW0] at st0
 have hsz:=st0.out.sz
 have cI:=st0.out.i.cell (i:=0) (v:=.int .i64 (i:Int)) rfl
 have ST2:=Lib.hid (st0.out.ofS)
 have HW0:=Lib.hid hW0
 clear st0 hW0
 go_wp2_with fail
 rw [← HW0.out]
 go_step3
 go_wp2_with fail
 go_step3
 go_wp2_with fail
 refine (pthPointers_any _).mono ?_
 rintro e w1 ⟨rfl,rfl⟩
 go_wp2_with fail
 have hW1:w.heap.size + 4 = (W0.alloc (.cells #[.int .i64 0] 3)).heap.size:=by rw [World.size_alloc,hsz]
 obtain ⟨W1,hW1e⟩:∃ W1,W1 = W0.alloc (.cells #[.int .i64 0] 3):=⟨_,rfl⟩
 rw [← hW1e] at ST2 hW1 ⊢
 clear hW1e HW0 cI hsz h1 h2 hd1 hd2
 have hB:w.heap.size ≤ W1.heap.size:=by omega
 apply wp_rangeIxK (gf:=161) (lb:=#[]) rfl (enters_of Tryz.func161 (by kernel_rfl) rfl)
  (pointers_iter 4 (by decide)) (fun k => rfl)
  (fun k W => fstX k ≤ i ∧ OfS w (i:Int) 0 0 (.slice none 0 0) W)
  (fun c k W => c = .exit 0 ∧ (fstX k ≤ i ∧ i < fstX (k + 1)) ∧ ∃ (bv:Value) (av:Int),OfS w (i:Int) (k:Int) av bv W ∧ RMine W (w.heap.size + 4) 3 1 bv (dig (Im.lvl k) (i - fstX k)).length (nmF (dig (Im.lvl k) (i - fstX k))))
  (fun k => (Kept.pure _ _).and (OfS.kept hB))
  (fun c k => (Kept.pure _ _).and ((Kept.pure _ _).and (Kept.ex fun bv => Kept.ex fun av => (OfS.kept hB).and Kept.own)))
  (fun k => Kept.pure _ True)
  ⟨Nat.zero_le _,ST2.out⟩ trivial
 case assign =>
  intro l k W K hk hK
  dsimp only [ptEnc]
  gi_wp2
  exact hK
 case body =>
  rintro l k Wr hk ⟨hle,st⟩ _
  have ST:Hid (OfR w W1.heap.size Wr (i:Int) 0 0 (.slice none 0 0) [] Wr):=⟨st,RMine.nil _ _ _ _ _,KeepsFrom.refl _ _⟩
  clear ST2 st
  have hfx:=fstX_step hk
  have hfb:=fstX_bd (k + 1)
  obtain ⟨F,hF⟩:∃ F,F = fstX k:=⟨_,rfl⟩
  obtain ⟨G,hG⟩:∃ G,G = fstX (k + 1):=⟨_,rfl⟩
  have hlv:=lvl_bd hk
  obtain ⟨lv,hlve⟩:∃ lv,lv = Im.lvl k:=⟨_,rfl⟩
  obtain ⟨sp,hsp⟩:∃ sp,sp = Im.spn lv:=⟨_,rfl⟩
  rw [← hF] at hle
  rw [← hF,← hG,← hlve,← hsp] at hfx
  rw [← hG] at hfb
  rw [← hlve] at hlv
  have HF:=Lib.hid hF
  have HG:=Lib.hid hG
  have HLV:=Lib.hid hlve
  have HSP:=Lib.hid hsp
  have hf9:(F:Int) ≤ 65536:=by omega
  have hg9:(G:Int) ≤ 300000:=by omega
  rw [← hF]
  clear hF hG hlve hsp hfb
  gi_wp2_with (first | (refine ⟨trivial,?_⟩;gi_at_call 131;refine (CallsIn.inRound l (callsIn_wide.2 (pthLevel_any k (by omega) _))).mono ?_;rintro e w' ⟨rfl,rfl⟩))
  rw [← HLV.out]
  gi_wp2
  refine Mv.wpIn_region_mw (fun (_:Mv.St) W => OfR w W1.heap.size Wr (i:Int) 0 0 (.slice none 0 0) [] W) ⟨0,undef⟩ (by kernel_rfl) (by kernel_rfl) (by kernel_rfl) (by kernel_rfl) (ST.out.drew _) ?_
  clear ST
  intro hne
  have hc:∀ y:InW (fun W => ∃ s:Mv.St,OfR w W1.heap.size Wr (i:Int) 0 0 (.slice none 0 0) [] W),y.W.cell? ⟨w.heap.size,0,none⟩ = some (.int .i64 (i:Int)):=fun y => by obtain ⟨_,h⟩:=y.h;exact h.s.i.cell (i:=0) rfl
  (refine Mv.lin_take 3 (by kernel_rfl) ?_;simp only [List.take_succ_cons,List.take_zero,List.drop_succ_cons,List.drop_zero])
  first | go_big_quiet_skip | (go_big_quiet_want;go_big_quiet_op;go_big_quiet_on)
  first | go_big_quiet_skip | (go_big_quiet_want;go_big_quiet_op;go_big_quiet_on)
  first | go_big_quiet_skip | (go_big_quiet_want;go_big_quiet_op;go_big_quiet_on)
  refine wpQuiet_nil ?_
  refine Mv.lin_call rfl rfl 142 #[.int .i64 (lv:Int)] (.int .i64 (sp:Int)) ⟨0,undef⟩ (fun W => by kernel_rfl) (fun W hW => (pthSpan_any lv hlv W).mono fun e w' h => ⟨show e = .returned (.int .i64 (sp:Int)) by rw [h.1,HSP.out],h.2 ▸ hW⟩) ?_
  refine Mv.frame (by simp only [Act.put,List.setIfInBounds_toArray,List.set_cons_succ,List.set_cons_zero];exact rfl) ?_
  (refine Mv.lin_take 2 (by kernel_rfl) ?_;simp only [List.take_succ_cons,List.take_zero,List.drop_succ_cons,List.drop_zero])
  first | go_big_quiet_skip | (go_big_quiet_want;go_big_quiet_op;go_big_quiet_on)
  first | go_big_quiet_skip | (go_big_quiet_want;go_big_quiet_op;go_big_quiet_on)
  refine wpQuiet_nil ?_
  refine Mv.wpLin_nil ?_
  intro W5 h5
  have ST5:=Lib.hid h5
  have HFX:=Lib.hid hfx
  clear h5 hne hc hfx
  by_cases hlt:i < G
  rotate_left
  ·have hge:decide (G ≤ i) = true:=decide_eq_true (by omega)
   gi_wp2
   exact ⟨ST5.out.keep,⟨by rw [← HG.out];omega,ST5.out.s⟩,trivial⟩
  have hge:decide (G ≤ i) = false:=decide_eq_false (by omega)
  obtain ⟨A0,hA0⟩:∃ A0,A0 = i - F:=⟨_,rfl⟩
  have hA9:(A0:Int) ≤ 65536:=by omega
  have HA0:=Lib.hid hA0
  have HAI:Hid ((i:Int) - (F:Int) = (A0:Int)):=by show _ = _;omega
  clear hA0
  gi_wp2
  have hAi:=HAI.out
  refine Mv.wpIn_region_mw (fun (t:Mv.St) W => OfR w W1.heap.size Wr (i:Int) (if t.n ≥ 1 then (k:Int) else 0) (if t.n ≥ 2 then (A0:Int) else 0) (.slice none 0 0) [] W) ⟨0,undef⟩ (by kernel_rfl) (by kernel_rfl) (by kernel_rfl) (by kernel_rfl) (ST5.out.drew _) ?_
  clear ST5
  intro hne
  have hc:∀ y:InW (fun W => ∃ t:Mv.St,OfR w W1.heap.size Wr (i:Int) (if t.n ≥ 1 then (k:Int) else 0) (if t.n ≥ 2 then (A0:Int) else 0) (.slice none 0 0) [] W),y.W.cell? ⟨w.heap.size,0,none⟩ = some (.int .i64 (i:Int)):=fun y => by obtain ⟨_,h⟩:=y.h;exact h.s.i.cell (i:=0) rfl
  (refine Mv.lin_take 4 (by kernel_rfl) ?_;simp only [List.take_succ_cons,List.take_zero,List.drop_succ_cons,List.drop_zero])
  first | go_big_quiet_skip | (go_big_quiet_want;go_big_quiet_op;go_big_quiet_on)
  first | go_big_quiet_skip | (go_big_quiet_want;go_big_quiet_op;go_big_quiet_on)
  first | go_big_quiet_skip | (go_big_quiet_want;go_big_quiet_op;go_big_quiet_on)
  first | go_big_quiet_skip | (go_big_quiet_want;go_big_quiet_op;go_big_quiet_on)
  refine wpQuiet_nil ?_
  refine Mv.lin_store1 rfl 3 (.tmp 2) (.tmp 27) rfl (w.heap.size + 1) 0 (.int .i64 (k:Int)) rfl rfl info_1 rfl ⟨1,undef⟩ (fun W' hW => ⟨⟨_,hW.s.p.cell (i:=0) rfl⟩,soft_of_heap hW.s.p 0,hW.setP _⟩) ?_
  refine Mv.frame (by simp only [Act.put];exact rfl) ?_
  refine Mv.lin_store1 rfl 3 (.tmp 5) (.tmp 30) rfl (w.heap.size + 3) 0 (.int .i64 (A0:Int)) rfl rfl info_1 rfl ⟨2,undef⟩ (fun W' hW => ⟨⟨_,hW.s.a.cell (i:=0) rfl⟩,soft_of_heap hW.s.a 0,hW.setA _⟩) ?_
  refine Mv.frame (by simp only [Act.put];exact rfl) ?_
  refine Mv.wpLin_nil ?_
  intro W6 h6
  have ST6:Hid (OfR w W1.heap.size Wr (i:Int) (k:Int) (A0:Int) (.slice none 0 0) [] W6):=h6
  clear h6 hne hc hAi
  gi_wp2
  gi_loopw [9] (fun u wr => ∃ (r:Nat) (ds:List Nat) (a:Nat) (bv:Value),u = .int .i64 ((r:Int) - 1) ∧ r ≤ 3 ∧ a ≤ 65536 ∧ ds ++ dig r a = dig lv A0 ∧ ds.length + r = lv ∧ OfR w W1.heap.size Wr (i:Int) (k:Int) (a:Int) bv ds wr) (fun u _ => (intOf u + 1).toNat)
  case atStart => exact ⟨lv,[],A0,.slice none 0 0,rfl,hlv,by omega,rfl,by simp,ST6.out⟩
  case round =>
   clear ST6 hA9 hge
   obtain ⟨r,ds,a,bv,rfl,hr,ha,hdg,hdl,st⟩:=hrel
   have ST:=Lib.hid st
   have HDG:=Lib.hid hdg
   have HDL:=Lib.hid hdl
   clear st hdg
   by_cases hr0:r = 0
   ·subst hr0
    have HROW:Hid (RMine wr (w.heap.size + 4) 3 1 bv (dig (Im.lvl k) (i - fstX k)).length (nmF (dig (Im.lvl k) (i - fstX k)))):=by
     have e:ds = dig (Im.lvl k) (i - fstX k):=by
      have:=HDG.out
      rw [dig,List.append_nil,HLV.out,HA0.out,HF.out] at this
      exact this
     show RMine _ _ _ _ _ _ _
     rw [← e];exact ST.out.r
    have hneg:(((0:Nat):Int) - 1 < 0):=by omega
    clear hdl
    gi_wp2
    exact ⟨ST.out.keep,rfl,⟨by rw [← HF.out];exact hle,by rw [← HG.out];exact hlt⟩,bv,_,ST.out.s,HROW.out⟩
   obtain ⟨r,rfl⟩:∃ r',r = r' + 1:=⟨r - 1,by omega⟩
   have e1:((r + 1:Nat):Int) - 1 = (r:Int):=by omega
   rw [e1]
   have r0:(0:Int) ≤ (r:Int):=by omega
   have r9:(r:Int) ≤ 2:=by omega
   obtain ⟨S2,hS2⟩:∃ S2,S2 = Im.spn r:=⟨_,rfl⟩
   have hS9:1 ≤ S2 ∧ S2 ≤ 262144:=by rw [hS2];exact spn_bd (by omega)
   obtain ⟨D,hD⟩:∃ D,D = a / S2:=⟨_,rfl⟩
   obtain ⟨R,hR⟩:∃ R,R = a % S2:=⟨_,rfl⟩
   have HQ1:Hid ((a:Int).tdiv (S2:Int) = (D:Int)):=by show _ = _;rw [Int.tdiv_eq_ediv_of_nonneg (by omega),hD];rfl
   have HQ2:Hid ((a:Int).tmod (S2:Int) = (R:Int)):=by show _ = _;rw [Int.tmod_eq_emod_of_nonneg (by omega),hR];rfl
   have hD9:D ≤ 65536:=by rw [hD];exact Nat.le_trans (Nat.div_le_self _ _) ha
   have hR9:R ≤ 65536:=by rw [hR];exact Nat.le_trans (Nat.mod_le _ _) ha
   have HDN:Hid ((ds ++ [D]) ++ dig r R = dig lv A0):=by
    show _ = _
    rw [← HDG.out,dig,hD,hR,hS2,List.append_assoc];rfl
   have HS2:=Lib.hid hS2
   have hdl3:ds.length ≤ 2:=by omega
   clear hD hR hS2 e1 hdl hr0 HDG hlt
   gi_wp2
   refine Mv.wpIn_region_mb (C13 w W1.heap.size Wr (i:Int) (k:Int) (a:Int) bv ds D) ⟨0,undef⟩ 7 (by kernel_rfl) (by kernel_rfl) (by kernel_rfl) (by kernel_rfl) (by kernel_rfl) (by kernel_rfl) (by kernel_rfl) (by decide) (ST.out.start.below ⟨rfl,rfl,rfl,Nat.le_refl _,fun _ _ => rfl⟩) ?_
   clear ST
   simp only [List.take_succ_cons,List.take_zero,List.drop_succ_cons,List.drop_zero]
   intro hne
   have hcb:∀ y:InW (fun W => ∃ t,C13 w W1.heap.size Wr (i:Int) (k:Int) (a:Int) bv ds D t W),y.W.cell? ⟨w.heap.size + 1 + 1,0,none⟩ = some bv:=fun y => by obtain ⟨_,h⟩:=y.h;exact h.s.b.cell (i:=0) rfl
   have hca:∀ y:InW (fun W => ∃ t,C13 w W1.heap.size Wr (i:Int) (k:Int) (a:Int) bv ds D t W),y.W.cell? ⟨w.heap.size + 3,0,none⟩ = some (.int .i64 (a:Int)):=fun y => by obtain ⟨_,h⟩:=y.h;exact h.s.a.cell (i:=0) rfl
   (refine Mv.lin_take 3 (by kernel_rfl) ?_;simp only [List.take_succ_cons,List.take_zero,List.drop_succ_cons,List.drop_zero])
   first | go_big_quiet_skip | (go_big_quiet_want;go_big_quiet_op;go_big_quiet_on)
   first | go_big_quiet_skip | (go_big_quiet_want;go_big_quiet_op;go_big_quiet_on)
   first | go_big_quiet_skip | (go_big_quiet_want;go_big_quiet_op;go_big_quiet_on)
   refine wpQuiet_nil ?_
   refine Mv.lin_call rfl rfl 142 #[.int .i64 (r:Int)] (.int .i64 (S2:Int)) ⟨0,undef⟩ (fun W => by kernel_rfl) (fun W hW => (pthSpan_any r (by omega) W).mono fun e w' h => ⟨show e = .returned (.int .i64 (S2:Int)) by rw [h.1,HS2.out],h.2 ▸ hW⟩) ?_
   refine Mv.frame (by simp only [Act.put,List.setIfInBounds_toArray,List.set_cons_succ,List.set_cons_zero];exact rfl) ?_
   have hq1:=HQ1.out
   have hs0:¬ (S2:Int) = 0:=by omega
   (refine Mv.lin_take 1 (by kernel_rfl) ?_;simp only [List.take_succ_cons,List.take_zero,List.drop_succ_cons,List.drop_zero])
   first | go_big_quiet_skip | (go_big_quiet_want;go_big_quiet_op;go_big_quiet_on)
   refine wpQuiet_nil ?_
   refine Mv.lin_build1 rfl _ _ _ _ rfl fun W hW => ⟨_,_,⟨1,.slice (some ⟨W.heap.size,0,none⟩) 1 1⟩,run_int1c (D:Int) W,?_,?_⟩
   ·have hb:Below W.heap.size W (W.alloc (.cells #[.int .i64 (D:Int)] 3)):=(Below.refl _ _).alloc (Nat.le_refl _) _
    refine ⟨hW.s.below hb,fun _ => RMine.below (hW.r0 (by decide)) hb,?_,(fun e => by cases e),hW.keep.trans (Below.keeps hb)⟩
    intro _ g eg
    injection eg with h1 h2 h3;injection h1 with h1;injection h1 with h1;subst h1
    exact (At.new W 3 #[.int .i64 (D:Int)]).cell (i:=0) rfl
   generalize W.heap.size = g0 at *
   clear hW
   refine Mv.frame (by simp only [Act.put,List.setIfInBounds_toArray,List.set_cons_succ,List.set_cons_zero];exact rfl) ?_
   refine Mv.lin_append rfl _ _ _ rfl fun W hW => ?_
   have hown:=hW.r0 (by show (1:Nat) < 2;decide)
   obtain ⟨i0,hi0,hz0,hz1,hz2⟩:=info_intP
   obtain ⟨v',w',hr',ho,hg,_⟩:=run_append_own (P:=Tryz.prog) W (w.heap.size + 4) 37 37 3 i0 (.int .i64 0) 1 8 Tryz.underlying37 hi0 hz0 hz1 hz2 (by rfl) (by decide) bv ds.length (Cs (nmF ds) ds.length) hown ⟨g0,0,none⟩ 1 1 [.int .i64 (D:Int)] (by rfl)
    (fun j u hu => by
     cases j with
     | zero =>
      injection hu with hu
      subst hu
      exact hW.r1 rfl g0 rfl
     | succ j => cases hu) (fun u hu => by simp at hu;subst hu;rfl) (by unfold maxLen;omega) (by omega) (by have:=hW.s.a.lt;omega)
   refine ⟨v',w',⟨2,v'⟩,hr',?_,?_⟩
   ·have hwr:RMine w' (w.heap.size + 4) 3 1 v' (ds.length + 1) (nmF (ds ++ [D])):=by
     refine RMine.append (f:=nmF (ds ++ [D])) (news:=[.int .i64 (D:Int)]) ?_ ?_
     ·rw [← Cs_congr fun k hk => nmF_app ds D k hk];exact ho
     ·show _ = Cs _ 1
      rw [Cs_succ]
      show _ = [] ++ nmF (ds ++ [D]) (ds.length + 0)
      rw [Nat.add_zero,nmF_new];rfl
    exact ⟨hW.s.grown hown hg,(fun h => absurd h (by show ¬ (2:Nat) < 2;decide)),(fun h => by cases h),fun _ => hwr,hW.keep.trans (keeps_own hown hg)⟩
   clear hr' ho hg hW hown
   refine Mv.frame (by simp only [Act.put,List.setIfInBounds_toArray,List.set_cons_succ,List.set_cons_zero];exact rfl) ?_
   refine Mv.wpLin_nil ?_
   intro W6 h6
   obtain ⟨va,vc,hv'⟩:=RMine.form (h6.r2 rfl)
   replace hv':v' = .slice va (ds.length + 1) vc:=hv'
   subst hv'
   have cb6:W6.cell? ⟨w.heap.size + 1 + 1,0,none⟩ = some bv:=h6.s.b.cell (i:=0) rfl
   have fb6:W6.frozen? ⟨w.heap.size + 1 + 1,0,none⟩ = false:=soft_of_heap h6.s.b 0
   have ST7:Hid (OfR w W1.heap.size Wr (i:Int) (k:Int) (a:Int) (.slice va (ds.length + 1) vc) (ds ++ [D]) (W6.setCell ⟨w.heap.size + 1 + 1,0,none⟩ (.slice va (ds.length + 1) vc))):=by
    refine ⟨h6.s.setB _,?_,h6.keep.trans (keeps_cell h6.s.b)⟩
    rw [List.length_append]
    exact ownsC (h6.r2 rfl) (by omega) _
   clear h6 hne hcb hca hq1
   go_wp2_with fail
   refine Mv.Nm.mk ?_
   clear cb6 fb6
   generalize (W6.setCell ⟨w.heap.size + 1 + 1,0,none⟩ (.slice va (ds.length + 1) vc)) = W7 at *
   gi_wp2
   refine Mv.wpIn_region_mb (fun (_:Mv.St) W => OfR w W1.heap.size Wr (i:Int) (k:Int) (a:Int) (.slice va (ds.length + 1) vc) (ds ++ [D]) W) ⟨0,undef⟩ 4 (by kernel_rfl) (by kernel_rfl) (by kernel_rfl) (by kernel_rfl) (by kernel_rfl) (by kernel_rfl) (by kernel_rfl) (by decide) (ST7.out.drew _) ?_
   clear ST7
   simp only [List.take_succ_cons,List.take_zero,List.drop_succ_cons,List.drop_zero]
   intro hne
   have hca:∀ y:InW (fun W => ∃ _:Mv.St,OfR w W1.heap.size Wr (i:Int) (k:Int) (a:Int) (.slice va (ds.length + 1) vc) (ds ++ [D]) W),y.W.cell? ⟨w.heap.size + 3,0,none⟩ = some (.int .i64 (a:Int)):=fun y => by obtain ⟨_,h⟩:=y.h;exact h.s.a.cell (i:=0) rfl
   (refine Mv.lin_take 2 (by kernel_rfl) ?_;simp only [List.take_succ_cons,List.take_zero,List.drop_succ_cons,List.drop_zero])
   first | go_big_quiet_skip | (go_big_quiet_want;go_big_quiet_op;go_big_quiet_on)
   first | go_big_quiet_skip | (go_big_quiet_want;go_big_quiet_op;go_big_quiet_on)
   refine wpQuiet_nil ?_
   refine Mv.lin_call rfl rfl 142 #[.int .i64 (r:Int)] (.int .i64 (S2:Int)) ⟨0,undef⟩ (fun W => by kernel_rfl) (fun W hW => (pthSpan_any r (by omega) W).mono fun e w' h => ⟨show e = .returned (.int .i64 (S2:Int)) by rw [h.1,HS2.out],h.2 ▸ hW⟩) ?_
   refine Mv.frame (by simp only [Act.put,List.setIfInBounds_toArray,List.set_cons_succ,List.set_cons_zero];exact rfl) ?_
   have hq2:=HQ2.out
   (refine Mv.lin_take 1 (by kernel_rfl) ?_;simp only [List.take_succ_cons,List.take_zero,List.drop_succ_cons,List.drop_zero])
   first | go_big_quiet_skip | (go_big_quiet_want;go_big_quiet_op;go_big_quiet_on)
   refine wpQuiet_nil ?_
   refine Mv.wpLin_nil ?_
   intro W8 h8
   have ca8:W8.cell? ⟨w.heap.size + 3,0,none⟩ = some (.int .i64 (a:Int)):=h8.s.a.cell (i:=0) rfl
   have fa8:W8.frozen? ⟨w.heap.size + 3,0,none⟩ = false:=soft_of_heap h8.s.a 0
   have ST9:Hid (OfR w W1.heap.size Wr (i:Int) (k:Int) (R:Int) (.slice va (ds.length + 1) vc) (ds ++ [D]) (W8.setCell ⟨w.heap.size + 3,0,none⟩ (.int .i64 (R:Int)))):=h8.setA _
   clear h8 hne hca hq2 hs0
   go_wp2_with fail
   refine Mv.Nm.mk ?_
   clear ca8 fa8
   generalize (W8.setCell ⟨w.heap.size + 3,0,none⟩ (.int .i64 (R:Int))) = W9 at *
   gi_wp2
   go_roundw
   case rel => first | exact ⟨r,ds ++ [D],R,.slice va (ds.length + 1) vc,rfl,by omega,hR9,HDN.out,by rw [List.length_append];have:=HDL.out;show ds.length + 1 + r = lv;omega,ST9.out⟩ | ((repeat apply Exists.intro);exact ⟨⟨r,ds ++ [D],R,.slice va (ds.length + 1) vc,rfl,by omega,hR9,HDN.out,by rw [List.length_append];have:=HDL.out;show ds.length + 1 + r = lv;omega,ST9.out⟩,rfl⟩)
   case measure => simp [intOf] <;> omega
 case done =>
  rintro D W hD ⟨h,_⟩ _
  exact absurd h (by show ¬ fstX 11 ≤ i;unfold fstX;simp;omega)
 case stop =>
  rintro D c k W hD hk ⟨rfl,⟨hl,hh⟩,bv,av,st,hr⟩ hK
  have hwp:=wayP_of hi hk hl hh
  have hkf:Im.fst k = fstX k:=fst_fstX (by omega)
  have hwb:Im.wayB i = dig (Im.lvl k) (i - fstX k):=by rw [wayB_dig,hwp,hkf]
  rw [← hwb] at hr
  obtain ⟨a,cap,rfl⟩:=RMine.form hr
  have HWP:=Lib.hid hwp
  have HDW:Hid (w.heap.size + 4 ≤ D):=by show _ ≤ _;omega
  have ST:=Lib.hid st
  have HR:=Lib.hid hr
  have HK:=Lib.hid hK
  clear hwp hkf hwb st hr hK hW1 hB ST2 hl hh
  dsimp only
  go_wp2_with fail
  refine Mv.wp_region_mc (fun (_:Mv.St) W => OfD w (i:Int) (k:Int) av a (Im.wayB i).length cap (nmF (Im.wayB i)) D W) ⟨0,undef⟩ (by kernel_rfl) (by kernel_rfl) (by kernel_rfl) ⟨ST.out.below ⟨rfl,rfl,rfl,Nat.le_refl _,fun _ _ => rfl⟩,HR.out,HK.out⟩ ?_
  clear ST HR HK
  intro hne
  have hcp:∀ y:InW (fun W => ∃ _:Mv.St,OfD w (i:Int) (k:Int) av a (Im.wayB i).length cap (nmF (Im.wayB i)) D W),y.W.cell? ⟨w.heap.size + 1,0,none⟩ = some (.int .i64 (k:Int)):=fun y => by obtain ⟨_,h⟩:=y.h;exact h.s.p.cell (i:=0) rfl
  have hcb:∀ y:InW (fun W => ∃ _:Mv.St,OfD w (i:Int) (k:Int) av a (Im.wayB i).length cap (nmF (Im.wayB i)) D W),y.W.cell? ⟨w.heap.size + 1 + 1,0,none⟩ = some (.slice a (Im.wayB i).length cap):=fun y => by obtain ⟨_,h⟩:=y.h;exact h.s.b.cell (i:=0) rfl
  (refine Mv.lin_take 2 (by kernel_rfl) ?_;simp only [List.take_succ_cons,List.take_zero,List.drop_succ_cons,List.drop_zero])
  first | go_big_quiet_skip | (go_big_quiet_want;go_big_quiet_op;go_big_quiet_on)
  first | go_big_quiet_skip | (go_big_quiet_want;go_big_quiet_op;go_big_quiet_on)
  refine wpQuiet_nil ?_
  refine Mv.lin_store1 rfl 3 (.tmp 2) (.tmp 48) rfl (w.heap.size + 1) 0 (.int .i64 (k:Int)) rfl rfl info_1 rfl ⟨1,undef⟩ (fun W' hW => ⟨⟨_,hW.s.p.cell (i:=0) rfl⟩,soft_of_heap hW.s.p 0,hW.setP HDW.out⟩) ?_
  refine Mv.frame (by simp only [Act.put];exact rfl) ?_
  refine Mv.lin_store1 rfl 37 (.tmp 3) (.tmp 49) rfl (w.heap.size + 2) 0 (.slice a (Im.wayB i).length cap) rfl rfl info_1s rfl ⟨2,undef⟩ (fun W' hW => ⟨⟨_,hW.s.b.cell (i:=0) rfl⟩,soft_of_heap hW.s.b 0,hW.setB HDW.out⟩) ?_
  refine Mv.frame (by simp only [Act.put];exact rfl) ?_
  (refine Mv.lin_take 1 (by kernel_rfl) ?_;simp only [List.take_succ_cons,List.take_zero,List.drop_succ_cons,List.drop_zero])
  first | go_big_quiet_skip | (go_big_quiet_want;go_big_quiet_op;go_big_quiet_on)
  refine wpQuiet_nil ?_
  refine Mv.wpLin_nil ?_
  intro W2 h2
  have hp2:=h2.s.p.cell (i:=0) (v:=.int .i64 (k:Int)) rfl
  have hb2:=h2.s.b.cell (i:=0) (v:=.slice a (Im.wayB i).length cap) rfl
  have rp2:=cell_putObj (D:=D) (o':=.deferred none) h2.d rfl hp2
  have rb2:=cell_putObj (D:=D) (o':=.deferred none) h2.d rfl hb2
  have H2:=Lib.hid h2
  clear h2 hne hcp hcb hp2 hb2
  go_wp2_with fail
  rw [Exit.noGoto_ret]
  refine bodyPostM_done (v:=.tuple #[.int .i64 (k:Int),.slice a (Im.wayB i).length cap,.int .i64 0]) (D:=D) H2.out.d (results_of rfl _ _ (w.heap.size + 1) (w.heap.size + 2) _ _ _ rfl rfl rfl rp2 rb2 rfl rfl) ⟨a,cap,by rw [HWP.out],?_,below_putObj H2.out.s.bel _ (Nat.le_refl _) (by have:=HDW.out;omega)⟩
  exact RMine.row (show RMine (W2.putObj D (.deferred none)) (w.heap.size + 4) 3 1 (.slice a (Im.wayB i).length cap) (Im.wayB i).length (nmF (Im.wayB i)) from Kept.own (B:=0) _ _ (some D) H2.out.r (grownBy_putObj' W2 D (.deferred none)) (fun r e => by cases e;exact ⟨Nat.zero_le _,_,H2.out.d,rfl⟩)) (nmF_len _)
end
end Go.Proofs.YtphamecphmbipaaGreatDoor
