/- Texts of this claim, merged. -/
import Derived.Test.YtphamecphmbipaaGreatDoorK43
set_option maxRecDepth 100000
set_option maxHeartbeats 16000000

namespace Go.Proofs.YtphamecphmbipaaGreatDoor
open Go.RowKit
set_option linter.unusedVariables false
def PM (p mq:Nat) (b:Nat):Prop:=b = p ∨ b = mq
structure WtS (p q mq:Nat) (x:Im) (s:Im.WkS) (W:World):Prop where
 r:WtR p q mq s.left x W
 m:RArr W mq 3 1 (x.ni + 1) (ownF s.met)
 l9:s.left ≤ 1000000
section
variable {p q mq:Nat} {x:Im} {s:Im.WkS} {W W':World}
theorem WtS.below (h:WtS p q mq x s W) (hb:Below W.heap.size W W'):WtS p q mq x s W':=⟨h.r.below hb,h.m.below hb,h.l9⟩
theorem WtS.pq (h:WtS p q mq x s W):p ≠ q:=by
 obtain ⟨c,hc,_⟩:=h.r.im.blk
 exact At.unlike h.r.a hc (by decide)
theorem WtS.pm (h:WtS p q mq x s W):p ≠ mq:=by
 obtain ⟨c,hc,_⟩:=h.m.blk
 exact At.unlike h.r.a hc (by decide)
theorem WtS.qm (h:WtS p q mq x s W):q ≠ mq:=by
 obtain ⟨c,hc,_⟩:=h.m.blk
 obtain ⟨c',hc',_⟩:=h.r.im.blk
 exact At.unlike hc' hc (by decide)
theorem WtS.setL (h:WtS p q mq x s W) (l:Nat) (hl:l ≤ 1000000):WtS p q mq x { s with left:=l } (W.setCell ⟨p,6,none⟩ (.int .i64 (l:Int))):=by
 have ho:Only p W (W.setCell ⟨p,6,none⟩ (.int .i64 (l:Int))):=Only.setCell W ⟨p,6,none⟩ _
 exact ⟨⟨h.r.im.only ho h.pq.symm,h.r.a.setF 6 _⟩,h.m.only ho h.pm.symm,hl⟩
theorem WtS.setM (h:WtS p q mq x s W) {c:Nat} (hc:c ≤ x.ni):WtS p q mq x (Im.meet c s) (W.setCell ⟨mq,c,none⟩ (.int .i64 ((s.met c + 1:Nat):Int))):=by
 have ho:Only mq W (W.setCell ⟨mq,c,none⟩ (.int .i64 ((s.met c + 1:Nat):Int))):=Only.setCell W ⟨mq,c,none⟩ _
 refine ⟨⟨h.r.im.only ho h.qm,h.r.a.only ho h.pm⟩,?_,h.l9⟩
 have:=h.m.cellset (k:=c) (j:=0) (by omega) (by decide) (fun i => ownF_len s.met i) (.int .i64 ((s.met c + 1:Nat):Int))
 rw [Nat.mul_one,Nat.add_zero] at this
 refine this.congr fun i hi => ?_
 show _ = ownF (updN s.met c (s.met c + 1)) i
 unfold ownF updN
 by_cases e:i = c
 ·subst e;rw [if_pos rfl,if_pos rfl];rfl
 ·rw [if_neg e,if_neg e]
theorem WtS.metc (h:WtS p q mq x s W) {c:Nat} (hc:c ≤ x.ni):W.cell? ⟨mq,c,none⟩ = some (.int .i64 ((s.met c:Nat):Int)):=by
 have:=h.m.seg c (by omega) 0 _ rfl
 rwa [Nat.zero_add,Nat.mul_one,Nat.add_zero] at this
end
structure WtD (w:World) (p q mq:Nat) (x:Im) (yb:Nat) (y:Ino) (s:Im.WkS) (W:World):Prop where
 s:WtS p q mq x s W
 y:InoAt W yb 63 y
 ly:w.heap.size ≤ yb
 g:GwS (PM p mq) w W
theorem WtD.below {w:World} {p q mq:Nat} {x:Im} {yb:Nat} {y:Ino} {s:Im.WkS} {W W':World} (h:WtD w p q mq x yb y s W) (hb:Below W.heap.size W W'):WtD w p q mq x yb y s W' :=
 ⟨h.s.below hb,h.y.below hb h.y.lt,h.ly,h.g.trans (GwS.of_below hb)⟩
def SlA (w:World) (z:Nat → Int) (g:Nat) (W:World):Prop:=w.heap.size ≤ g ∧ At W g 172 (Sc (dI z) (dM z) 8).toArray
theorem SlA.below {w:World} {z:Nat → Int} {g:Nat} {W W':World} (h:SlA w z g W) (hb:Below W.heap.size W W'):SlA w z g W':=⟨h.1,h.2.below hb h.2.lt⟩
def V8t (w:World) (z:Nat → Int) (k:Nat) (v:Value) (W:World):Prop :=
 if k = 10 ∨ k = 11 then ∃ g,v = .tuple #[.slice (some ⟨g,0,none⟩) 8 8,.int .i64 0] ∧ SlA w z g W
 else if k = 12 ∨ k = 14 then ∃ g,v = .slice (some ⟨g,0,none⟩) 8 8 ∧ SlA w z g W else v = .int .i64 0
theorem V8t.below {w:World} {z:Nat → Int} {k:Nat} {v:Value} {W W':World} (h:V8t w z k v W) (hb:Below W.heap.size W W'):V8t w z k v W':=by
 unfold V8t at h ⊢
 split <;> rename_i h1
 ·rw [if_pos h1] at h
  obtain ⟨g,h2,h3⟩:=h
  exact ⟨g,h2,h3.below hb⟩
 rw [if_neg h1] at h
 split <;> rename_i h2
 ·rw [if_pos h2] at h
  obtain ⟨g,h2,h3⟩:=h
  exact ⟨g,h2,h3.below hb⟩
 rwa [if_neg h2] at h
theorem walkDir_any {x:Im} (hx:x.Ok) (h4:∀ t,1 ≤ t → t ≤ x.ni → x.ck4 t = true) (hM:∀ t,1 ≤ t → t ≤ x.ni → (x.ino t).May) (hT:∀ t,1 ≤ t → t ≤ x.ni → x.Tree t) {U:Nat → List Nat} (hD:∀ t,(x.ino t).kind = 2 → ∃ r,x.dirF t = some r ∧ U t = r.2) (h1:∀ p c,c ∈ U p → 1 ≤ c) (p q mq:Nat) :
  ∀ (f t:Nat) (s s':Im.WkS),x.dirW U f t s = some s' → (x.ino t).kind = 2 → (∀ c,s'.met c ≤ 1000000000) → ∀ w,WtS p q mq x s w →
   Calls Tryz.prog 24 #[.pointer (some ⟨p,0,none⟩),.int .i64 (t:Int)] w fun e w' => e = .returned (.bool true) ∧ WtS p q mq x s' w' ∧ GwS (PM p mq) w w'
 | 0,t,s,s',h,hk,hc,w,hw => by cases h
 | f + 1,t,s,s',h,hk,hc,w,hw => by
  have IH:=Lib.hid (walkDir_any hx h4 hM hT hD h1 p q mq f)
  obtain ⟨ht1,ht2⟩:=Im.kind_le (u:=U) hk
  obtain ⟨r,hr,hu⟩:=hD t hk
  rw [Im.dirW_unf hr hu] at h
  have hl0:s.left ≠ 0:=fun e => by rw [if_pos e] at h;cases h
  rw [if_neg hl0] at h
  obtain ⟨l,hl⟩:∃ l,s.left = l + 1:=⟨s.left - 1,by omega⟩
  have hl9:l ≤ 1000000:=by have:=hw.l9;omega
  have HX:=Lib.hid hx
  have HMY:=Lib.hid (hM t ht1 ht2)
  have hsz:=(Ino.may_bd (hM t ht1 ht2)).1
  have HINO:Hid (∀ (l t:Nat),1 ≤ t → t ≤ x.ni → ∀ W,WtR p q mq l x W → Calls Tryz.prog 25 #[.pointer (some ⟨p,0,none⟩),.int .i64 (t:Int)] W fun e w' => e = .returned (x.ino t).val ∧ Below W.heap.size W w'):=fun l t a b W hW => walkIno_any hx h4 p q mq l t a b W hW
  have HBLK:Hid (∀ (l i:Nat),i < 65536 → x.blk t i ≠ 0 → ∀ W,WtR p q mq l x W → Calls Tryz.prog 55 #[.pointer (some ⟨p,0,none⟩),(x.ino t).val,.int .i64 (i:Int)] W fun e w' => e = .returned (.int .i64 ((x.blk t i:Nat):Int)) ∧ Below W.heap.size W w'):=fun l i a b W hW => walkBlk_any hx p q mq l t i a (hT t ht1 ht2) b W hW
  have HBL:Hid (∀ i:Nat,i < 65536 → x.blk t i ≠ 0 → x.blk t i < x.n):=fun i hi h0 => Im.blk_lt (hT t ht1 ht2) hi h0
  obtain ⟨N,hN⟩:∃ N,N = (x.ino t).size.toNat / 256:=⟨_,rfl⟩
  have hq:(x.ino t).size.tdiv 256 = (N:Int):=by rw [Int.tdiv_eq_ediv_of_nonneg (by omega)];omega
  have hN9:N ≤ 65536:=by omega
  have HDB:Hid (∀ i,i < N → x.blk t i ≠ 0 ∧ dirB (x.L (x.blk t i)) = true):=fun i hi => Im.dir_blk hr (by rw [← hN];exact hi)
  have HDS:Hid (∀ i,i < N → ∀ k,k < 8 → dI (x.L (x.blk t i)) k ≠ 0 → (dI (x.L (x.blk t i)) k).toNat ≤ x.ni ∧ (x.ino (dI (x.L (x.blk t i)) k).toNat).kind ≠ 0):=fun i hi k hk' h0 => Im.dir_slot hr (by rw [← hN];exact hi) hk' h0
  rw [← hN] at h
  have HC:=Lib.hid hc
  have cl:w.cell? ⟨p,6,none⟩ = some (.int .i64 ((l:Int) + 1)):=by
   have:=hw.r.a.cell (i:=6) rfl
   rw [hl] at this
   exact this
  have fl:w.frozen? ⟨p,6,none⟩ = false:=soft_of_heap hw.r.a 6
  have h1s:=hw.setL l hl9
  have e0:({ s with left:=s.left - 1 }:Im.WkS) = { s with left:=l }:=by rw [hl];rfl
  rw [e0] at h
  obtain ⟨S0,hS0⟩:∃ S0:Im.WkS,S0 = { s with left:=l }:=⟨_,rfl⟩
  rw [← hS0] at h h1s
  have ST1:=Lib.hid h1s
  have HF:=Lib.hid h
  have HG1:Hid (GwS (PM p mq) w (w.setCell ⟨p,6,none⟩ (.int .i64 (l:Int)))):=GwS.of_only (Only.setCell w ⟨p,6,none⟩ _) (.inl rfl)
  have hpw:p < w.heap.size:=hw.r.a.lt
  have hmw:mq < w.heap.size:=by obtain ⟨c,hc,_⟩:=hw.m.blk;exact At.lt hc
  obtain ⟨y,hy⟩:∃ y,y = x.ino t:=⟨_,rfl⟩
  have HYE:=Lib.hid hy
  have hnil:=zero_ino
  rw [← hy] at hq hsz
  clear hw hx h4 hM hT hD hk hr hu h hc hN hl0 e0 hS0 h1s hl hy
  have l0:(0:Int) ≤ (l:Int):=by omega
  have l1:decide ((l:Int) < 0) = false:=by simp
  go_enter Tryz.func24,Tryz.ntmps24
  go_wp2_with fail
  refine (HINO.out S0.left t ht1 ht2 _ ST1.out.r).mono ?_
  rintro e w2 ⟨rfl,hb2⟩
  have ST2:=Lib.hid (ST1.out.below hb2)
  have HG2:=Lib.hid (HG1.out.trans (GwS.of_below hb2))
  have hnew:=InoAt.new w2 .nil
  clear ST1 HG1 cl fl hb2
  rw [← HYE.out]
  go_wp2_with (first | (refine wp_storeIno rfl (.tmp 5) (.tmp 24) rfl w2.heap.size y .nil rfl rfl hnew ?_))
  intro w3 hi3 ho3
  have hb3:Below w2.heap.size w2 w3:=((Below.refl _ _).alloc (Nat.le_refl _) _).trans (ho3.below (Nat.le_refl _))
  have ST3:Hid (WtD w p q mq x w2.heap.size y S0 w3):=⟨ST2.out.below hb3,hi3,HG2.out.size,HG2.out.trans (GwS.of_below hb3)⟩
  obtain ⟨yb,hyb⟩:∃ yb,yb = w2.heap.size:=⟨_,rfl⟩
  rw [← hyb] at ST3 ⊢
  clear ST2 HG2 hnew hi3 ho3 hb3 hyb
  go_wp2_with fail
  go_loopw [6] (fun u wr => ∃ (i:Nat) (s1:Im.WkS),i ≤ N ∧ u = .int .i64 (i:Int) ∧ foldO (x.blW U f t) i S0 = some s1 ∧ WtD w p q mq x yb y s1 wr) (fun u _ => N - (intOf u).toNat)
  case atStart => exact ⟨0,S0,Nat.zero_le _,rfl,rfl,ST3.out⟩
  case round =>
   clear ST3
   obtain ⟨i,s1,hi,rfl,hf1,st⟩:=hrel
   have ST:=Lib.hid st
   have HF1:=Lib.hid hf1
   clear st hf1
   have cS:wr.cell? ⟨yb,3,none⟩ = some (.int .i64 y.size):=ST.out.y.cell (i:=3) rfl
   by_cases hlt:i < N
   ·have hlt':(i:Int) < (N:Int):=by omega
    obtain ⟨hnz,hdb⟩:=HDB.out i hlt
    have hbn:=HBL.out i (by omega) hnz
    have HBI:Hid (∀ W,WtD w p q mq x yb y s1 W → Calls Tryz.prog 55 #[.pointer (some ⟨p,0,none⟩),y.val,.int .i64 (i:Int)] W fun e w' => e = .returned (.int .i64 ((x.blk t i:Nat):Int)) ∧ Below W.heap.size W w'):=fun W hW => by
     have:=HBLK.out s1.left i (by omega) hnz W hW.s.r
     rwa [← HYE.out] at this
    have HDI:=Lib.hid (HDS.out i hlt)
    have hf:∀ {a:Im.WkS},i + 1 ≤ N → foldO (x.blW U f t) (i + 1) S0 = some a → Im.Grow a s':=fun {a} hk ha => Im.foldO_rest (fun _ _ _ h => Im.blW_grow h) HF.out hk ha
    obtain ⟨a1,s2,ha1,hs2⟩:=foldO_at HF.out hlt
    rw [HF1.out] at ha1
    injection ha1 with ha1
    subst ha1
    have HF2:=Lib.hid (foldO_next HF1.out hs2)
    have HC2:Hid (∀ c,s2.met c ≤ 1000000000):=fun c => Nat.le_trans ((hf (by omega) HF2.out).1 c) (HC.out c)
    have HS2:Hid (foldO (x.slW U f (x.L (x.blk t i))) 8 s1 = some s2):=hs2
    obtain ⟨b,hb⟩:∃ b,b = x.blk t i:=⟨_,rfl⟩
    rw [← hb] at hdb hbn HBI HDI HS2
    have HZ:Hid (Byt (x.L b)):=HX.out.byt b
    have hbn':(b:Int) < (x.n:Int):=by omega
    have HLS:Hid (∀ W,Calls Tryz.prog 54 #[bval (x.L b)] W (ListRead W (x.L b))):=fun W => list_any (x.L b) HZ.out W
    have HDY:=Lib.hid hdb
    clear hf hs2 hb hnz hdb
    go_wp2_with fail
    apply Vp.wp_region_pre 10 (fun l k v W => V8t w (x.L b) k v W) (fun l W => WtD w p q mq x yb y s1 W) (fun W => WtD w p q mq x yb y s1 W)
    case hm => kernel_rfl
    case hd => kernel_rfl
    case hpre => kernel_rfl
    case hB => kernel_rfl
    case hVl => exact fun l l' he i v W h => h
    case hS => exact fun l l' W he h => h
    case hSC => exact fun l W h => h
    case hVb => exact fun l i v W W' h hb => V8t.below h hb
    case hSb => exact fun l W W' h hb _ => h.below hb
    case h0 => exact ST.out.below ⟨rfl,rfl,rfl,Nat.le_refl _,fun _ _ => rfl⟩
    case hwalk =>
     simp only [List.take_succ_cons,List.take_zero]
     intro R hR hne
     have hcp:∀ y':InW (fun W => WtD w p q mq x yb y s1 W ∧ R W),y'.W.cell? ⟨p,0,none⟩ = some (.slice (some ⟨q,0,none⟩) x.n x.n):=fun y' => y'.h.1.s.r.a.cell (i:=0) rfl
     first | go_big_quiet_skip | (go_big_quiet_want;go_big_quiet_op;go_big_quiet_on)
     first | go_big_quiet_skip | (go_big_quiet_want;go_big_quiet_op;go_big_quiet_on)
     first | go_big_quiet_skip | (go_big_quiet_want;go_big_quiet_op;go_big_quiet_on)
     first | go_big_quiet_skip | (go_big_quiet_want;go_big_quiet_op;go_big_quiet_on)
     first | go_big_quiet_skip | (go_big_quiet_want;go_big_quiet_op;go_big_quiet_on)
     refine q_load rfl 63 (.tmp 5) rfl yb 0 rfl y.arr.toList _ (fun W h => h.1.y.range) Tryz.underlying63 rfl (info_ino y) ?_
     refine wpQuiet_frame (by simp only [Act.put,List.setIfInBounds_toArray,List.set_cons_succ,List.set_cons_zero];exact rfl) ?_
     first | go_big_quiet_skip | (go_big_quiet_want;go_big_quiet_op;go_big_quiet_on)
     go_big_quiet_want
     go_big_quiet_op
     refine ⟨_,fun s => q_call s (fun W hW => (HBI.out W hW.1).mono fun e w' h => ⟨h.1,hW.1.below h.2,hR _ _ hW.2 h.2⟩),?_⟩
     go_big_quiet_on
     first | go_big_quiet_skip | (go_big_quiet_want;go_big_quiet_op;go_big_quiet_on)
     refine q_load rfl 32 (.tmp 41) rfl q (b * 256) rfl (bkF x.L b) _ (fun W h => by have:=RSeg.range h.1.s.r.im.seg b hbn;rwa [Nat.zero_add] at this) Tryz.underlying32 rfl (by rw [bkF_len];exact info_block) ?_
     refine wpQuiet_frame (by simp only [Act.put,List.setIfInBounds_toArray,List.set_cons_succ,List.set_cons_zero];exact rfl) ?_
     exact wpQuiet_nil rfl
    case hst =>
     simp only [List.drop_succ_cons,List.drop_zero]
     refine ⟨?_,?_,?_,?_,?_,?_,trivial⟩
     ·intro l a W hl hu h
      have e1:a.tmps.getD 42 undef = bval (x.L b):=(h.vals 9 42 (op_up hu 9 (by kernel_rfl)) rfl).pre (by decide) rfl
      refine Vm.step h (by kernel_rfl) rfl rfl rfl hl (Vl.op_call 54 #[bval (x.L b)] (Vl.r_call1' 54 (.tmp 42) _ _ rfl e1 (by kernel_rfl)) ?_)
      refine (HLS.out W).mono ?_
      rintro e W' ⟨hb',hr⟩
      rcases hr with ⟨h0,_⟩ | ⟨_,g,hg,rfl,hA⟩
      ·rw [HDY.out] at h0;cases h0
      exact ⟨_,rfl,_,rfl,fun n d _ _ hv => hv.up fun _ hv => V8t.below hv hb',Vp.W.mk (by decide) ⟨g,rfl,Nat.le_trans h.st.g.size hg,hA⟩,WtD.below h.st hb'⟩
     ·intro l a W hl hu h
      obtain ⟨g,e1,hg⟩:∃ g,a.tmps.getD 43 undef = .tuple #[.slice (some ⟨g,0,none⟩) 8 8,.int .i64 0] ∧ SlA w (x.L b) g W:=(h.vals 10 43 (op_up hu 10 (by kernel_rfl)) rfl).post (by decide)
      exact Vm.stepQ h (by kernel_rfl) rfl rfl rfl hl _ (Vl.r_move (.tmp 43) rfl e1) (fun _ _ hv => hv.up fun _ hv => hv) (Vp.W.mk (by decide) ⟨g,rfl,hg⟩) (fun s => s)
     ·intro l a W hl hu h
      obtain ⟨g,e1,hg⟩:∃ g,a.tmps.getD 32 undef = .tuple #[.slice (some ⟨g,0,none⟩) 8 8,.int .i64 0] ∧ SlA w (x.L b) g W:=(h.vals 11 32 (op_up hu 11 (by kernel_rfl)) rfl).post (by decide)
      exact Vm.stepQ h (by kernel_rfl) rfl rfl rfl hl _ (Vl.r_extract (.tmp 32) 0 _ rfl e1 rfl) (fun _ _ hv => hv.up fun _ hv => hv) (Vp.W.mk (by decide) ⟨g,rfl,hg⟩) (fun s => s)
     ·intro l a W hl hu h
      obtain ⟨g,e1,hg⟩:∃ g,a.tmps.getD 32 undef = .tuple #[.slice (some ⟨g,0,none⟩) 8 8,.int .i64 0] ∧ SlA w (x.L b) g W:=(h.vals 11 32 (op_up hu 11 (by kernel_rfl)) rfl).post (by decide)
      exact Vm.stepQ h (by kernel_rfl) rfl rfl rfl hl _ (Vl.r_extract (.tmp 32) 1 _ rfl e1 rfl) (fun _ _ hv => hv.up fun _ hv => hv) (Vp.W.mk (by decide) rfl) (fun s => s)
     ·intro l a W hl hu h
      obtain ⟨g,e1,hg⟩:∃ g,a.tmps.getD 44 undef = .slice (some ⟨g,0,none⟩) 8 8 ∧ SlA w (x.L b) g W:=(h.vals 12 44 (op_up hu 12 (by kernel_rfl)) rfl).post (by decide)
      exact Vm.stepQ h (by kernel_rfl) rfl rfl rfl hl _ (Vl.r_assign (.tmp 44) rfl e1) (fun _ _ hv => hv.up fun _ hv => hv) (Vp.W.mk (by decide) ⟨g,rfl,hg⟩) (fun s => s)
     ·intro l a W hl hu h
      have e1:a.tmps.getD 45 undef = .int .i64 0:=(h.vals 13 45 (op_up hu 13 (by kernel_rfl)) rfl).post (by decide)
      exact Vm.stepQ h (by kernel_rfl) rfl rfl rfl hl _ (Vl.r_assign (.tmp 45) rfl e1) (fun _ _ hv => hv.up fun _ hv => hv) (Vp.W.mk (by decide) rfl) (fun s => s)
    intro a' w5 h hall
    have hall2:=hall [43,32,44,45,7,8] (by kernel_rfl)
    clear hall
    obtain ⟨g1,e43,-⟩:∃ g,a'.tmps.getD 43 undef = .tuple #[.slice (some ⟨g,0,none⟩) 8 8,.int .i64 0] ∧ SlA w (x.L b) g w5:=(h.vals 10 43 rfl rfl).post (by decide)
    obtain ⟨g2,e32,-⟩:∃ g,a'.tmps.getD 32 undef = .tuple #[.slice (some ⟨g,0,none⟩) 8 8,.int .i64 0] ∧ SlA w (x.L b) g w5:=(h.vals 11 32 rfl rfl).post (by decide)
    obtain ⟨g3,e44,-⟩:∃ g,a'.tmps.getD 44 undef = .slice (some ⟨g,0,none⟩) 8 8 ∧ SlA w (x.L b) g w5:=(h.vals 12 44 rfl rfl).post (by decide)
    have e45:a'.tmps.getD 45 undef = .int .i64 0:=(h.vals 13 45 rfl rfl).post (by decide)
    obtain ⟨g,e7,hg⟩:∃ g,a'.tmps.getD 7 undef = .slice (some ⟨g,0,none⟩) 8 8 ∧ SlA w (x.L b) g w5:=(h.vals 14 7 rfl rfl).post (by decide)
    have e8:a'.tmps.getD 8 undef = .int .i64 0:=(h.vals 15 8 rfl rfl).post (by decide)
    have ST5:=Lib.hid h.st
    have HSL:=Lib.hid hg
    rw [List.foldl_cons,List.foldl_cons,List.foldl_cons,List.foldl_cons,List.foldl_cons,List.foldl_cons,List.foldl_nil,e43,e32,e44,e45,e7,e8] at hall2
    simp only [Act.put,List.setIfInBounds_toArray,List.set_cons_succ,List.set_cons_zero] at hall2
    subst hall2
    clear h e43 e32 e44 e45 e7 e8 hg ST cS HBI HLS
    go_wp2_with fail
    go_loopw [9] (fun u wr => ∃ (k:Nat) (s3:Im.WkS),k ≤ 8 ∧ u = .int .i64 (k:Int) ∧ foldO (x.slW U f (x.L b)) k s1 = some s3 ∧ WtD w p q mq x yb y s3 wr ∧ SlA w (x.L b) g wr) (fun u _ => 8 - (intOf u).toNat)
    case atStart => exact ⟨0,s1,Nat.zero_le _,rfl,rfl,ST5.out,HSL.out⟩
    case round =>
     clear ST5 HSL
     obtain ⟨k,s3,hk,rfl,hf3,st,hsl⟩:=hrel
     have ST:=Lib.hid st
     have HSL:=Lib.hid hsl
     have HF3:=Lib.hid hf3
     clear st hsl hf3
     by_cases hk8:k < 8
     ·have hk8':(k:Int) < 8:=by omega
      have k0:(0:Int) ≤ (k:Int):=by omega
      obtain ⟨a3,s4,ha3,hs4⟩:=foldO_at HS2.out hk8
      rw [HF3.out] at ha3
      injection ha3 with ha3
      subst ha3
      have HF4:=Lib.hid (foldO_next HF3.out hs4)
      have hgr:=Im.foldO_rest (fun _ _ _ h => Im.slW_grow h) HS2.out (by omega:k + 1 ≤ 8) HF4.out
      have HC4:Hid (∀ c,s4.met c ≤ 1000000000):=fun c => Nat.le_trans (hgr.1 c) (HC2.out c)
      have HS4:Hid (x.slW U f (x.L b) k s3 = some s4):=hs4
      have hds:=HDI.out k hk8
      have hdp:=dI_bd HZ.out k
      obtain ⟨d,hd⟩:∃ d,d = dI (x.L b) k:=⟨_,rfl⟩
      have HDE:=Lib.hid hd
      have cd:wr.cell? ⟨g,k * 2,none⟩ = some (.int .u32 d):=by have:=(HSL.out.2.slots k hk8).1;rw [Nat.zero_add] at this;rw [hd];exact this
      rw [← hd] at hds hdp
      clear hd hs4 hgr
      by_cases hd0:d = 0
      ·subst hd0
       have HR4:Hid (s3 = s4):=by
        have h:=HS4.out
        unfold Im.slW at h
        rw [← HDE.out,if_pos rfl] at h
        injection h
       go_wp2_with fail
       go_roundw
       case rel => first | exact ⟨k + 1,s4,by omega,by go_num,HF4.out,HR4.out ▸ ST.out,HSL.out⟩ | ((repeat apply Exists.intro);refine ⟨?_,rfl⟩;exact ⟨k + 1,s4,by omega,by go_num,HF4.out,HR4.out ▸ ST.out,HSL.out⟩)
       case measure => simp [intOf];omega
      ·obtain ⟨hcn,hck⟩:=hds hd0
       obtain ⟨c,rfl⟩:∃ c:Nat,d = (c:Int):=⟨d.toNat,by omega⟩
       rw [Int.toNat_natCast] at hcn hck
       have hc1:1 ≤ c:=by omega
       have hc0:((c:Int) == 0) = false:=by simp;omega
       have hcn':(c:Int) < (x.ni:Int) + 1:=by omega
       have HG4:Hid (x.gonW U f c s3 = some s4):=by
        have h:=HS4.out
        unfold Im.slW at h
        rw [← HDE.out,if_neg hd0,Int.toNat_natCast] at h
        exact h
       have HM3:Hid (s3.met c + 1 ≤ 1000000000):=by
        have h1:=HC4.out c
        have h:=HG4.out
        unfold Im.gonW at h
        have h2:(Im.meet c s3).met c ≤ s4.met c:=by
         split at h
         ·exact (Im.dirW_grow f c _ _ h).1 c
         ·injection h with h;exact h ▸ Nat.le_refl _
        rw [Im.meet_met,if_pos rfl] at h2
        show _ ≤ _
        omega
       obtain ⟨mv,hmv⟩:∃ mv,mv = s3.met c:=⟨_,rfl⟩
       have HMV:=Lib.hid hmv
       have hm9:mv + 1 ≤ 1000000000:=by rw [hmv];exact HM3.out
       have HCI:Hid ((c:Int) = dI (x.L b) k):=HDE.out
       have HGM:Hid (¬ mq = g ∧ ¬ mq = yb ∧ w.heap.size ≤ g):=⟨by have:=HSL.out.1;omega,by have:=ST.out.ly;omega,HSL.out.1⟩
       have hdp1:(c:Int) < 4294967296:=by have:=hdp.2;omega
       clear hmv hds hdp hd0 HS4 HM3 HDE
       go_wp2_with fail
       refine wp_region_bar (fun W => WtD w p q mq x yb y s3 W ∧ SlA w (x.L b) g W) 13 (by kernel_rfl) (by kernel_rfl) (by kernel_rfl) (by kernel_rfl) (by kernel_rfl) (by decide) ⟨ST.out.below (Below.refl _ _).drew,HSL.out.below (Below.refl _ _).drew⟩ ?_
       simp only [List.take_succ_cons,List.take_zero,List.drop_succ_cons,List.drop_zero]
       clear ST HSL cd
       intro hne
       have c5:∀ y':InW (fun W => WtD w p q mq x yb y s3 W ∧ SlA w (x.L b) g W),y'.W.cell? ⟨p,5,none⟩ = some (.slice (some ⟨mq,0,none⟩) (x.ni + 1) (x.ni + 1)):=fun y' => y'.h.1.s.r.a.cell (i:=5) rfl
       have cd:∀ y':InW (fun W => WtD w p q mq x yb y s3 W ∧ SlA w (x.L b) g W),y'.W.cell? ⟨g,k * 2,none⟩ = some (.int .u32 (c:Int)):=fun y' => by
        have:=(y'.h.2.2.slots k hk8).1
        rw [Nat.zero_add] at this
        rw [HCI.out];exact this
       have cc:∀ y':InW (fun W => WtD w p q mq x yb y s3 W ∧ SlA w (x.L b) g W),y'.W.cell? ⟨mq,c,none⟩ = some (.int .i64 (mv:Int)):=fun y' => by
        rw [HMV.out];exact y'.h.1.s.metc hcn
       repeat (first | go_big_quiet_skip | (go_big_quiet_want;go_big_quiet_op;go_big_quiet_on))
       refine wpQuiet_nil ?_
       intro w6 h6
       have ST6:=Lib.hid h6.out.1
       have HS6:=Lib.hid h6.out.2
       have cx:w6.cell? ⟨mq,c,none⟩ = some (.int .i64 (mv:Int)):=by rw [HMV.out];exact h6.out.1.s.metc hcn
       have fx:w6.frozen? ⟨mq,c,none⟩ = false:=h6.out.1.s.m.soft c
       clear h6 hne c5 cd cc
       have HS7:Hid (WtD w p q mq x yb y (Im.meet c s3) (w6.setCell ⟨mq,c,none⟩ (.int .i64 ((mv:Int) + 1))) ∧ SlA w (x.L b) g (w6.setCell ⟨mq,c,none⟩ (.int .i64 ((mv:Int) + 1)))):=by
        have h1:=ST6.out.s.setM (c:=c) hcn
        have e:((s3.met c + 1:Nat):Int) = (mv:Int) + 1:=by rw [← HMV.out];rfl
        rw [e] at h1
        have ho:Only mq w6 (w6.setCell ⟨mq,c,none⟩ (.int .i64 ((mv:Int) + 1))):=Only.setCell w6 ⟨mq,c,none⟩ _
        exact ⟨⟨h1,ST6.out.y.only ho (fun e => HGM.out.2.1 e.symm),ST6.out.ly,ST6.out.g.trans (GwS.of_only ho (.inr rfl))⟩,HS6.out.1,HS6.out.2.only ho (fun e => HGM.out.1 e.symm)⟩
       clear ST6 HS6
       obtain ⟨w7,hw7⟩:∃ w7,w7 = w6.setCell ⟨mq,c,none⟩ (.int .i64 ((mv:Int) + 1)):=⟨_,rfl⟩
       refine wp_store1 rfl 3 (.tmp 72) (.tmp 71) rfl mq c (.int .i64 ((mv:Int) + 1)) rfl rfl _ cx fx (by kernel_rfl) rfl ?_
       rw [← hw7] at HS7 ⊢
       have cd:w7.cell? ⟨g,k * 2,none⟩ = some (.int .u32 (c:Int)):=by
        have:=(HS7.out.2.2.slots k hk8).1
        rw [Nat.zero_add] at this
        rw [HCI.out];exact this
       have c0:(0:Int) ≤ (c:Int):=by omega
       clear hw7 cx fx
       go_wp2_with fail
       refine (HINO.out s3.left c hc1 hcn _ HS7.out.1.s.r).mono ?_
       rintro e w8 ⟨rfl,hb8⟩
       have HS8:Hid (WtD w p q mq x yb y (Im.meet c s3) w8 ∧ SlA w (x.L b) g w8):=⟨HS7.out.1.below hb8,HS7.out.2.below hb8⟩
       clear HS7 cd hb8
       have cd:w8.cell? ⟨g,k * 2,none⟩ = some (.int .u32 (c:Int)):=by
        have:=(HS8.out.2.2.slots k hk8).1
        rw [Nat.zero_add] at this
        rw [HCI.out];exact this
       obtain ⟨yc,hyc⟩:∃ yc,yc = x.ino c:=⟨_,rfl⟩
       have HYC:=Lib.hid hyc
       rw [← hyc]
       have hfl:∀ W,(Instr.field 63 yc.val 0).run Tryz.prog W = .ok (.int .u8 yc.kind) W:=fun W => by kernel_rfl
       by_cases h2:yc.kind = 2
       ·have hk2:(x.ino c).kind = 2:=by rw [← hyc];exact h2
        have HDW:Hid (x.dirW U f c (Im.meet c s3) = some s4):=by
         have h:=HG4.out
         unfold Im.gonW at h
         rw [if_pos hk2] at h
         exact h
        have HIH:=Lib.hid (IH.out c (Im.meet c s3) s4 HDW.out hk2 HC4.out w8 HS8.out.1.s)
        have q2:(yc.kind == 2) = true:=by rw [h2];rfl
        clear hyc h2 hk2 hck
        go_wp2_with fail
        refine HIH.out.mono ?_
        rintro e w9 ⟨rfl,hs9,hg9⟩
        have HS9:Hid (WtD w p q mq x yb y s4 w9 ∧ SlA w (x.L b) g w9):=by
         have hly:=HS8.out.1.ly
         exact ⟨⟨hs9,(hg9.block yb HS8.out.1.y.lt (fun e => by rcases e with e | e <;> omega)).trans HS8.out.1.y,hly,HS8.out.1.g.trans hg9⟩,HS8.out.2.1,HS8.out.2.2.gwS hg9 (fun e => by have:=HS8.out.2.1;rcases e with e | e <;> omega)⟩
        clear HS8 cd hs9 hg9 HIH
        go_wp2_with fail
        go_roundw
        case rel => first | exact ⟨k + 1,s4,by omega,by go_num,HF4.out,HS9.out.1,HS9.out.2⟩ | ((repeat apply Exists.intro);refine ⟨?_,rfl⟩;exact ⟨k + 1,s4,by omega,by go_num,HF4.out,HS9.out.1,HS9.out.2⟩)
        case measure => simp [intOf];omega
       ·have HDW:Hid (Im.meet c s3 = s4):=by
         have h:=HG4.out
         unfold Im.gonW at h
         rw [if_neg (by rw [← hyc];exact h2)] at h
         injection h
        have q2:(yc.kind == 2) = false:=by simp [h2]
        clear hyc h2 hck
        go_wp2_with fail
        go_roundw
        case rel => first | exact ⟨k + 1,s4,by omega,by go_num,HF4.out,HDW.out ▸ HS8.out.1,HS8.out.2⟩ | ((repeat apply Exists.intro);refine ⟨?_,rfl⟩;exact ⟨k + 1,s4,by omega,by go_num,HF4.out,HDW.out ▸ HS8.out.1,HS8.out.2⟩)
        case measure => simp [intOf];omega
     ·obtain rfl:k = 8:=by omega
      have HE:Hid (s3 = s2):=by
       have h1:=HF3.out
       have h2:=HS2.out
       rw [h1] at h2
       injection h2
      go_wp2_with fail
      go_roundw
      case rel => first | exact ⟨i + 1,s2,by omega,by go_num,HF2.out,HE.out ▸ ST.out⟩ | ((repeat apply Exists.intro);refine ⟨?_,rfl⟩;exact ⟨i + 1,s2,by omega,by go_num,HF2.out,HE.out ▸ ST.out⟩)
      case measure => simp [intOf];omega
   ·obtain rfl:i = N:=by omega
    have HE:Hid (s1 = s'):=by
     have h1:=HF1.out
     have h2:=HF.out
     rw [h1] at h2
     injection h2
    go_wp2_with fail
    go_ret
    exact ⟨rfl,HE.out ▸ ST.out.s,ST.out.g⟩
structure WbM (w:World) (pb q:Nat) (x:Im) (c:Nat) (L:Nat → Nat → Int) (st:Mv.St) (W:World):Prop where
 b:BiS w pb q (scells x.g x.s x.i x.j x.o) c L W
 m:st.n = 1 → ∃ mq,st.v = .slice (some ⟨mq,0,none⟩) (x.ni + 1) (x.ni + 1) ∧ RArr W mq 3 1 (x.ni + 1) (ownF fun _ => 0) ∧ w.heap.size ≤ mq ∧ pb < mq
 e:st.n = 2 → ∃ p mq,st.v = .pointer (some ⟨p,0,none⟩) ∧ At W p 72 (wkC x q mq (x.ni + 1)) ∧ RArr W mq 3 1 (x.ni + 1) (ownF fun _ => 0) ∧ w.heap.size ≤ mq ∧ w.heap.size ≤ p ∧ pb < p ∧ pb < mq
structure WtK (w:World) (p q mq pb:Nat) (x:Im) (s:Im.WkS) (W:World):Prop where
 s:WtS p q mq x s W
 su:At W pb 47 (scells x.g x.s x.i x.j x.o)
 bel:Below w.heap.size w W
theorem WtK.below {w:World} {p q mq pb:Nat} {x:Im} {s:Im.WkS} {W W':World} (h:WtK w p q mq pb x s W) (hb:Below W.heap.size W W'):WtK w p q mq pb x s W':=⟨h.s.below hb,h.su.below hb h.su.lt,h.bel.trans (hb.mono h.bel.size)⟩
structure WtY (w:World) (p q mq pb:Nat) (x:Im) (s:Im.WkS) (X:Nat) (y:Ino) (W:World):Prop where
 k:WtK w p q mq pb x s W
 y:InoAt W X 63 y
theorem WtY.below {w:World} {p q mq pb:Nat} {x:Im} {s:Im.WkS} {X:Nat} {y:Ino} {W W':World} (h:WtY w p q mq pb x s X y W) (hb:Below W.heap.size W W'):WtY w p q mq pb x s X y W':=⟨h.k.below hb,h.y.below hb h.y.lt⟩
theorem tree_of {x:Im} {m:Nat → Bool} {o:Nat → Nat} (h:x.trees m = some o) (hM:∀ t,1 ≤ t → t ≤ x.ni → (x.ino t).May) (t:Nat) (h1:1 ≤ t) (h2:t ≤ x.ni):x.Tree t:=by
 by_cases hk:(x.ino t).kind = 0
 ·intro q hq
  have hz:(x.ino t).p q = 0:=by
   rcases hM t h1 h2 with ⟨_,_,_,_,h⟩ | h | h
   ·exact (allZ_iff _ _).1 h q hq
   ·have:=h.1;omega
   ·have:=h.1;omega
  rw [hz]
  cases Im.lvl q <;> exact .inl rfl
 ·exact Im.trees_ok h h1 h2 hk
theorem cnt_none {u:Nat → List Nat} {t:Nat}:∀ n,(∀ p,p < n → t ∉ u p) → Im.cnt u t n = 0
 | 0,_ => rfl
 | n + 1,h => by
  show Im.cnt u t n + (u n).count t = 0
  rw [cnt_none n fun p hp => h p (by omega),List.count_eq_zero.2 (h n (Nat.lt_succ_self _))]
theorem checkTree_walk (G S I J:Int) (d:PlAd) (P:PlanD) (hB:P.Bd) (w:World) (hT:Tab w) (hP:PlnR w.heap.size d P w) :
  Calls Tryz.prog 6 #[plVal G S I J d P] w fun e w' => e = .returned (.bool true) ∧ Below w.heap.size w w':=by
 have hb0:Below w.heap.size w (w.alloc (.cells (plRow G S I J d P) 27)):=(Below.refl _ _).alloc (Nat.le_refl _) _
 have HB0:=Lib.hid hb0
 have HX0:=Lib.hid (At.plan (w:=w) G S I J d P)
 have HBD:=Lib.hid hB
 have HPL:=Lib.hid hP
 have HT:=Lib.hid hT
 have HTA:Hid (∀ W,Below w.heap.size w W → Tab W):=fun W h => HT.out.below h (Nat.le_refl _)
 clear hb0 hB hP hT
 go_enter Tryz.func6,Tryz.ntmps6
 go_wp2_with fail
 refine (awake20_any _ (HTA.out _ HB0.out)).mono ?_
 rintro e w1 ⟨rfl,hb1⟩
 have HX1:=Lib.hid (HX0.out.below hb1 HX0.out.lt)
 have HB1:Hid (Below w.heap.size w w1):=HB0.out.trans (hb1.mono HB0.out.size)
 have hbx:=HX1.out
 clear HB0 HX0 hb1
 go_wp2_with (first | (refine wp_loadAtG rfl 27 (.tmp 1) rfl _ _ _ rfl hbx Tryz.underlying27 rfl (info_plan _ _ _ _ _ _) ?_))
 have hpl1:PlnR w1.heap.size d P w1:=(HPL.out.below HB1.out).wide HB1.out.size
 refine (great_any20 G S I J d P HBD.out w1 hpl1).mono ?_
 rintro e w2 ⟨⟨bg,rfl,hsm⟩,hb2⟩
 have HX2:=Lib.hid (HX1.out.below hb2 HX1.out.lt)
 have HB2:Hid (Below w.heap.size w w2):=HB1.out.trans (hb2.mono HB1.out.size)
 have HSM:=Lib.hid hsm
 clear HX1 HB1 hb2 hbx hsm hpl1
 cases bg with
 | true =>
  go_wp2_with fail
  go_ret
  exact ⟨rfl,HB2.out⟩
 | false =>
  have HS:=Lib.hid (HSM.out rfl)
  have hbx:=HX2.out
  clear HSM
  go_wp2_with (first | (refine wp_loadAtG rfl 27 (.tmp 1) rfl _ _ _ rfl hbx Tryz.underlying27 rfl (info_plan _ _ _ _ _ _) ?_))
  refine ((image20_any G S I J d P HBD.out HS.out w2 ((HPL.out.below HB2.out).wide HB2.out.size)).mono fun e w' h => img_w h).mono ?_
  rintro e w3 ⟨hb3,a,n,c,L,rfl,him,hy,hn9,hq⟩
  have HIM:=Lib.hid him
  have HY:=Lib.hid hy
  have HQ:=Lib.hid hq
  have HB3:Hid (Below w.heap.size w w3):=HB2.out.trans (hb3.mono HB2.out.size)
  have HB2S:=Lib.hid HB2.out.size
  clear him hy HX2 HB2 hb3 hbx HS hq
  go_wp2_with fail
  refine (ckImage_any (.slice a n c) n L HY.out (by omega) w3 (HTA.out _ HB3.out) HIM.out).mono ?_
  rintro e w4 ⟨hC,hb4⟩
  have HIM4:=Lib.hid (HIM.out.below hb4)
  have HB4:Hid (Below w.heap.size w w4):=HB3.out.trans (hb4.mono HB3.out.size)
  have HQ4:Hid (0 < n → ∃ q,a = some ⟨q,0,none⟩ ∧ c = n ∧ w2.heap.size ≤ q ∧ RArr w4 q 32 256 n (bkF L)):=fun h => by
   obtain ⟨q,e1,e2,e3,e4⟩:=HQ.out h
   exact ⟨q,e1,e2,e3,e4.below hb4⟩
  clear HIM hb4 HQ
  have hA0:At (w4.alloc (.cells (scells 0 0 0 0 0) 47)) w4.heap.size 47 (scells 0 0 0 0 0):=At.new _ _ _
  have hzs:=zero_super
  have HBA:Hid (Below w4.heap.size w4 (w4.alloc (.cells (scells 0 0 0 0 0) 47))):=(Below.refl _ _).alloc (Nat.le_refl _) _
  rcases hC with ⟨hr,rfl⟩ | ⟨hr,hok,rfl⟩
  ·have HRN:=Lib.hid hr
   clear hr HQ4 HB3
   go_wp2_with (first | (refine wp_storeAt rfl 47 (.tmp 4) (.tmp 19) rfl w4.heap.size (scells 0 0 0 0 0) (scells 0 0 0 0 0) rfl rfl hA0 info_super rfl (all_s _ _ _ _ _) ?_))
   intro w5 hA5 ho5
   have hb5:Below w4.heap.size w4 w5:=HBA.out.trans (ho5.below (Nat.le_refl _))
   have HB5:Hid (Below w.heap.size w w5):=HB4.out.trans (hb5.mono HB4.out.size)
   have HIM5:=Lib.hid (HIM4.out.below hb5)
   clear hA0 hA5 ho5 HB4 hb5 HIM4 HBA
   go_wp2_with fail
   refine (ckRule_any (.slice a n c) n L HY.out (by omega) w5 (HTA.out _ HB5.out) HIM5.out).mono ?_
   rintro e w6 ⟨rfl,hb6⟩
   have HB6:Hid (Below w.heap.size w w6):=HB5.out.trans (hb6.mono HB5.out.size)
   have hne:=HRN.out
   obtain ⟨E,hE⟩:∃ E,E = (Im.of L n).exam.1:=⟨_,rfl⟩
   rw [← hE] at hne ⊢
   have d1:decide ((0:Int) < (E:Int)) = true:=decide_eq_true (by omega)
   have d2:decide (0 < E) = true:=decide_eq_true (by omega)
   clear HB5 HIM5 hb6 hE hne
   go_wp2_with fail
   go_ret
   exact ⟨rfl,HB6.out⟩
  ·have hn0:0 < n:=by
    rcases Nat.eq_zero_or_pos n with h | h
    ·subst h;rw [exam_none] at hr;cases hr
    ·exact h
   obtain ⟨q,rfl,rfl,hq2,hrq⟩:=HQ4.out hn0
   have HRQ:=Lib.hid hrq
   have HQL:Hid (w.heap.size ≤ q):=by have:=HB2S.out;show _ ≤ _;omega
   have HOK:=Lib.hid hok
   have HR:=Lib.hid hr
   clear HQ4 hok hr hrq hq2 HB3 HIM4
   obtain ⟨x,hx⟩:∃ x,x = Im.of L c:=⟨_,rfl⟩
   rw [← hx]
   have HOK2:Hid x.Ok:=by show x.Ok;rw [hx];exact HOK.out
   have hxn:x.n = c:=by rw [hx];rfl
   have hxL:x.L = L:=by rw [hx];rfl
   have HXE:=Lib.hid hx
   have HGD:Hid (∃ m o u,Im.Good x m o u ∧ x.exam = (0,o)):=by
    show ∃ m o u,_
    rw [hx];exact Im.good_of HR.out
   clear hx HOK
   obtain ⟨m,o,u,hgood,-⟩:=HGD.out
   have HG:=Lib.hid hgood
   clear hgood HGD
   go_wp2_with (first | (refine wp_storeAt rfl 47 (.tmp 4) (.tmp 19) rfl w4.heap.size (scells x.g x.s x.i x.j x.o) (scells 0 0 0 0 0) rfl rfl hA0 info_super rfl (all_s _ _ _ _ _) ?_))
   intro w5 hA5 ho5
   have hb5:Below w4.heap.size w4 w5:=HBA.out.trans (ho5.below (Nat.le_refl _))
   have ST:Hid (BiS w w4.heap.size q (scells x.g x.s x.i x.j x.o) c L w5):=⟨HRQ.out.below hb5,hA5,HB4.out.trans (hb5.mono HB4.out.size),HQL.out⟩
   obtain ⟨pb,hpb⟩:∃ pb,pb = w4.heap.size:=⟨_,rfl⟩
   rw [← hpb] at ST ⊢
   have HPB:Hid (w.heap.size ≤ pb):=by show _ ≤ _;rw [hpb];exact HB4.out.size
   clear hA0 hA5 ho5 HRQ HB4 HBA hb5 hpb
   have hrg:=ST.out.geo
   go_wp2_with (first | (refine wp_loadMid rfl 23 (.tmp 30) rfl pb 0 (gcells x.g x.s x.i x.j).toList _ rfl hrg Tryz.underlying23 rfl (by kernel_rfl) ?_))
   refine (geoInodes_any x.g x.s x.i x.j w5).mono ?_
   rintro e w6 ⟨rfl,hb6⟩
   have ST6:=Lib.hid (ST.out.below hb6)
   have hNI:nIn x.g x.s x.i x.j = ((x.ni:Nat):Int):=nIn_nat HOK2.out.may
   rw [hNI]
   have hni:x.ni ≤ 256:=gi_bd HOK2.out.may
   have hni1:1 ≤ x.ni:=(Im.kind_le (u:=u) HG.out.c5).2
   clear ST hrg hb6 hNI
   go_wp2_with fail
   refine Mv.wp_region_mc (WbM w pb q x c L) ⟨0,undef⟩ (by kernel_rfl) (by kernel_rfl) (by kernel_rfl) ⟨ST6.out.below (Below.refl _ _).drew,(fun h => by cases h),(fun h => by cases h)⟩ ?_
   clear ST6
   intro hne
   (refine Mv.lin_take 5 (by kernel_rfl) ?_;simp only [List.take_succ_cons,List.take_zero,List.drop_succ_cons,List.drop_zero])
   first | go_big_quiet_skip | (go_big_quiet_want;go_big_quiet_op;go_big_quiet_on)
   first | go_big_quiet_skip | (go_big_quiet_want;go_big_quiet_op;go_big_quiet_on)
   refine q_load rfl 23 (.tmp 34) rfl pb 0 rfl (gcells x.g x.s x.i x.j).toList _ (fun W h => by obtain ⟨_,h⟩:=h;exact h.b.geo) Tryz.underlying23 rfl (by kernel_rfl) ?_
   refine wpQuiet_frame (by simp only [Act.put,List.setIfInBounds_toArray,List.set_cons_succ,List.set_cons_zero];exact rfl) ?_
   first | go_big_quiet_skip | (go_big_quiet_want;go_big_quiet_op;go_big_quiet_on)
   first | go_big_quiet_skip | (go_big_quiet_want;go_big_quiet_op;go_big_quiet_on)
   refine wpQuiet_nil ?_
   refine Mv.lin_run rfl rfl fun W hW => ⟨.slice (some ⟨W.heap.size,0,none⟩) (x.ni + 1) (x.ni + 1),W.alloc (.cells (madeCells #[.int .i64 0] ((x.ni + 1) * 1)) 3),⟨1,.slice (some ⟨W.heap.size,0,none⟩) (x.ni + 1) (x.ni + 1)⟩,Vl.r_mks 37 (.tmp 37) (.tmp 37) _ _ rfl rfl rfl (run_mkints (x.ni + 1) (by omega) W),?_,?_⟩
   ·have hb:Below W.heap.size W (W.alloc (.cells (madeCells #[.int .i64 0] ((x.ni + 1) * 1)) 3)):=(Below.refl _ _).alloc (Nat.le_refl _) _
    refine ⟨hW.b.below hb,fun _ => ⟨W.heap.size,rfl,?_,hW.b.bel.size,hW.b.su.lt⟩,fun h => by cases h⟩
    exact (RArr.made (m:=1) W #[.int .i64 0] rfl (by omega) (x.ni + 1) 3).congr fun i hi => rfl
   generalize W.heap.size = mq at *
   clear hW
   refine Mv.frame (by simp only [Act.put,List.setIfInBounds_toArray,List.set_cons_succ,List.set_cons_zero];exact rfl) ?_
   (refine Mv.lin_take 3 (by kernel_rfl) ?_;simp only [List.take_succ_cons,List.take_zero,List.drop_succ_cons,List.drop_zero])
   first | go_big_quiet_skip | (go_big_quiet_want;go_big_quiet_op;go_big_quiet_on)
   first | go_big_quiet_skip | (go_big_quiet_want;go_big_quiet_op;go_big_quiet_on)
   refine q_val rfl (.agg (wkC x q mq (x.ni + 1))) (fun W => by rw [← hxn];kernel_rfl) ?_
   refine wpQuiet_frame (by simp only [Act.put,List.setIfInBounds_toArray,List.set_cons_succ,List.set_cons_zero];exact rfl) ?_
   refine wpQuiet_nil ?_
   refine Mv.lin_run rfl rfl fun W hW => ⟨.pointer (some ⟨W.heap.size,0,none⟩),W.alloc (.cells (wkC x q mq (x.ni + 1)) 72),⟨2,.pointer (some ⟨W.heap.size,0,none⟩)⟩,by kernel_rfl,?_,?_⟩
   ·have hb:Below W.heap.size W (W.alloc (.cells (wkC x q mq (x.ni + 1)) 72)):=(Below.refl _ _).alloc (Nat.le_refl _) _
    refine ⟨hW.b.below hb,(fun h => by cases h),fun _ => ?_⟩
    obtain ⟨mq',e,h1,h2,h5⟩:=hW.m rfl
    injection e with e
    injection e with e
    injection e with e
    subst e
    have h3:=hW.b.su.lt
    exact ⟨W.heap.size,mq,rfl,At.new W _ _,h1.below hb,h2,hW.b.bel.size,h3,h5⟩
   generalize W.heap.size = pw at *
   clear hW
   refine Mv.frame (by simp only [Act.put,List.setIfInBounds_toArray,List.set_cons_succ,List.set_cons_zero];exact rfl) ?_
   (refine Mv.lin_take 1 (by kernel_rfl) ?_;simp only [List.take_succ_cons,List.take_zero,List.drop_succ_cons,List.drop_zero])
   first | go_big_quiet_skip | (go_big_quiet_want;go_big_quiet_op;go_big_quiet_on)
   refine wpQuiet_nil ?_
   refine Mv.wpLin_nil ?_
   intro w7 h7
   obtain ⟨p,mq',hpe,hA,hM,hm1,hp1,hp2,hm2⟩:=h7.e rfl
   injection hpe with hpe
   injection hpe with hpe
   injection hpe with hpe
   subst hpe
   have hI:=h7.b.im
   rw [← hxn,← hxL] at hI
   have ST7:Hid (WtK w pw q mq' pb x ⟨fun _ => 0,x.ni + 1⟩ w7):=⟨⟨⟨hI,hA⟩,hM,by show x.ni + 1 ≤ 1000000;omega⟩,h7.b.su,h7.b.bel⟩
   have HLO:Hid (w.heap.size ≤ pw ∧ w.heap.size ≤ mq' ∧ pb < pw ∧ pb < mq'):=⟨hp1,hm1,hp2,hm2⟩
   have h4:allB (fun t => x.ck4 (t + 1)) x.ni = true:=Im.all1.2 HG.out.c4
   have hMay:∀ t,1 ≤ t → t ≤ x.ni → (x.ino t).May:=fun t a b => Im.all_may h4 t a b
   have hLi:=Im.good_lists HG.out
   have hud:∀ p,u p ≠ [] → (x.ino p).kind = 2:=fun p hp => by
    rcases Im.dirs_at HG.out.dirs p with ⟨e,_⟩ | ⟨_,_,e,_⟩
    ·exact absurd e hp
    ·exact e
   obtain ⟨s',hdw,hmet⟩:=Im.walk_ok HG.out hLi hud
   have hcnt:∀ c,Im.cnt u c (x.ni + 1) ≤ 1000:=fun c => by
    by_cases h1:1 ≤ c ∧ c ≤ x.ni ∧ (x.ino c).kind ≠ 0
    ·have h10:=HG.out.c10 c h1.1 h1.2.1
     have hb:=Ino.may_bd (hMay c h1.1 h1.2.1)
     unfold Im.ck10 at h10
     split at h10
     ·have:=of_decide_eq_true h10;omega
     split at h10
     ·have:=of_decide_eq_true h10;omega
     split at h10
     ·have:=of_decide_eq_true h10;omega
     ·rcases hb.2.2 with e | e | e
      ·exact absurd e h1.2.2
      ·rename_i _ _ n1;exact absurd e n1
      ·rename_i _ n2 _;exact absurd e n2
    ·rw [cnt_none _ fun p _ hc => h1 (hLi.mem p c hc)]
     omega
   have hcall:=walkDir_any HOK2.out HG.out.c4 hMay (fun t a b => tree_of HG.out.trees hMay t a b) (U:=u) (fun t hk => by
    rcases Im.dirs_at HG.out.dirs t with ⟨_,e⟩ | ⟨_,_,_,r,e1,e2⟩
    ·exact absurd hk e
    ·exact ⟨r,e1,e2⟩) (fun p c hc => (hLi.mem p c hc).1) pw q mq' _ 1 _ s' hdw HG.out.c5 (fun c => by rw [hmet c];have:=hcnt c;omega) w7 ST7.out.s
   have HCA:=Lib.hid hcall
   have HMET:Hid (∀ c,s'.met c = Im.cnt u c (x.ni + 1)):=hmet
   have HMY:=Lib.hid hMay
   have HLI:=Lib.hid hLi
   clear h7 hne hA hM hI hm1 hp1 hp2 hm2 hcall hdw hmet hcnt hud hLi hMay h4
   go_wp2_with fail
   refine HCA.out.mono ?_
   rintro e w8 ⟨rfl,hs8,hg8⟩
   have ST8:Hid (WtK w pw q mq' pb x s' w8):=⟨hs8,ST7.out.su.gwS hg8 (fun e => by have:=HLO.out;rcases e with e | e <;> omega),ST7.out.bel.trans (hg8.below (Nat.le_trans (Nat.le_refl _) ST7.out.bel.size) (fun j e => by have:=HLO.out;rcases e with e | e <;> omega))⟩
   clear ST7 hs8 hg8 HCA
   go_wp2_with fail
   go_loopw [8,9] (fun v _ wr => ∃ k:Nat,2 ≤ k ∧ k ≤ x.ni + 1 ∧ v = .int .i64 (k:Int) ∧ WtK w pw q mq' pb x s' wr) (fun v _ _ => x.ni + 1 - (intOf v).toNat)
   case atStart => exact ⟨2,Nat.le_refl _,by omega,rfl,ST8.out⟩
   case round =>
    clear ST8
    obtain ⟨k,hk2,hkn,rfl,st⟩:=hrel
    have ST:=Lib.hid st
    clear st
    by_cases hlt:k ≤ x.ni
    ·have hlt':(k:Int) ≤ (x.ni:Int):=by omega
     have k0:(0:Int) ≤ (k:Int):=by omega
     have hkn':(k:Int) < (x.ni:Int) + 1:=by omega
     go_wp2_with fail
     refine (walkIno_any HOK2.out HG.out.c4 pw q mq' s'.left k (by omega) hlt wr ST.out.s.r).mono ?_
     rintro e w9 ⟨rfl,hb9⟩
     have ST9:=Lib.hid (ST.out.below hb9)
     have hal:=zero_ino
     have hnew:=InoAt.new w9 .nil
     obtain ⟨y,hy⟩:∃ y,y = x.ino k:=⟨_,rfl⟩
     rw [← hy]
     have HYE:=Lib.hid hy
     clear ST hb9 hy
     go_wp2_with (first | (refine wp_storeIno rfl (.tmp 9) (.tmp 53) rfl w9.heap.size y .nil rfl rfl hnew ?_))
     intro w10 hi10 ho10
     have hb10:Below w9.heap.size w9 w10:=((Below.refl _ _).alloc (Nat.le_refl _) _).trans (ho10.below (Nat.le_refl _))
     obtain ⟨X,hX⟩:∃ X,X = w9.heap.size:=⟨_,rfl⟩
     rw [← hX] at hi10 ⊢
     have ST10:Hid (WtY w pw q mq' pb x s' X y w10):=⟨ST9.out.below hb10,hi10⟩
     have hmk:(y.kind = 0 ∧ s'.met k = 0) ∨ (y.kind ≠ 0 ∧ ((s'.met k:Nat):Int) = y.links):=by
      rw [HYE.out,HMET.out]
      by_cases h0:(x.ino k).kind = 0
      ·exact .inl ⟨h0,cnt_none _ fun p _ hc => (HLI.out.mem p k hc).2.2 h0⟩
      ·refine .inr ⟨h0,?_⟩
       have h10:=HG.out.c10 k (by omega) hlt
       unfold Im.ck10 at h10
       rw [if_neg (by omega)] at h10
       rcases HMY.out k (by omega) hlt with h | h | h
       ·exact absurd h.1 h0
       ·rw [if_neg (by rw [h.1];decide),if_pos h.1] at h10
        exact of_decide_eq_true h10
       ·rw [if_pos h.1] at h10
        have:=of_decide_eq_true h10
        rw [this,h.2.1];rfl
     clear ST9 hnew hal hb10 hi10 ho10 hX
     obtain ⟨mv,hmv⟩:∃ mv,mv = ((s'.met k:Nat):Int):=⟨_,rfl⟩
     have HMV:=Lib.hid hmv
     have hmm:(y.kind = 0 ∧ mv = 0) ∨ (y.kind ≠ 0 ∧ mv = y.links):=by
      rcases hmk with ⟨a,b⟩ | ⟨a,b⟩
      ·exact .inl ⟨a,by rw [hmv,b];rfl⟩
      ·exact .inr ⟨a,by rw [hmv,b]⟩
     clear hmk hmv
     go_wp2_with fail
     refine wp_region_S (WtY w pw q mq' pb x s' X y) (by kernel_rfl) (by kernel_rfl) (ST10.out.below ⟨rfl,rfl,rfl,Nat.le_refl _,fun _ _ => rfl⟩) ?_
     clear ST10
     intro hne
     have cK:∀ z:InW (WtY w pw q mq' pb x s' X y),z.W.cell? ⟨X,0,none⟩ = some (.int .u8 y.kind):=fun z => z.h.y.cell (i:=0) rfl
     have cL:∀ z:InW (WtY w pw q mq' pb x s' X y),z.W.cell? ⟨X,1,none⟩ = some (.int .i64 y.links):=fun z => z.h.y.cell (i:=1) rfl
     have c5:∀ z:InW (WtY w pw q mq' pb x s' X y),z.W.cell? ⟨pw,5,none⟩ = some (.slice (some ⟨mq',0,none⟩) (x.ni + 1) (x.ni + 1)):=fun z => z.h.k.s.r.a.cell (i:=5) rfl
     have cM:∀ z:InW (WtY w pw q mq' pb x s' X y),z.W.cell? ⟨mq',k,none⟩ = some (.int .i64 mv):=fun z => by rw [HMV.out];exact z.h.k.s.metc (by omega)
     generalize y.kind = kd at *
     generalize y.links = lk at *
     rcases hmm with ⟨rfl,rfl⟩ | ⟨hk0,rfl⟩
     ·repeat (first | go_big_quiet_skip | (go_big_quiet_want;go_big_quiet_op;go_big_quiet_on))
      refine wpQuiet_nil ?_
      intro w11 h11
      have ST11:=Lib.hid h11.out.k
      clear h11 hne cK cL c5 cM
      go_wp2_with fail
      go_roundw
      case rel => first | exact ⟨k + 1,by omega,by omega,by go_num,ST11.out⟩ | ((repeat apply Exists.intro);exact ⟨⟨k + 1,by omega,by omega,by go_num,ST11.out⟩,rfl⟩)
      case measure => simp [intOf];omega
     ·have q0:(kd != 0) = true:=by simp [hk0]
      have q1:(kd == 0) = false:=by simp [hk0]
      have q2:(mv != mv) = false:=by simp
      clear hk0
      repeat (first | go_big_quiet_skip | (go_big_quiet_want;go_big_quiet_op;go_big_quiet_on))
      refine wpQuiet_nil ?_
      intro w11 h11
      have ST11:=Lib.hid h11.out.k
      clear h11 hne cK cL c5 cM
      go_wp2_with fail
      go_roundw
      case rel => first | exact ⟨k + 1,by omega,by omega,by go_num,ST11.out⟩ | ((repeat apply Exists.intro);exact ⟨⟨k + 1,by omega,by omega,by go_num,ST11.out⟩,rfl⟩)
      case measure => simp [intOf];omega
    ·obtain rfl:k = x.ni + 1:=by omega
     have hm1:s'.met 1 = 0:=by rw [HMET.out,HLI.out.root]
     have HM1:=Lib.hid hm1
     have HQT:Hid (∀ W,WtK w pw q mq' pb x s' W → Calls Tryz.prog 26 #[.slice (some ⟨q,0,none⟩) c c] W fun e w' => e = .returned (.bool ((x.o:Int) == 0)) ∧ Below W.heap.size W w'):=fun W hW => by
      have hI:=hW.s.r.im
      rw [hxn,hxL] at hI
      refine (ckQuiet_any (.slice (some ⟨q,0,none⟩) c c) c L HY.out (by have:=HOK2.out.n_le;omega) W (HTA.out _ hW.bel) (imv_of hI)).mono fun e w' h => ⟨?_,h.2⟩
      rw [h.1,HR.out,← HXE.out]
      by_cases h0:x.o = 0
      ·simp [h0]
      ·simp [h0]
     obtain ⟨Z,hZ⟩:∃ Z,Z = ((x.o:Int) == 0):=⟨_,rfl⟩
     rw [← hZ] at HQT
     have hZ2:=hZ.symm
     clear hm1 hZ hlt hk2 hkn
     go_wp2_with fail
     refine wp_region_S (WtK w pw q mq' pb x s') (by kernel_rfl) (by kernel_rfl) (ST.out.below ⟨rfl,rfl,rfl,Nat.le_refl _,fun _ _ => rfl⟩) ?_
     clear ST
     intro hne
     have c5:∀ z:InW (WtK w pw q mq' pb x s'),z.W.cell? ⟨pw,5,none⟩ = some (.slice (some ⟨mq',0,none⟩) (x.ni + 1) (x.ni + 1)):=fun z => z.h.s.r.a.cell (i:=5) rfl
     have cM:∀ z:InW (WtK w pw q mq' pb x s'),z.W.cell? ⟨mq',1,none⟩ = some (.int .i64 0):=fun z => by
      have:=z.h.s.metc (c:=1) (by omega)
      rw [HM1.out] at this;exact this
     have cO:∀ z:InW (WtK w pw q mq' pb x s'),z.W.cell? ⟨pb,4,none⟩ = some (.int .u32 (x.o:Int)):=fun z => z.h.su.cell (i:=4) rfl
     have hni0:(1:Int) < (x.ni:Int) + 1:=by omega
     iterate 9 first | go_big_quiet_skip | (go_big_quiet_want;go_big_quiet_op;go_big_quiet_on)
     go_big_quiet_want
     go_big_quiet_op
     refine ⟨_,fun s => q_call s (fun W hW => (HQT.out W hW).mono fun e w' h => ⟨h.1,hW.below h.2⟩),?_⟩
     go_big_quiet_on
     cases Z
     all_goals
      repeat (first | go_big_quiet_skip | (go_big_quiet_want;go_big_quiet_op;go_big_quiet_on))
      refine wpQuiet_nil ?_
      intro w11 h11
      have ST11:=Lib.hid h11.out
      clear h11 hne c5 cM cO
      go_wp2_with fail
      go_ret
      exact ⟨rfl,ST11.out.bel⟩
end Go.Proofs.YtphamecphmbipaaGreatDoor
