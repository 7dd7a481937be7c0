/- Texts of this claim, merged. -/
import Derived.Test.YtphamecphmbipaaGreatDoorK07
set_option maxRecDepth 100000
set_option maxHeartbeats 16000000

namespace Go.Proofs.YtphamecphmbipaaGreatDoor
open Go.RowKit
set_option linter.unusedVariables false
abbrev tv (kind group at' ino:Int):List Value:=[.int .u8 kind,.int .i64 group,.int .i64 at',.int .i64 ino]
def thF (S t J:Nat) (k:Nat):List Value :=
 if k = 0 then tv 1 0 0 0 else if k = 1 then tv 2 0 0 0 else if k < 2 + J then tv 3 0 ((k:Int) - 2) 0 else
 if (k - (2 + J)) % S = 0 then tv 4 ((k - (2 + J)) / S:Nat) 0 0 else
 if (k - (2 + J)) % S = 1 then tv 5 ((k - (2 + J)) / S:Nat) 1 0 else
 if (k - (2 + J)) % S < 2 + t then tv 6 ((k - (2 + J)) / S:Nat) ((k - (2 + J)) % S:Nat) (1 + ((k - (2 + J)) / S:Nat) * (4 * (t:Int)) + 4 * (((k - (2 + J)) % S:Nat) - 2)) else
 tv 7 ((k - (2 + J)) / S:Nat) ((k - (2 + J)) % S:Nat) 0
theorem thF_len (S t J k:Nat):(thF S t J k).length = 4:=by unfold thF;repeat (first | split | rfl)
theorem thF_jour (S t J:Nat) {i:Nat} (h:i < J):thF S t J (2 + i) = tv 3 0 (i:Int) 0:=by
 unfold thF
 rw [if_neg (by omega),if_neg (by omega),if_pos (by omega)]
 rw [show ((2 + i:Nat):Int) - 2 = (i:Int) by omega]
theorem thF_at (S t J:Nat) (γ:Nat) {a:Nat} (ha:a < S):thF S t J (2 + J + γ * S + a) =
  if a = 0 then tv 4 γ 0 0 else if a = 1 then tv 5 γ 1 0 else if a < 2 + t then tv 6 γ a (1 + (γ:Int) * (4 * (t:Int)) + 4 * ((a:Int) - 2)) else tv 7 γ a 0:=by
 have e1:(2 + J + γ * S + a - (2 + J)) % S = a:=by
  rw [show 2 + J + γ * S + a - (2 + J) = γ * S + a by omega,Nat.mul_comm,Nat.mul_add_mod,Nat.mod_eq_of_lt ha]
 have e2:(2 + J + γ * S + a - (2 + J)) / S = γ:=by
  rw [show 2 + J + γ * S + a - (2 + J) = γ * S + a by omega,Nat.mul_comm,Nat.mul_add_div (by omega),Nat.div_eq_of_lt ha,Nat.add_zero]
 unfold thF
 rw [if_neg (by omega),if_neg (by omega),if_neg (by omega),e1,e2]
theorem info_thing:(Tryz.prog.info? 134).map (fun i => (i.zero,i.size,i.bytes)) = some (some (.agg #[.int .u8 0,.int .i64 0,.int .i64 0,.int .i64 0]),4,32):=by kernel_rfl
theorem zero_thing (W:World):(zeroValue 134).run Tryz.prog W = .ok (.agg #[.int .u8 0,.int .i64 0,.int .i64 0,.int .i64 0]) W:=by kernel_rfl
theorem run_thing1 (a b c d:Int) (w:World):(Instr.buildSlice 130 1 #[(0,.agg #[.int .u8 a,.int .i64 b,.int .i64 c,.int .i64 d])]).run Tryz.prog w = .ok (.slice (some ⟨w.heap.size,0,none⟩) 1 1) (w.alloc (.cells #[.int .u8 a,.int .i64 b,.int .i64 c,.int .i64 d] 134)):=by kernel_rfl
theorem run_thing2 (a b c d a' b' c' d':Int) (w:World):(Instr.buildSlice 130 2 #[(0,.agg #[.int .u8 a,.int .i64 b,.int .i64 c,.int .i64 d]),(1,.agg #[.int .u8 a',.int .i64 b',.int .i64 c',.int .i64 d'])]).run Tryz.prog w = .ok (.slice (some ⟨w.heap.size,0,none⟩) 2 2) (w.alloc (.cells #[.int .u8 a,.int .i64 b,.int .i64 c,.int .i64 d,.int .u8 a',.int .i64 b',.int .i64 c',.int .i64 d'] 134)):=by kernel_rfl
structure AlS (w:World) (G S I J:Int) (f:Nat → List Value) (n:Nat) (v:Value) (W:World):Prop where
 g:At W w.heap.size 23 (gcells G S I J)
 own:RMine W (w.heap.size + 1) 134 4 v n f
 bel:Below w.heap.size w W
theorem AlS.app {w:World} {G S I J:Int} {f:Nat → List Value} {n:Nat} {v v':Value} {W W':World} {vs:List Value} {T:TypeId} {k:Nat} (h:AlS w G S I J f n v W)
  (ho:W'.ownsRow (w.heap.size + 1) 134 4 v' (n + k) (Cs f n ++ vs)) (hg:(W.alloc (.cells vs.toArray T)).grownBy W' v.ownBlock) (hk:vs = Cs (fun i => f (n + i)) k):AlS w G S I J f (n + k) v' W':=by
 have hob:∀ q,v.ownBlock = some q → w.heap.size + 1 ≤ q:=fun q hq => (World.ownsRow.lt h.own q hq).1
 have hx:=h.g.alloc (.cells vs.toArray T)
 exact ⟨(hg.block _ hx.lt (fun e => by have:=hob _ e.symm;omega)).trans hx,RMine.append ho hk,(h.bel.alloc h.bel.size _).grown hg (h.bel.alloc h.bel.size _).size (fun q e => by have:=hob q e;omega)⟩
theorem rAll_any (G S I J:Int) (w:World):Calls Tryz.prog 57 #[gval G S I J] w fun e w' => Below w.heap.size w w' ∧
  (mayG G S I J = false ∧ e = .returned (.slice none 0 0) ∨ mayG G S I J = true ∧ ∃ v,e = .returned v ∧ RMine w' (w.heap.size + 1) 134 4 v (2 + J.toNat + G.toNat * S.toNat) (thF S.toNat (I.toNat / 4) J.toNat)):=by
 have HA:=Lib.hid (At.new w 23 (gcells G S I J))
 have HL:Hid (Below w.heap.size w (w.alloc (.cells (gcells G S I J) 23))):=(Below.refl _ _).alloc (Nat.le_refl _) _
 have hal:=zero_thing
 go_enter Tryz.func57,Tryz.ntmps57
 have hA:=HA.out
 go_wp2_with (first | (refine wp_loadAtG rfl 23 _ rfl _ _ _ rfl hA Tryz.underlying23 rfl (by kernel_rfl) ?_))
 refine (rMay5_any G S I J _).mono ?_
 rintro e w1 ⟨rfl,hb1⟩
 have hA1:=hA.below hb1 hA.lt
 have hL1:Below w.heap.size w w1:=HL.out.trans (hb1.mono HL.out.size)
 clear hA HA HL hb1
 cases hm:mayG G S I J with
 | false =>
  have HM0:=Lib.hid hm
  clear hm
  go_wp2_with fail
  go_ret
  exact ⟨hL1,.inl ⟨HM0.out,rfl⟩⟩
 | true =>
 have HM:=Lib.hid hm
 obtain ⟨h1,h2,h3,h4,h5,h6,h7,h8,h9,h10,h11⟩:=(mayG_iff G S I J).1 hm
 clear hm
 have hbs1:=run_thing1
 have hbs2:=run_thing2
 obtain ⟨i0,hi,hz0,hz1,hz2⟩:=info_parts info_thing
 obtain ⟨g,hg⟩:∃ g:Nat,G = (g:Int):=⟨G.toNat,by omega⟩
 obtain ⟨s,hs⟩:∃ s:Nat,S = (s:Int):=⟨S.toNat,by omega⟩
 obtain ⟨t,ht⟩:∃ t:Nat,I = 4 * (t:Int):=⟨(I / 4).toNat,by omega⟩
 obtain ⟨j,hj⟩:∃ j:Nat,J = (j:Int):=⟨J.toNat,by omega⟩
 have HFN:Hid (2 + J.toNat + G.toNat * S.toNat = 2 + j + g * s ∧ thF S.toNat (I.toNat / 4) J.toNat = thF s t j):=by
  subst hg hs ht hj
  exact ⟨by simp,by rw [Int.toNat_natCast,Int.toNat_natCast,show (4 * (t:Int)).toNat / 4 = t by omega]⟩
 have hgs:g * s ≤ 2048:=by have:=(GS_bd h1 h2 h3 h4).2;rw [hg,hs] at this;exact_mod_cast this
 have st0:Hid (AlS w G S I J (thF s t j) 2 (.slice (some ⟨w1.heap.size,0,none⟩) 2 2) (w1.alloc (.cells #[.int .u8 1,.int .i64 0,.int .i64 0,.int .i64 0,.int .u8 2,.int .i64 0,.int .i64 0,.int .i64 0] 134))) :=
  ⟨hA1.alloc _,⟨by simp [Cs,thF],.inr ⟨_,2,_,rfl,hA1.lt,heap_alloc_new w1 _,by omega,by unfold maxLen;omega,rfl,by simp [Cs,thF]⟩⟩,hL1.alloc hL1.size _⟩
 clear hA1 hL1
 go_wp2_with fail
 have st00:=st0.out
 clear st0
 go_loopw [3,4] (fun v u wr => ∃ (k:Nat) (a:Option Addr) (cap:Nat),k ≤ j ∧ v = .slice a (2 + k) cap ∧ u = .int .i64 (k:Int) ∧ AlS w G S I J (thF s t j) (2 + k) (.slice a (2 + k) cap) wr) (fun _ u _ => j - (intOf u).toNat)
 case atStart => exact ⟨0,_,2,by omega,rfl,rfl,st00⟩
 case round =>
  clear st00
  obtain ⟨k,a,cap,hk,rfl,rfl,st0⟩:=hrel
  have c3:wr.cell? ⟨w.heap.size,3,none⟩ = some (.int .i64 J):=st0.g.cell (i:=3) rfl
  by_cases hlt:k < j
  ·have l1:(k:Int) < J:=by omega
   have hown':=st0.own.alloc (.cells #[.int .u8 3,.int .i64 0,.int .i64 (k:Int),.int .i64 0] 134)
   have hnews:=cells_news wr [.int .u8 3,.int .i64 0,.int .i64 (k:Int),.int .i64 0] 134
   have hone:∀ u ∈ ([.int .u8 3,.int .i64 0,.int .i64 (k:Int),.int .i64 0]:List Value),u.oneCell' = true:=by intro u hu;simp only [List.mem_cons,List.not_mem_nil,or_false] at hu;rcases hu with rfl | rfl | rfl | rfl <;> rfl
   have hglt:=st0.g.lt
   go_wp2_with (first | (refine wpList_append_own _ rfl _ _ 130 rfl (w.heap.size + 1) 134 i0 (.agg #[.int .u8 0,.int .i64 0,.int .i64 0,.int .i64 0]) 4 32 Tryz.underlying130 hi hz0 hz1 hz2 rfl (by decide) _ (2 + k) _ rfl hown' ⟨wr.heap.size,0,none⟩ 1 1 [.int .u8 3,.int .i64 0,.int .i64 (k:Int),.int .i64 0] rfl rfl hnews hone (by unfold maxLen;omega) (by omega) (by simp;omega) ?_))
   intro v' w7 hown7 hg7 _
   have st:AlS w G S I J (thF s t j) (2 + k + 1) v' w7:=AlS.app st0 hown7 hg7 (by show _ = [] ++ thF s t j (2 + k + 0);rw [Nat.add_zero,thF_jour s t j hlt];rfl)
   obtain ⟨a',cap',hv'⟩:=st.own.form
   subst hv'
   clear st0 hown' hown7 hg7 hnews hone hglt
   clear c3
   go_wp2_with fail
   go_roundw
   case rel => first | exact ⟨k + 1,a',cap',by omega,rfl,by go_num,st⟩ | ((repeat apply Exists.intro);exact ⟨⟨k + 1,a',cap',by omega,rfl,by go_num,st⟩,rfl⟩)
   case measure => simp [intOf];omega
  ·obtain rfl:k = j:=by omega
   have l1:¬ (k:Int) < J:=by omega
   go_wp2_with fail
   go_loopw [3,5,6] (fun v q u wr => ∃ (γ:Nat) (a:Option Addr) (cap:Nat),γ ≤ g ∧ v = .slice a (2 + k + γ * s) cap ∧ q = .int .i64 (1 + (γ:Int) * (4 * (t:Int))) ∧ u = .int .i64 (γ:Int) ∧ AlS w G S I J (thF s t k) (2 + k + γ * s) (.slice a (2 + k + γ * s) cap) wr) (fun _ _ u _ => g - (intOf u).toNat)
   case atStart => exact ⟨0,a,cap,by omega,by rw [Nat.zero_mul,Nat.add_zero],by simp,rfl,by rw [Nat.zero_mul,Nat.add_zero];exact st0⟩
   case round =>
    clear st0 c3
    obtain ⟨γ,a1,cap1,hγ,rfl,rfl,rfl,st0⟩:=hrel
    have c0:wr.cell? ⟨w.heap.size,0,none⟩ = some (.int .i64 G):=st0.g.cell (i:=0) rfl
    have c2:wr.cell? ⟨w.heap.size,2,none⟩ = some (.int .i64 I):=st0.g.cell (i:=2) rfl
    by_cases hlt:γ < g
    ·have l1:(γ:Int) < G:=by omega
     have HAT:Hid (∀ a,a < s → thF s t k (2 + k + γ * s + a) = if a = 0 then tv 4 γ 0 0 else if a = 1 then tv 5 γ 1 0 else if a < 2 + t then tv 6 γ a (1 + (γ:Int) * (4 * (t:Int)) + 4 * ((a:Int) - 2)) else tv 7 γ a 0):=fun a ha => thF_at s t k γ ha
     have hps:γ * s + s ≤ 2048:=by
      have:(γ + 1) * s ≤ g * s:=Nat.mul_le_mul_right s hlt
      rw [Nat.succ_mul] at this;omega
     have HNX:Hid ((γ + 1) * s = γ * s + s):=Nat.succ_mul γ s
     have HIX:Hid (1 + ((γ + 1:Nat):Int) * (4 * (t:Int)) = 1 + (γ:Int) * (4 * (t:Int)) + 4 * (t:Int)):=by show _ = _;rw [Int.natCast_add,Int.add_mul];omega
     have hib:0 ≤ (γ:Int) * (4 * (t:Int)) ∧ (γ:Int) * (4 * (t:Int)) ≤ 256:=by
      refine ⟨Int.mul_nonneg (by omega) (by omega),?_⟩
      have:=Int.mul_le_mul (show (γ:Int) ≤ 4 by omega) (show 4 * (t:Int) ≤ 64 by omega) (by omega) (by omega:(0:Int) ≤ 4)
      omega
     generalize hpp:γ * s = pp at *
     generalize hqq:(γ:Int) * (4 * (t:Int)) = qq at *
     clear hpp hqq
     have hown':=st0.own.alloc (.cells #[.int .u8 4,.int .i64 (γ:Int),.int .i64 0,.int .i64 0,.int .u8 5,.int .i64 (γ:Int),.int .i64 1,.int .i64 0] 134)
     have hnews:=cells_news wr [.int .u8 4,.int .i64 (γ:Int),.int .i64 0,.int .i64 0,.int .u8 5,.int .i64 (γ:Int),.int .i64 1,.int .i64 0] 134
     have hone:∀ u ∈ ([.int .u8 4,.int .i64 (γ:Int),.int .i64 0,.int .i64 0,.int .u8 5,.int .i64 (γ:Int),.int .i64 1,.int .i64 0]:List Value),u.oneCell' = true:=by intro u hu;simp only [List.mem_cons,List.not_mem_nil,or_false] at hu;rcases hu with rfl | rfl | rfl | rfl | rfl | rfl | rfl | rfl <;> rfl
     have hglt:=st0.g.lt
     go_wp2_with (first | (refine wpList_append_own _ rfl _ _ 130 rfl (w.heap.size + 1) 134 i0 (.agg #[.int .u8 0,.int .i64 0,.int .i64 0,.int .i64 0]) 4 32 Tryz.underlying130 hi hz0 hz1 hz2 rfl (by decide) _ (2 + k + pp) _ rfl hown' ⟨wr.heap.size,0,none⟩ 2 2 [.int .u8 4,.int .i64 (γ:Int),.int .i64 0,.int .i64 0,.int .u8 5,.int .i64 (γ:Int),.int .i64 1,.int .i64 0] rfl rfl hnews hone (by unfold maxLen;omega) (by omega) (by simp;omega) ?_))
     intro v' w7 hown7 hg7 _
     have st:AlS w G S I J (thF s t k) (2 + k + pp + 2) v' w7:=AlS.app st0 hown7 hg7 (by show _ = [] ++ thF s t k (2 + k + pp + 0) ++ thF s t k (2 + k + pp + 1);rw [HAT.out 0 (by omega),HAT.out 1 (by omega)];rfl)
     obtain ⟨a',cap',hv'⟩:=st.own.form
     subst hv'
     clear st0 hown' hown7 hg7 hnews hone hglt
     clear c0 c2
     go_wp2_with fail
     go_loopw [3,5,7] (fun v q u wr => ∃ (κ:Nat) (a:Option Addr) (cap:Nat),κ ≤ t ∧ v = .slice a (2 + k + pp + 2 + κ) cap ∧ q = .int .i64 (1 + qq + 4 * (κ:Int)) ∧ u = .int .i64 (4 * (κ:Int)) ∧ AlS w G S I J (thF s t k) (2 + k + pp + 2 + κ) (.slice a (2 + k + pp + 2 + κ) cap) wr) (fun _ _ u _ => 4 * t - (intOf u).toNat)
     case atStart => exact ⟨0,a',cap',by omega,rfl,by simp,rfl,st⟩
     case round =>
      clear st
      obtain ⟨κ,a2,cap2,hκ,rfl,rfl,rfl,st0⟩:=hrel
      have c2:wr.cell? ⟨w.heap.size,2,none⟩ = some (.int .i64 I):=st0.g.cell (i:=2) rfl
      by_cases hlt2:κ < t
      ·have l2:4 * (κ:Int) < I:=by omega
       have t1:(4 * (κ:Int)).tdiv 4 = (κ:Int):=by rw [Int.tdiv_eq_ediv_of_nonneg (by omega)];omega
       have t2:4 * (κ:Int) / 4 = (κ:Int):=by omega
       have hown':=st0.own.alloc (.cells #[.int .u8 6,.int .i64 (γ:Int),.int .i64 (2 + (κ:Int)),.int .i64 (1 + qq + 4 * (κ:Int))] 134)
       have hnews:=cells_news wr [.int .u8 6,.int .i64 (γ:Int),.int .i64 (2 + (κ:Int)),.int .i64 (1 + qq + 4 * (κ:Int))] 134
       have hone:∀ u ∈ ([.int .u8 6,.int .i64 (γ:Int),.int .i64 (2 + (κ:Int)),.int .i64 (1 + qq + 4 * (κ:Int))]:List Value),u.oneCell' = true:=by intro u hu;simp only [List.mem_cons,List.not_mem_nil,or_false] at hu;rcases hu with rfl | rfl | rfl | rfl <;> rfl
       have hglt:=st0.g.lt
       go_wp2_with (first | (refine wpList_append_own _ rfl _ _ 130 rfl (w.heap.size + 1) 134 i0 (.agg #[.int .u8 0,.int .i64 0,.int .i64 0,.int .i64 0]) 4 32 Tryz.underlying130 hi hz0 hz1 hz2 rfl (by decide) _ (2 + k + pp + 2 + κ) _ rfl hown' ⟨wr.heap.size,0,none⟩ 1 1 [.int .u8 6,.int .i64 (γ:Int),.int .i64 (2 + (κ:Int)),.int .i64 (1 + qq + 4 * (κ:Int))] rfl rfl hnews hone (by unfold maxLen;omega) (by omega) (by simp;omega) ?_))
       intro v' w7 hown7 hg7 _
       have st:AlS w G S I J (thF s t k) (2 + k + pp + 2 + κ + 1) v' w7:=AlS.app st0 hown7 hg7 (by show _ = [] ++ thF s t k (2 + k + pp + 2 + κ + 0);rw [show 2 + k + pp + 2 + κ + 0 = 2 + k + pp + (2 + κ) by omega,HAT.out (2 + κ) (by omega),if_neg (by omega),if_neg (by omega),if_pos (by omega),show ((2 + κ:Nat):Int) = 2 + (κ:Int) by omega,show 2 + (κ:Int) - 2 = (κ:Int) by omega];rfl)
       obtain ⟨a',cap',hv'⟩:=st.own.form
       subst hv'
       clear st0 hown' hown7 hg7 hnews hone hglt
       clear c2
       go_wp2_with fail
       go_roundw
       case rel => first | exact ⟨κ + 1,a',cap',by omega,rfl,by go_num,by go_num,st⟩ | exact ⟨κ + 1,a',cap',by omega,rfl,int_eq (by omega),int_eq (by omega),st⟩ | ((repeat apply Exists.intro);exact ⟨⟨κ + 1,a',cap',by omega,rfl,int_eq (by omega),int_eq (by omega),st⟩,rfl⟩)
       case measure => simp [intOf];omega
      ·obtain rfl:κ = t:=by omega
       have l2:¬ 4 * (κ:Int) < I:=by omega
       have t1:I.tdiv 4 = (κ:Int):=by rw [Int.tdiv_eq_ediv_of_nonneg (by omega)];omega
       have t2:I / 4 = (κ:Int):=by omega
       go_wp2_with fail
       go_loopw [3,8] (fun v u wr => ∃ (α:Nat) (a:Option Addr) (cap:Nat),2 + κ ≤ α ∧ α ≤ s ∧ v = .slice a (2 + k + pp + α) cap ∧ u = .int .i64 (α:Int) ∧ AlS w G S I J (thF s κ k) (2 + k + pp + α) (.slice a (2 + k + pp + α) cap) wr) (fun _ u _ => s - (intOf u).toNat)
       case atStart => exact ⟨2 + κ,a2,cap2,by omega,by omega,by rw [Nat.add_assoc (2 + k + pp) 2 κ],int_eq (by omega),by rw [← Nat.add_assoc (2 + k + pp) 2 κ];exact st0⟩
       case round =>
        clear st0 c2
        obtain ⟨α,a3,cap3,hα0,hα,rfl,rfl,st0⟩:=hrel
        have c1:wr.cell? ⟨w.heap.size,1,none⟩ = some (.int .i64 S):=st0.g.cell (i:=1) rfl
        by_cases hlt3:α < s
        ·have l3:(α:Int) < S:=by omega
         have hown':=st0.own.alloc (.cells #[.int .u8 7,.int .i64 (γ:Int),.int .i64 (α:Int),.int .i64 0] 134)
         have hnews:=cells_news wr [.int .u8 7,.int .i64 (γ:Int),.int .i64 (α:Int),.int .i64 0] 134
         have hone:∀ u ∈ ([.int .u8 7,.int .i64 (γ:Int),.int .i64 (α:Int),.int .i64 0]:List Value),u.oneCell' = true:=by intro u hu;simp only [List.mem_cons,List.not_mem_nil,or_false] at hu;rcases hu with rfl | rfl | rfl | rfl <;> rfl
         have hglt:=st0.g.lt
         go_wp2_with (first | (refine wpList_append_own _ rfl _ _ 130 rfl (w.heap.size + 1) 134 i0 (.agg #[.int .u8 0,.int .i64 0,.int .i64 0,.int .i64 0]) 4 32 Tryz.underlying130 hi hz0 hz1 hz2 rfl (by decide) _ (2 + k + pp + α) _ rfl hown' ⟨wr.heap.size,0,none⟩ 1 1 [.int .u8 7,.int .i64 (γ:Int),.int .i64 (α:Int),.int .i64 0] rfl rfl hnews hone (by unfold maxLen;omega) (by omega) (by simp;omega) ?_))
         intro v' w7 hown7 hg7 _
         have st:AlS w G S I J (thF s κ k) (2 + k + pp + α + 1) v' w7:=AlS.app st0 hown7 hg7 (by show _ = [] ++ thF s κ k (2 + k + pp + α + 0);rw [Nat.add_zero,HAT.out α hlt3,if_neg (by omega),if_neg (by omega),if_neg (by omega)];rfl)
         obtain ⟨a',cap',hv'⟩:=st.own.form
         subst hv'
         clear st0 hown' hown7 hg7 hnews hone hglt
         clear c1
         go_wp2_with fail
         go_roundw
         case rel => first | exact ⟨α + 1,a',cap',by omega,by omega,rfl,by go_num,st⟩ | ((repeat apply Exists.intro);exact ⟨⟨α + 1,a',cap',by omega,by omega,rfl,by go_num,st⟩,rfl⟩)
         case measure => simp [intOf];omega
        ·obtain rfl:α = s:=by omega
         have l3:¬ (α:Int) < S:=by omega
         go_wp2_with fail
         go_roundw
         case rel => first | exact ⟨γ + 1,a3,cap3,by omega,by rw [HNX.out,Nat.add_assoc],by rw [HIX.out],by go_num,by rw [HNX.out,← Nat.add_assoc];exact st0⟩ | ((repeat apply Exists.intro);exact ⟨⟨γ + 1,a3,cap3,by omega,by rw [HNX.out,Nat.add_assoc],by rw [HIX.out],by go_num,by rw [HNX.out,← Nat.add_assoc];exact st0⟩,rfl⟩)
         case measure => simp [intOf];omega
    ·obtain rfl:γ = g:=by omega
     have l1:¬ (γ:Int) < G:=by omega
     have fin:Hid (Below w.heap.size w wr ∧ (mayG G S I J = false ∧ (Ending.returned (.slice a1 (2 + k + γ * s) cap1)) = .returned (.slice none 0 0) ∨ mayG G S I J = true ∧ ∃ v,(Ending.returned (.slice a1 (2 + k + γ * s) cap1)) = .returned v ∧ RMine wr (w.heap.size + 1) 134 4 v (2 + J.toNat + G.toNat * S.toNat) (thF S.toNat (I.toNat / 4) J.toNat))) :=
      ⟨st0.bel,.inr ⟨HM.out,_,rfl,by rw [HFN.out.1,HFN.out.2];exact st0.own⟩⟩
     go_wp2_with fail
     go_ret
     subst hg hs ht hj
     exact fin.out
def nBl (G S I J:Int):Int:=if mayG G S I J then 2 + J + G * S else 0
def nIn (G S I J:Int):Int:=if mayG G S I J then G * I else 0
def nDa (G S I J:Int):Int:=if mayG G S I J then S - 2 - I / 4 else 0
theorem GI_bd {G I:Int} (h1:1 ≤ G) (h2:G ≤ 4) (h3:4 ≤ I) (h4:I ≤ 64):4 ≤ G * I ∧ G * I ≤ 256:=by
 have h:=Int.mul_le_mul h2 h4 (by omega) (by omega:(0:Int) ≤ 4)
 have h':=Int.mul_le_mul h1 h3 (by omega) (by omega:(0:Int) ≤ G)
 omega
theorem nIn_bd (G S I J:Int):0 ≤ nIn G S I J ∧ nIn G S I J ≤ 256:=by
 unfold nIn
 cases h:mayG G S I J with
 | false => simp
 | true =>
  obtain ⟨h1,h2,h3,h4,h5,h6,h7,h8,h9,h10,h11⟩:=(mayG_iff G S I J).1 h
  have:=GI_bd h1 h2 h5 h6
  simp only [if_true];omega
theorem nDa_bd (G S I J:Int):0 ≤ nDa G S I J ∧ nDa G S I J ≤ 512:=by
 unfold nDa
 cases h:mayG G S I J with
 | false => simp
 | true =>
  obtain ⟨h1,h2,h3,h4,h5,h6,h7,h8,h9,h10,h11⟩:=(mayG_iff G S I J).1 h
  simp only [if_true];omega
theorem geoInodes_any (G S I J:Int) (w:World):Calls Tryz.prog 23 #[gval G S I J] w fun e w' => e = .returned (.int .i64 (nIn G S I J)) ∧ Below w.heap.size w w':=by
 have HA:=Lib.hid (At.new w 23 (gcells G S I J))
 have HL:Hid (Below w.heap.size w (w.alloc (.cells (gcells G S I J) 23))):=(Below.refl _ _).alloc (Nat.le_refl _) _
 go_enter Tryz.func23,Tryz.ntmps23
 have hA:=HA.out
 go_wp2_with (first | (refine wp_loadAtG rfl 23 _ rfl _ _ _ rfl hA Tryz.underlying23 rfl (by kernel_rfl) ?_))
 refine (geoMay_any G S I J _).mono ?_
 rintro e w1 ⟨rfl,hb1⟩
 have hA1:=hA.below hb1 hA.lt
 have hL1:Below w.heap.size w w1:=HL.out.trans (hb1.mono HL.out.size)
 clear hA HA HL hb1
 cases hm:mayG G S I J with
 | false =>
  have HN:Hid (nIn G S I J = 0):=by show _ = _;unfold nIn;rw [hm];rfl
  clear hm
  go_wp2_with fail
  go_ret
  exact ⟨by rw [HN.out];rfl,hL1⟩
 | true =>
  have HN:Hid (nIn G S I J = G * I):=by show _ = _;unfold nIn;rw [hm];rfl
  obtain ⟨h1,h2,h3,h4,h5,h6,h7,h8,h9,h10,h11⟩:=(mayG_iff G S I J).1 hm
  have hgi:=GI_bd h1 h2 h5 h6
  have hw:IntKind.i64.wrap (G * I) = G * I:=IntWalk.i64_in _ (by omega)
  have c0:w1.cell? ⟨w.heap.size,0,none⟩ = some (.int .i64 G):=hA1.cell (i:=0) rfl
  have c2:w1.cell? ⟨w.heap.size,2,none⟩ = some (.int .i64 I):=hA1.cell (i:=2) rfl
  clear hm h11
  go_wp2_with fail
  go_ret
  exact ⟨by rw [HN.out];rfl,hL1⟩
theorem geoData_any (G S I J:Int) (w:World):Calls Tryz.prog 89 #[gval G S I J] w fun e w' => e = .returned (.int .i64 (nDa G S I J)) ∧ Below w.heap.size w w':=by
 have HA:=Lib.hid (At.new w 23 (gcells G S I J))
 have HL:Hid (Below w.heap.size w (w.alloc (.cells (gcells G S I J) 23))):=(Below.refl _ _).alloc (Nat.le_refl _) _
 go_enter Tryz.func89,Tryz.ntmps89
 have hA:=HA.out
 go_wp2_with (first | (refine wp_loadAtG rfl 23 _ rfl _ _ _ rfl hA Tryz.underlying23 rfl (by kernel_rfl) ?_))
 refine (geoMay_any G S I J _).mono ?_
 rintro e w1 ⟨rfl,hb1⟩
 have hA1:=hA.below hb1 hA.lt
 have hL1:Below w.heap.size w w1:=HL.out.trans (hb1.mono HL.out.size)
 clear hA HA HL hb1
 cases hm:mayG G S I J with
 | false =>
  have HN:Hid (nDa G S I J = 0):=by show _ = _;unfold nDa;rw [hm];rfl
  clear hm
  go_wp2_with fail
  go_ret
  exact ⟨by rw [HN.out];rfl,hL1⟩
 | true =>
  have HN:Hid (nDa G S I J = S - 2 - I / 4):=by show _ = _;unfold nDa;rw [hm];rfl
  obtain ⟨h1,h2,h3,h4,h5,h6,h7,h8,h9,h10,h11⟩:=(mayG_iff G S I J).1 hm
  have c0:w1.cell? ⟨w.heap.size,1,none⟩ = some (.int .i64 S):=hA1.cell (i:=1) rfl
  have c2:w1.cell? ⟨w.heap.size,2,none⟩ = some (.int .i64 I):=hA1.cell (i:=2) rfl
  have t1:=i64_quo4 I h5
  clear hm h11
  go_wp2_with fail
  go_ret
  exact ⟨by rw [HN.out];rfl,hL1⟩
theorem thF_d7 (S t J i:Nat) (hS:0 < S) (ht:2 + t < S):∃ kd gr a n:Int,thF S t J i = tv kd gr a n ∧ ((kd = 7 ∧ gr = 0) ↔ (4 + J + t ≤ i ∧ i < 2 + J + S)):=by
 unfold thF
 split
 ·exact ⟨_,_,_,_,rfl,by omega⟩
 split
 ·exact ⟨_,_,_,_,rfl,by omega⟩
 split
 ·exact ⟨_,_,_,_,rfl,by omega⟩
 have hdm:=Nat.div_add_mod (i - (2 + J)) S
 have hml:=Nat.mod_lt (i - (2 + J)) hS
 have hd0:(i - (2 + J)) / S = 0 ↔ i - (2 + J) < S:=Nat.div_eq_zero_iff_lt hS
 have hmd:i - (2 + J) < S → (i - (2 + J)) % S = i - (2 + J):=Nat.mod_eq_of_lt
 generalize (i - (2 + J)) % S = r at *
 generalize (i - (2 + J)) / S = q at *
 split
 ·exact ⟨_,_,_,_,rfl,by constructor <;> intro h <;> omega⟩
 split
 ·exact ⟨_,_,_,_,rfl,by constructor <;> intro h <;> omega⟩
 split
 ·exact ⟨_,_,_,_,rfl,by constructor <;> intro h <;> omega⟩
 ·exact ⟨_,_,_,_,rfl,by constructor <;> intro h <;> omega⟩
theorem rData5_any (G S I J:Int) (w:World):Calls Tryz.prog 58 #[gval G S I J] w fun e w' => e = .returned (.int .i64 (nDa G S I J)) ∧ Below w.heap.size w w':=by
 have HA:=Lib.hid (At.new w 23 (gcells G S I J))
 have HL:Hid (Below w.heap.size w (w.alloc (.cells (gcells G S I J) 23))):=(Below.refl _ _).alloc (Nat.le_refl _) _
 go_enter Tryz.func58,Tryz.ntmps58
 have hA:=HA.out
 go_wp2_with (first | (refine wp_loadAtG rfl 23 _ rfl _ _ _ rfl hA Tryz.underlying23 rfl (by kernel_rfl) ?_))
 refine (rAll_any G S I J _).mono ?_
 rintro e w1 ⟨hb1,hlr⟩
 have hL1:Below w.heap.size w w1:=HL.out.trans (hb1.mono HL.out.size)
 clear hA HA HL hb1
 have hfull:∃ (n:Nat) (a:Option Addr) (cap:Nat) (q b:Nat),e = .returned (.slice a n cap) ∧ nDa G S I J = ((b - q:Nat):Int) ∧ b ≤ n ∧ n ≤ 10000 ∧ ∀ i,i < n → ∃ g off kd gr,a = some ⟨g,off,none⟩ ∧ w1.cell? ⟨g,off + i * 4,none⟩ = some (.int .u8 kd) ∧ w1.cell? ⟨g,off + i * 4 + 1,none⟩ = some (.int .i64 gr) ∧ ((kd = 7 ∧ gr = 0) ↔ (q ≤ i ∧ i < b)):=by
  rcases hlr with ⟨hm,rfl⟩ | ⟨hm,v,rfl,hown⟩
  ·exact ⟨0,none,0,0,0,rfl,by unfold nDa;rw [hm];rfl,by omega,by omega,fun i hi => by omega⟩
  ·obtain ⟨a,cap,rfl⟩:=hown.form
   obtain ⟨h1,h2,h3,h4,h5,h6,h7,h8,h9,h10,h11⟩:=(mayG_iff G S I J).1 hm
   obtain ⟨g,rfl⟩:∃ g:Nat,G = (g:Int):=⟨G.toNat,by omega⟩
   obtain ⟨s,rfl⟩:∃ s:Nat,S = (s:Int):=⟨S.toNat,by omega⟩
   obtain ⟨t,rfl⟩:∃ t:Nat,I = 4 * (t:Int):=⟨(I / 4).toNat,by omega⟩
   obtain ⟨j,rfl⟩:∃ j:Nat,J = (j:Int):=⟨J.toNat,by omega⟩
   have hgs:g * s ≤ 2048:=by have:=(GS_bd h1 h2 h3 h4).2;exact_mod_cast this
   have hgs1:s ≤ g * s:=Nat.le_mul_of_pos_left s (by omega)
   simp only [Int.toNat_natCast,show (4 * (t:Int)).toNat / 4 = t by omega] at hown ⊢
   refine ⟨2 + j + g * s,a,cap,4 + j + t,2 + j + s,rfl,by unfold nDa;rw [hm,if_pos rfl];omega,by omega,by omega,fun i hi => ?_⟩
   have hrow:=hown.row (fun i => thF_len s t j i)
   rcases hrow with h0 | ⟨b,off,rfl,hsg⟩
   ·omega
   obtain ⟨kd,gr,a',n',he,hiff⟩:=thF_d7 s t j i (by omega) (by omega)
   exact ⟨b,off,kd,gr,rfl,hsg i hi 0 _ (by rw [he];rfl),hsg i hi 1 _ (by rw [he];rfl),hiff⟩
 obtain ⟨n,a,cap,q,b,rfl,hN,hbn,hn,hcells⟩:=hfull
 have HN:=Lib.hid hN
 have HC:=Lib.hid hcells
 clear hlr hN hcells
 go_wp2_with fail
 go_loop [4,5] (fun c k => ∃ i:Nat,i ≤ n ∧ k = .int .i64 i ∧ c = .int .i64 ((min i b - q:Nat):Int)) (fun _ k => n - (intOf k).toNat)
 case atStart => exact ⟨0,by omega,rfl,by rw [show min 0 b - q = 0 by omega];rfl⟩
 case round =>
  obtain ⟨i,hi,rfl,rfl⟩:=hrel
  by_cases hlt:i < n
  ·obtain ⟨g,off,kd,gr,rfl,hc0,hc1,hiff⟩:=HC.out i hlt
   obtain ⟨c,hc⟩:∃ c,min i b - q = c:=⟨_,rfl⟩
   have hcn:c ≤ 10000:=by omega
   have HX:Hid (min (i + 1) b - q = if kd = 7 ∧ gr = 0 then c + 1 else c):=by
    show _ = _
    by_cases h:kd = 7 ∧ gr = 0
    ·rw [if_pos h];have:=hiff.1 h;omega
    ·rw [if_neg h]
     have:¬ (q ≤ i ∧ i < b):=fun h' => h (hiff.2 h')
     omega
   rw [hc]
   clear hiff hc
   by_cases hk:kd = 7
   ·have k1:(kd == 7) = true:=by simpa using hk
    by_cases hg:gr = 0
    ·have g1:(gr == 0) = true:=by simpa using hg
     have HX2:Hid (min (i + 1) b - q = c + 1):=by show _ = _;rw [HX.out,if_pos ⟨hk,hg⟩]
     clear HX hk hg
     go_wp2_with fail
     go_round
     case rel => exact ⟨i + 1,by omega,by go_num,by rw [HX2.out];go_num⟩
     case measure => simp [intOf];omega
    ·have g1:(gr == 0) = false:=by simpa using hg
     have HX2:Hid (min (i + 1) b - q = c):=by show _ = _;rw [HX.out,if_neg (fun h => hg h.2)]
     clear HX hk hg
     go_wp2_with fail
     go_round
     case rel => exact ⟨i + 1,by omega,by go_num,by rw [HX2.out]⟩
     case measure => simp [intOf];omega
   ·have k1:(kd == 7) = false:=by simpa using hk
    have HX2:Hid (min (i + 1) b - q = c):=by show _ = _;rw [HX.out,if_neg (fun h => hk h.1)]
    clear HX hk
    go_wp2_with fail
    go_round
    case rel => exact ⟨i + 1,by omega,by go_num,by rw [HX2.out]⟩
    case measure => simp [intOf];omega
  ·obtain rfl:i = n:=by omega
   have hE:min i b = b:=by omega
   rw [hE]
   go_wp2_with fail
   go_ret
   exact ⟨by rw [HN.out];rfl,hL1⟩
end Go.Proofs.YtphamecphmbipaaGreatDoor
