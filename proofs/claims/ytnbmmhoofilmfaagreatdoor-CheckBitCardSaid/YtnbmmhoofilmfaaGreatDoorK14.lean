/- Texts of this claim, merged by a program (a claim may have 60 files): Parts. -/
import Derived.Test.YtnbmmhoofilmfaaGreatDoorK07
import Derived.Test.YtnbmmhoofilmfaaGreatDoorK02
import Derived.Shelf.Abstract
import Derived.TacticsInMore
import Derived.LoopNIn
import Derived.LoopIn
namespace Go.Proofs.YtnbmmhoofilmfaaGreatDoor
open Go.RowKit Go.Shelf
set_option linter.unusedVariables false
attribute [local go_sem] Oper.semAt_some
abbrev pcells (kind group from' size place:Int):Array Value:=#[.int .u8 kind,.int .i64 group,.int .i64 from',.int .i64 size,.int .i64 place]
def ptF (S t J:Int) (k:Nat):Array Value :=
 if k = 0 then pcells 1 0 0 1 0 else if k = 1 then pcells 2 0 1 1 0 else if k = 2 then pcells 3 0 2 J 0 else
 if (k - 3) % 4 = 0 then pcells 4 ((k - 3) / 4:Nat) (2 + J + ((k - 3) / 4:Nat) * S) 1 0 else
 if (k - 3) % 4 = 1 then pcells 5 ((k - 3) / 4:Nat) (2 + J + ((k - 3) / 4:Nat) * S + 1) 1 1 else
 if (k - 3) % 4 = 2 then pcells 6 ((k - 3) / 4:Nat) (2 + J + ((k - 3) / 4:Nat) * S + 2) t 2 else
 pcells 7 ((k - 3) / 4:Nat) (2 + J + ((k - 3) / 4:Nat) * S + 2 + t) (S - 2 - t) (2 + t)
theorem ptF_at (S t J:Int) (γ:Nat) {i:Nat} (hi:i < 4):ptF S t J (3 + 4 * γ + i) = if i = 0 then pcells 4 γ (2 + J + (γ:Int) * S) 1 0 else if i = 1 then pcells 5 γ (2 + J + (γ:Int) * S + 1) 1 1 else if i = 2 then pcells 6 γ (2 + J + (γ:Int) * S + 2) t 2 else pcells 7 γ (2 + J + (γ:Int) * S + 2 + t) (S - 2 - t) (2 + t):=by
 have e1:(3 + 4 * γ + i - 3) % 4 = i:=by omega
 have e2:(3 + 4 * γ + i - 3) / 4 = γ:=by omega
 unfold ptF
 rw [if_neg (by omega),if_neg (by omega),if_neg (by omega),e1,e2]
def PtNeed (B:Nat) (G S I J:Int):Nat → World → Prop:=fun _ W => At W B 23 (gcells G S I J)
theorem zero_part (W:World):(zeroValue 126).run Tryz.prog W = .ok (.agg (pcells 0 0 0 0 0)) W:=by kernel_rfl
theorem idx3_0 (J:Int) (W:World):(Instr.index 189 (.agg #[.int .u8 1,.int .i64 0,.int .i64 0,.int .i64 1,.int .i64 0,.int .u8 2,.int .i64 0,.int .i64 1,.int .i64 1,.int .i64 0,.int .u8 3,.int .i64 0,.int .i64 2,.int .i64 J,.int .i64 0]) (.int .i64 0)).run Tryz.prog W = .ok (.agg (pcells 1 0 0 1 0)) W:=by kernel_rfl
theorem idx3_1 (J:Int) (W:World):(Instr.index 189 (.agg #[.int .u8 1,.int .i64 0,.int .i64 0,.int .i64 1,.int .i64 0,.int .u8 2,.int .i64 0,.int .i64 1,.int .i64 1,.int .i64 0,.int .u8 3,.int .i64 0,.int .i64 2,.int .i64 J,.int .i64 0]) (.int .i64 1)).run Tryz.prog W = .ok (.agg (pcells 2 0 1 1 0)) W:=by kernel_rfl
theorem idx3_2 (J:Int) (W:World):(Instr.index 189 (.agg #[.int .u8 1,.int .i64 0,.int .i64 0,.int .i64 1,.int .i64 0,.int .u8 2,.int .i64 0,.int .i64 1,.int .i64 1,.int .i64 0,.int .u8 3,.int .i64 0,.int .i64 2,.int .i64 J,.int .i64 0]) (.int .i64 2)).run Tryz.prog W = .ok (.agg (pcells 3 0 2 J 0)) W:=by kernel_rfl
theorem idx4_0 (g a b c d t s p:Int) (W:World):(Instr.index 190 (.agg #[.int .u8 4,.int .i64 g,.int .i64 a,.int .i64 1,.int .i64 0,.int .u8 5,.int .i64 g,.int .i64 b,.int .i64 1,.int .i64 1,.int .u8 6,.int .i64 g,.int .i64 c,.int .i64 t,.int .i64 2,.int .u8 7,.int .i64 g,.int .i64 d,.int .i64 s,.int .i64 p]) (.int .i64 0)).run Tryz.prog W = .ok (.agg (pcells 4 g a 1 0)) W:=by kernel_rfl
theorem idx4_1 (g a b c d t s p:Int) (W:World):(Instr.index 190 (.agg #[.int .u8 4,.int .i64 g,.int .i64 a,.int .i64 1,.int .i64 0,.int .u8 5,.int .i64 g,.int .i64 b,.int .i64 1,.int .i64 1,.int .u8 6,.int .i64 g,.int .i64 c,.int .i64 t,.int .i64 2,.int .u8 7,.int .i64 g,.int .i64 d,.int .i64 s,.int .i64 p]) (.int .i64 1)).run Tryz.prog W = .ok (.agg (pcells 5 g b 1 1)) W:=by kernel_rfl
theorem idx4_2 (g a b c d t s p:Int) (W:World):(Instr.index 190 (.agg #[.int .u8 4,.int .i64 g,.int .i64 a,.int .i64 1,.int .i64 0,.int .u8 5,.int .i64 g,.int .i64 b,.int .i64 1,.int .i64 1,.int .u8 6,.int .i64 g,.int .i64 c,.int .i64 t,.int .i64 2,.int .u8 7,.int .i64 g,.int .i64 d,.int .i64 s,.int .i64 p]) (.int .i64 2)).run Tryz.prog W = .ok (.agg (pcells 6 g c t 2)) W:=by kernel_rfl
theorem idx4_3 (g a b c d t s p:Int) (W:World):(Instr.index 190 (.agg #[.int .u8 4,.int .i64 g,.int .i64 a,.int .i64 1,.int .i64 0,.int .u8 5,.int .i64 g,.int .i64 b,.int .i64 1,.int .i64 1,.int .u8 6,.int .i64 g,.int .i64 c,.int .i64 t,.int .i64 2,.int .u8 7,.int .i64 g,.int .i64 d,.int .i64 s,.int .i64 p]) (.int .i64 3)).run Tryz.prog W = .ok (.agg (pcells 7 g d s p)) W:=by kernel_rfl
theorem info_part:(Tryz.prog.info? 126).map (·.size) = some 5:=by kernel_rfl
theorem info_parts3:(Tryz.prog.info? 189).map (·.size) = some 15:=by kernel_rfl
theorem info_parts4:(Tryz.prog.info? 190).map (·.size) = some 20:=by kernel_rfl
abbrev h15 (J:Int):Array Value:=#[.int .u8 1,.int .i64 0,.int .i64 0,.int .i64 1,.int .i64 0,.int .u8 2,.int .i64 0,.int .i64 1,.int .i64 1,.int .i64 0,.int .u8 3,.int .i64 0,.int .i64 2,.int .i64 J,.int .i64 0]
theorem all_h15 (J:Int):(h15 J).all (·.oneCell') = true:=by kernel_rfl
theorem all_p (a b c d e:Int):(pcells a b c d e).all (·.oneCell') = true:=by kernel_rfl
abbrev z15:Array Value:=#[.int .u8 0,.int .i64 0,.int .i64 0,.int .i64 0,.int .i64 0,.int .u8 0,.int .i64 0,.int .i64 0,.int .i64 0,.int .i64 0,.int .u8 0,.int .i64 0,.int .i64 0,.int .i64 0,.int .i64 0]
abbrev h20 (γ a b c d t s p:Int):Array Value:=#[.int .u8 4,.int .i64 γ,.int .i64 a,.int .i64 1,.int .i64 0,.int .u8 5,.int .i64 γ,.int .i64 b,.int .i64 1,.int .i64 1,.int .u8 6,.int .i64 γ,.int .i64 c,.int .i64 t,.int .i64 2,.int .u8 7,.int .i64 γ,.int .i64 d,.int .i64 s,.int .i64 p]
theorem all_h20 (γ a b c d t s p:Int):(h20 γ a b c d t s p).all (·.oneCell') = true:=by kernel_rfl
abbrev z20:Array Value:=#[.int .u8 0,.int .i64 0,.int .i64 0,.int .i64 0,.int .i64 0,.int .u8 0,.int .i64 0,.int .i64 0,.int .i64 0,.int .i64 0,.int .u8 0,.int .i64 0,.int .i64 0,.int .i64 0,.int .i64 0,.int .u8 0,.int .i64 0,.int .i64 0,.int .i64 0,.int .i64 0]
theorem zero_arr4 (W:World):(zeroValue 190).run Tryz.prog W = .ok (.agg z20) W:=by kernel_rfl
theorem zero_arr3 (W:World):(zeroValue 189).run Tryz.prog W = .ok (.agg z15) W:=by kernel_rfl
theorem storedP {w w':World} {o:Obj} (ho:Only w.heap.size (w.alloc o) w'):Below w.heap.size w w':=((Below.refl _ _).alloc (Nat.le_refl _) o).trans (ho.below (Nat.le_refl _))
set_option maxRecDepth 100000 in
set_option maxHeartbeats 2000000 in
theorem parts_iter (n:Nat) (hn:1 ≤ n) (B:Nat) (G S I J:Int) (hm:mayG G S I J = true) :
  IterIx Fence.wide n Tryz.prog 109 #[.pointer (some ⟨B,0,none⟩)] (fun k => #[.agg (ptF S (I / 4) J k)]) (3 + 4 * G.toNat) (fun _ => False) (PtNeed B G S I J):=by
 obtain ⟨h1,h2,h3,h4,h5,h6,h7,h8,h9,h10,h11⟩:=(mayG_iff G S I J).1 hm
 obtain ⟨g,rfl⟩:∃ g:Nat,G = (g:Int):=⟨G.toNat,by omega⟩
 rw [Int.toNat_natCast]
 intro l F Fx W hJo hJxo hY h0 hN
 have HY:=Lib.hid hY
 have HJO:=Lib.hid hJo
 clear hY hJo hJxo
 have hc0:W.cell? ⟨B,0,none⟩ = some (.int .i64 (g:Int)):=hN.cell (i:=0) rfl
 have hc1:W.cell? ⟨B,1,none⟩ = some (.int .i64 S):=hN.cell (i:=1) rfl
 have hc2:W.cell? ⟨B,2,none⟩ = some (.int .i64 I):=hN.cell (i:=2) rfl
 have hc3:W.cell? ⟨B,3,none⟩ = some (.int .i64 J):=hN.cell (i:=3) rfl
 have t1:=i64_quo4 I h5
 refine callsIn_of_wp Tryz.func109 rfl trivial ?_ rfl
 simp only [Tryz.ntmps109,List.size_toArray,List.length_cons,List.length_nil,Nat.reduceAdd,Nat.reduceSub,Array.replicate_succ,Array.replicate_zero,List.push_toArray,List.append_toArray,List.nil_append,List.cons_append]
 have HJB:Hid (∀ k (A A':World),F k A → Below A.heap.size A A' → F k A'):=fun k A A' h hb => HJO.out k A _ h ⟨none,grown_below hb,fun r e => by cases e⟩
 have hal3:=zero_arr3
 have hA0:=At.new W 189 z15
 gi_wp2_with (first | (refine wpIn_storeAt rfl 189 (.tmp 4) (.tmp 20) rfl W.heap.size (h15 J) z15 rfl rfl hA0 info_parts3 rfl (all_h15 J) ?_))
 intro w1 hA1 ho1
 have hN1:PtNeed B g S I J 0 w1:=At.below hN (storedP ho1) hN.lt
 have hF1:=HJB.out _ _ _ h0 (storedP ho1)
 clear hc0 hc1 hc2 hc3 hA0 hN h0 ho1
 gi_wp2_with (first | (refine wpIn_loadAt rfl 189 (.tmp 4) rfl W.heap.size (h15 J) _ rfl hA1 Tryz.underlying189 rfl info_parts3 ?_))
 clear hA1
 gi_loopw [22] (fun u wr => ∃ k:Nat,k ≤ 3 ∧ u = .int .i64 (k:Int) ∧ F k wr ∧ PtNeed B g S I J 0 wr) (fun u _ => 3 - (intOf u).toNat)
 case atStart => exact ⟨0,by omega,rfl,hF1,hN1⟩
 case round =>
  clear hF1 hN1
  obtain ⟨k,hk,rfl,hF,hnd⟩:=hrel
  by_cases hlt:k < 3
  ·have HPK:Hid (k = 0 ∧ ptF S (I / 4) J k = pcells 1 0 0 1 0 ∨ k = 1 ∧ ptF S (I / 4) J k = pcells 2 0 1 1 0 ∨ k = 2 ∧ ptF S (I / 4) J k = pcells 3 0 2 J 0):=by
    have:k = 0 ∨ k = 1 ∨ k = 2:=by omega
    rcases this with rfl | rfl | rfl
    ·exact .inl ⟨rfl,rfl⟩
    ·exact .inr (.inl ⟨rfl,rfl⟩)
    ·exact .inr (.inr ⟨rfl,rfl⟩)
   have hY1:=fun A h1 h2 => HY.out k A (by omega) h1 h2
   obtain ⟨cs,hcs⟩:∃ cs,ptF S (I / 4) J k = cs:=⟨_,rfl⟩
   rw [hcs] at hY1
   have HY1:=Lib.hid hY1
   have hix:∀ W,(Instr.index 189 (.agg (h15 J)) (.int .i64 (k:Int))).run Tryz.prog W = .ok (.agg cs) W:=fun W => by
    rcases HPK.out with ⟨rfl,e⟩ | ⟨rfl,e⟩ | ⟨rfl,e⟩
    ·rw [← hcs,e];exact idx3_0 J W
    ·rw [← hcs,e];exact idx3_1 J W
    ·rw [← hcs,e];exact idx3_2 J W
   have hcsz:cs.size = 5:=by rcases HPK.out with ⟨rfl,e⟩ | ⟨rfl,e⟩ | ⟨rfl,e⟩ <;> (rw [← hcs,e];rfl)
   have hc1:cs.all (·.oneCell') = true:=by rcases HPK.out with ⟨rfl,e⟩ | ⟨rfl,e⟩ | ⟨rfl,e⟩ <;> (rw [← hcs,e];exact all_p _ _ _ _ _)
   clear hcs HPK hY1
   have hinf:(Tryz.prog.info? 126).map (·.size) = some cs.size:=by rw [hcsz];exact info_part
   have hA:=At.new wr 126 (pcells 0 0 0 0 0)
   have hal:=zero_part
   have hs0:(pcells 0 0 0 0 0).size = cs.size:=by rw [hcsz];rfl
   have l3:(k:Int) < 3:=by omega
   have HFN:Hid (F k wr ∧ PtNeed B g S I J 0 wr):=⟨hF,hnd⟩
   clear hF hnd hcsz
   gi_wp2_with (first | (refine wpIn_storeAt rfl 126 (.tmp 6) (.tmp 24) rfl wr.heap.size cs (pcells 0 0 0 0 0) rfl rfl hA hinf hs0 hc1 ?_))
   intro w2 hA2 ho2
   have hN2:PtNeed B g S I J 0 w2:=At.below HFN.out.2 (storedP ho2) (At.lt HFN.out.2)
   have hF2:=HJB.out _ _ _ HFN.out.1 (storedP ho2)
   obtain ⟨fn,tmps,assign,body,hy,hR⟩:=HY1.out w2 hF2 hN2
   clear HFN hA ho2 hix HY1 hc1 hs0
   gi_wp2_with (first | (refine wpIn_loadAt rfl 126 (.tmp 6) rfl wr.heap.size cs _ rfl hA2 Tryz.underlying126 rfl hinf ?_))
   refine hR.mono ?_
   rintro e W3 (⟨rfl,hJ3,hN3⟩ | ⟨rfl,hJx3⟩)
   ·gi_wp2
    go_roundw
    case rel => exact ⟨k + 1,by omega,int_eq (by omega),hJ3,hN3⟩
    case measure => simp [intOf];omega
   ·gi_wp2
    refine bodyPost_ret (results_none rfl _ _ _) rfl ?_
    exact ⟨⟨_,rfl⟩,.inr ⟨k,by omega,hJx3⟩⟩
  ·obtain rfl:k = 3:=by omega
   have hc0:wr.cell? ⟨B,0,none⟩ = some (.int .i64 (g:Int)):=hnd.cell (i:=0) rfl
   gi_wp2
   clear hc0
   gi_loopw [32] (fun u wr => ∃ γ:Nat,γ ≤ g ∧ u = .int .i64 (γ:Int) ∧ F (3 + 4 * γ) wr ∧ PtNeed B g S I J 0 wr) (fun u _ => g - (intOf u).toNat)
   case atStart => exact ⟨0,by omega,rfl,hF,hnd⟩
   case round =>
    clear hF hnd
    obtain ⟨γ,hγ,rfl,hF,hnd⟩:=hrel
    by_cases hlt2:γ < g
    ·have hc1:wr.cell? ⟨B,1,none⟩ = some (.int .i64 S):=hnd.cell (i:=1) rfl
     have hc3:wr.cell? ⟨B,3,none⟩ = some (.int .i64 J):=hnd.cell (i:=3) rfl
     have hgs:0 ≤ (γ:Int) * S ∧ (γ:Int) * S ≤ 2048:=by
      refine ⟨Int.mul_nonneg (by omega) (by omega),?_⟩
      have:=Int.mul_le_mul (show (γ:Int) ≤ 4 by omega) h4 (by omega) (by omega:(0:Int) ≤ 4)
      omega
     obtain ⟨hgs0,hgs1⟩:=hgs
     have l4:(γ:Int) < (g:Int):=by omega
     have hal4:=zero_arr4
     have HFN:Hid (F (3 + 4 * γ) wr ∧ PtNeed B g S I J 0 wr):=⟨hF,hnd⟩
     have hA0:=At.new wr 190 z20
     have HT4:Hid (0 ≤ I / 4 ∧ I / 4 ≤ 16):=by show _ ∧ _;omega
     have HPT:=Lib.hid (fun i hi => ptF_at S (I / 4) J γ (i:=i) hi)
     have HHT:Hid (3 + I / 4 ≤ S):=h10
     clear hF hnd t1 h10
     generalize I / 4 = t at *
     obtain ⟨ht0,ht1⟩:=HT4.out
     have ht2:=HHT.out
     have e1:IntKind.i64.wrap ((γ:Int) * S) = (γ:Int) * S:=IntWalk.i64_in _ (by omega)
     have e2:IntKind.i64.wrap (2 + J + (γ:Int) * S) = 2 + J + (γ:Int) * S:=IntWalk.i64_in _ (by omega)
     have e3:IntKind.i64.wrap (2 + J + (γ:Int) * S + 1) = 2 + J + (γ:Int) * S + 1:=IntWalk.i64_in _ (by omega)
     have e4:IntKind.i64.wrap (2 + J + (γ:Int) * S + 2) = 2 + J + (γ:Int) * S + 2:=IntWalk.i64_in _ (by omega)
     have e5:IntKind.i64.wrap (2 + J + (γ:Int) * S + 2 + t) = 2 + J + (γ:Int) * S + 2 + t:=IntWalk.i64_in _ (by omega)
     have e6:IntKind.i64.wrap (S - 2 - t) = S - 2 - t:=IntWalk.i64_in _ (by omega)
     have e7:IntKind.i64.wrap (2 + t) = 2 + t:=IntWalk.i64_in _ (by omega)
     gi_wp2_with (first | (refine wpIn_storeAt rfl 190 (.tmp 9) (.tmp 68) rfl wr.heap.size (h20 γ (2 + J + (γ:Int) * S) (2 + J + (γ:Int) * S + 1) (2 + J + (γ:Int) * S + 2) (2 + J + (γ:Int) * S + 2 + t) t (S - 2 - t) (2 + t)) z20 rfl rfl hA0 info_parts4 rfl (all_h20 _ _ _ _ _ _ _ _) ?_))
     intro w4 hA4 ho4
     have hN4:PtNeed B g S I J 0 w4:=At.below HFN.out.2 (storedP ho4) (At.lt HFN.out.2)
     have hF4:=HJB.out _ _ _ HFN.out.1 (storedP ho4)
     clear HFN hA0 ho4 hc1 hc3 e1 e2 e3 e4 e5 e6 e7
     obtain ⟨p1,hp1⟩:∃ p,2 + J + (γ:Int) * S = p:=⟨_,rfl⟩
     have HPT2:Hid (∀ i:Nat,i < 4 → ptF S t J (3 + 4 * γ + i) = if i = 0 then pcells 4 γ p1 1 0 else if i = 1 then pcells 5 γ (p1 + 1) 1 1 else if i = 2 then pcells 6 γ (p1 + 2) t 2 else pcells 7 γ (p1 + 2 + t) (S - 2 - t) (2 + t)):=fun i hi => by rw [HPT.out i hi,hp1]
     rw [hp1] at hA4 ⊢
     clear HPT hp1 hgs0 hgs1
     gi_wp2_with (first | (refine wpIn_loadAt rfl 190 (.tmp 9) rfl wr.heap.size (h20 γ p1 (p1 + 1) (p1 + 2) (p1 + 2 + t) t (S - 2 - t) (2 + t)) _ rfl hA4 Tryz.underlying190 rfl info_parts4 ?_))
     clear hA4 hal4
     gi_loopw [70] (fun u wr => ∃ i:Nat,i ≤ 4 ∧ u = .int .i64 (i:Int) ∧ F (3 + 4 * γ + i) wr ∧ PtNeed B g S I J 0 wr) (fun u _ => 4 - (intOf u).toNat)
     case atStart => exact ⟨0,by omega,rfl,hF4,hN4⟩
     case round =>
      clear hF4 hN4
      obtain ⟨i,hi,rfl,hF,hnd⟩:=hrel
      by_cases hlt3:i < 4
      ·have HPK:Hid (i = 0 ∧ ptF S t J (3 + 4 * γ + i) = pcells 4 γ p1 1 0 ∨ i = 1 ∧ ptF S t J (3 + 4 * γ + i) = pcells 5 γ (p1 + 1) 1 1 ∨ i = 2 ∧ ptF S t J (3 + 4 * γ + i) = pcells 6 γ (p1 + 2) t 2 ∨ i = 3 ∧ ptF S t J (3 + 4 * γ + i) = pcells 7 γ (p1 + 2 + t) (S - 2 - t) (2 + t)):=by
        have:i = 0 ∨ i = 1 ∨ i = 2 ∨ i = 3:=by omega
        rcases this with rfl | rfl | rfl | rfl
        ·exact .inl ⟨rfl,HPT2.out 0 (by omega)⟩
        ·exact .inr (.inl ⟨rfl,HPT2.out 1 (by omega)⟩)
        ·exact .inr (.inr (.inl ⟨rfl,HPT2.out 2 (by omega)⟩))
        ·exact .inr (.inr (.inr ⟨rfl,HPT2.out 3 (by omega)⟩))
       have hY1:=fun A h1 h2 => HY.out (3 + 4 * γ + i) A (by omega) h1 h2
       obtain ⟨cs,hcs⟩:∃ cs,ptF S t J (3 + 4 * γ + i) = cs:=⟨_,rfl⟩
       rw [hcs] at hY1
       have HY1:=Lib.hid hY1
       have hix:∀ W,(Instr.index 190 (.agg (h20 γ p1 (p1 + 1) (p1 + 2) (p1 + 2 + t) t (S - 2 - t) (2 + t))) (.int .i64 (i:Int))).run Tryz.prog W = .ok (.agg cs) W:=fun W => by
        rcases HPK.out with ⟨rfl,e⟩ | ⟨rfl,e⟩ | ⟨rfl,e⟩ | ⟨rfl,e⟩
        ·rw [← hcs,e];exact idx4_0 _ _ _ _ _ _ _ _ W
        ·rw [← hcs,e];exact idx4_1 _ _ _ _ _ _ _ _ W
        ·rw [← hcs,e];exact idx4_2 _ _ _ _ _ _ _ _ W
        ·rw [← hcs,e];exact idx4_3 _ _ _ _ _ _ _ _ W
       have hcsz:cs.size = 5:=by rcases HPK.out with ⟨rfl,e⟩ | ⟨rfl,e⟩ | ⟨rfl,e⟩ | ⟨rfl,e⟩ <;> (rw [← hcs,e];rfl)
       have hc1:cs.all (·.oneCell') = true:=by rcases HPK.out with ⟨rfl,e⟩ | ⟨rfl,e⟩ | ⟨rfl,e⟩ | ⟨rfl,e⟩ <;> (rw [← hcs,e];exact all_p _ _ _ _ _)
       clear hcs HPK hY1
       have hinf:(Tryz.prog.info? 126).map (·.size) = some cs.size:=by rw [hcsz];exact info_part
       have hA:=At.new wr 126 (pcells 0 0 0 0 0)
       have hal:=zero_part
       have hs0:(pcells 0 0 0 0 0).size = cs.size:=by rw [hcsz];rfl
       have l5:(i:Int) < 4:=by omega
       have HFN:Hid (F (3 + 4 * γ + i) wr ∧ PtNeed B g S I J 0 wr):=⟨hF,hnd⟩
       clear hF hnd hcsz
       gi_wp2_with (first | (refine wpIn_storeAt rfl 126 (.tmp 11) (.tmp 72) rfl wr.heap.size cs (pcells 0 0 0 0 0) rfl rfl hA hinf hs0 hc1 ?_))
       intro w2 hA2 ho2
       have hN2:PtNeed B g S I J 0 w2:=At.below HFN.out.2 (storedP ho2) (At.lt HFN.out.2)
       have hF2:=HJB.out _ _ _ HFN.out.1 (storedP ho2)
       obtain ⟨fn,tmps,assign,body,hy,hR⟩:=HY1.out w2 hF2 hN2
       clear HFN hA ho2 hix HY1 hc1 hs0
       gi_wp2_with (first | (refine wpIn_loadAt rfl 126 (.tmp 11) rfl wr.heap.size cs _ rfl hA2 Tryz.underlying126 rfl hinf ?_))
       refine hR.mono ?_
       rintro e W3 (⟨rfl,hJ3,hN3⟩ | ⟨rfl,hJx3⟩)
       ·gi_wp2
        go_roundw
        case rel => exact ⟨i + 1,by omega,int_eq (by omega),hJ3,hN3⟩
        case measure => simp [intOf];omega
       ·gi_wp2
        refine bodyPost_ret (results_none rfl _ _ _) rfl ?_
        exact ⟨⟨_,rfl⟩,.inr ⟨3 + 4 * γ + i,by omega,hJx3⟩⟩
      ·obtain rfl:i = 4:=by omega
       have l5:¬ ((4:Nat):Int) < 4:=by omega
       gi_wp2
       go_roundw
       case rel =>
        rw [show 3 + 4 * γ + 4 = 3 + 4 * (γ + 1) by omega] at hF
        exact ⟨_,_,_,_,.int .i64 ((γ:Int) + 1),⟨γ + 1,by omega,int_eq (by omega),hF⟩,rfl,rfl,rfl,rfl,rfl⟩
       case measure => simp [intOf];omega
    ·obtain rfl:γ = g:=by omega
     have l4:¬ (γ:Int) < (γ:Int):=by omega
     gi_wp2
     refine bodyPost_end (results_none rfl _ _ _) rfl ?_
     exact ⟨⟨_,rfl⟩,.inl (hF)⟩
end Go.Proofs.YtnbmmhoofilmfaaGreatDoor
